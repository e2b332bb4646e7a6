/- Of the proof of a statement: Take, StOwn, OwnMore. -/
import Derived.Test.YtcpgnjmaampglaaGreatDoorWRdRow
import Derived.Test.YtcpgnjmaampglaaGreatDoorWRowsP
set_option linter.unusedVariables false
set_option linter.unusedSimpArgs false
set_option maxRecDepth 100000
set_option maxHeartbeats 8000000
/- The walks of Take: the rows of a table, read one by one. -/
namespace Go.Proofs.YtcpgnjmaampglaaGreatDoor
open Go.Lib (hid)
open Go.RowKit
theorem Kp (g:Nat) (σ:RR Unit) (v:Int) (w:World) (h:eS w g σ) :
 Calls Tryz.prog 28 #[.pointer (some ⟨g,0,none⟩),.int .i64 v] w (kV g (σ.bind fun _ s=>iR v s) (fun x:aB=>.agg (aH x).toArray) (fun _=>True) w):=by
 by_cases h1:1<v
 · by_cases h2:2<v
   · exact vK.2 g σ v w h1 h2 h
   · exact vK.1 g σ v w h1 h2 h
 · exact Ov g σ v w h1 (by omega) h
theorem GX (g:Nat) (σ:RR Unit) (v:Int) (w:World) (h:eS w g σ) :
 Calls Tryz.prog 31 #[.pointer (some ⟨g,0,none⟩),.int .i64 v] w (kV g (σ.bind fun _ s=>gy v s) (fun x:av=>.agg (aI x).toArray) (fun _=>True) w):=by
 by_cases h1:1<v
 · exact Ms g σ v w h1 h
 · exact Mr g σ v w h1 h
theorem oo:(Tryz.prog.info? 59).map (fun i=>(i.zero,i.size,i.bytes))=some (some (.agg #[.string ⟨#[]⟩,.int .i64 0,.int .i64 0,.int .i64 0,.string ⟨#[]⟩]),5,56):=by kernel_rfl
theorem mD:(Tryz.prog.info? 61).map (fun i=>(i.zero,i.size,i.bytes))=some (some (.agg #[.string ⟨#[]⟩,.int .i64 0,.string ⟨#[]⟩]),3,40):=by kernel_rfl
theorem kD:(Tryz.prog.info? 63).map (fun i=>(i.zero,i.size,i.bytes))=some (some (.agg #[.string ⟨#[]⟩,.string ⟨#[]⟩,.int .i64 0]),3,40):=by kernel_rfl
theorem DH:(Tryz.prog.info? 9).map (fun i=>(i.zero,i.size,i.bytes))=some (some (.string ⟨#[]⟩),1,16):=by kernel_rfl
theorem kE (x:aB):∀ u ∈ aH x,u.oneCell'=true:=by intro u hu; simp [aH] at hu; rcases hu with rfl | rfl | rfl | rfl | rfl <;> rfl
theorem jv (x:av):∀ u ∈ aI x,u.oneCell'=true:=by intro u hu; simp [aI] at hu; rcases hu with rfl | rfl | rfl <;> rfl
theorem iA (x:ak):∀ u ∈ aE x,u.oneCell'=true:=by intro u hu; simp [aE] at hu; rcases hu with rfl | rfl | rfl <;> rfl
theorem Bp (x:ByteArray):∀ u ∈ mN x,u.oneCell'=true:=by intro u hu; simp [mN] at hu; subst hu; rfl
theorem aD {w w':World} {base g n sz:Nat} {e:TypeId} {v:Value} {xs:List Value} (ho:w.ownsRow base e sz v n xs) (hg:w.grownBy w' (some g)) (hgb:g<base):w'.ownsRow base e sz v n xs:=by
 rcases ho with ⟨h1,h | ⟨q,cap,cur,hv,hq,hgq,r⟩⟩
 · exact⟨h1,.inl h⟩
 · have hlt:q<w.heap.size:=(Array.getElem?_eq_some_iff.1 hgq).1
   exact⟨h1,.inr ⟨q,cap,cur,hv,hq,(hg.block q hlt (by simp; omega)).trans hgq,r⟩⟩
theorem eS.oY {w w':World} {g base:Nat} {σ:RR Unit} {v v':Value} (h:eS w g σ) (hg:dE w w' v v') (hv:∀ k,v.ownBlock=some k→base≤k) (hgb:g<base):eS w' g σ:=by
 have hgr:=hg.grown
 cases hb:v.ownBlock with
 | none=>
  rw [hb] at hgr
  exact h.grow (b:=w.heap.size) ⟨hgr.os,hgr.tape,hgr.output,hgr.size,fun k hk _=>hgr.block k hk (by simp)⟩ h.at_.lt
 | some b=>
  rw [hb] at hgr
  exact h.grow hgr (Nat.lt_of_lt_of_le hgb (hv b hb))
theorem Blk.oY {w w':World} {k base:Nat} {t:TypeId} {cs:Array Value} {v v':Value} (h:Blk w k t cs) (hg:dE w w' v v') (hv:∀ q,v.ownBlock=some q→base≤q) (hkb:k<base):Blk w' k t cs:=
 (hg.grown.block k h.lt (fun e=>by have:=hv k e.symm; omega)).trans h
def nN {α:Type} (p:ByteArray→RR α) (tot:RR (List α)) (n most k:Nat) (l:List α) (τ:RR Unit):Prop:=match τ with
 | .ok _ s=>n≤most∧tot=(vA p (n - k) s).bind fun l' r=>.ok (l ++ l') r
 | .bad x=>tot = .bad x
def GY {α:Type} (g:Nat) (tot:RR (List α)) (T:TypeId) (sz:Nat) (enc:α→List Value) (w:World) (e:Ending) (w':World):Prop:=
 ∃ A n c,e = .returned (.slice A n c)∧eS w' g tot.st∧w.grownBy w' (some g)∧∀ l r,tot = .ok l r→l.length=n∧w'.ownsRow w.heap.size T sz (.slice A n c) n (au enc l)
def B8 {α:Type} (p:ByteArray→RR α) (tot:RR (List α)) (g n most:Nat) (T:TypeId) (sz:Nat) (enc:α→List Value) (w:World) (out i:Value) (wr:World):Prop:=
 ∃ (k:Nat) (A:Option Addr) (c:Nat) (l:List α) (τ:RR Unit),k≤n∧i = .int .i64 k∧out = .slice A k c∧l.length=k∧eS wr g τ∧w.grownBy wr (some g)∧wr.ownsRow w.heap.size T sz (.slice A k c) k (au enc l)∧nN p tot n most k l τ
theorem nN.step {α:Type} {p:ByteArray→RR α} {tot:RR (List α)} {n most k:Nat} {l:List α} {u:Unit} {s:ByteArray} {a:α} {Z:α→Prop} (h:nN p tot n most k l (.ok u s)) (hk:k<n) (hv:eY ((RR.ok u s).bind fun _ s=>p s) Z a) :
 nN p tot n most (k+1) (l ++ [a]) ((RR.ok u s).bind fun _ s=>p s).st:=by
 obtain⟨h1,h2⟩:=h
 rw [RR.bind_ok] at hv ⊢
 rw [show n - k=(n - (k+1))+1 by omega,vA] at h2
 cases hp:p s with
 | bad x=>
  rw [hp] at h2
  exact h2
 | ok b r=>
  rw [hp] at h2 hv
  have hv:a=b:=hv
  subst hv
  refine⟨h1,?_⟩
  rw [h2,RR.bind_ok]
  cases vA p (n - (k+1)) r with
  | bad x=>rfl
  | ok l' r'=>simp [RR.bind_ok]
theorem nN.ended {α:Type} {p:ByteArray→RR α} {tot:RR (List α)} {n most:Nat} {l:List α} {τ:RR Unit} (h:nN p tot n most n l τ):tot.st=τ∧∀ l' r,tot = .ok l' r→l'=l:=by
 cases τ with
 | bad x=>
  have h:tot = .bad x:=h
  subst h
  exact⟨rfl,fun _ _ he=>by cases he⟩
 | ok u s=>
  obtain⟨_,h2⟩:=h
  rw [Nat.sub_self,vA,RR.bind_ok,List.append_nil] at h2
  subst h2
  exact⟨rfl,fun l' r he=>by injection he with h1 h2; exact h1.symm⟩
theorem nN.dead {α:Type} {p:ByteArray→RR α} {tot:RR (List α)} {n most k x:Nat} {l:List α} (h:nN p tot n most k l (.bad x)):tot.st = .bad x∧∀ l' r,tot ≠ .ok l' r:=by
 have h:tot = .bad x:=h
 subst h
 exact⟨rfl,fun _ _ he=>by cases he⟩
theorem nN.start {α:Type} {p:ByteArray→RR α} {σ:RR Unit} {most n:Nat} (hv:eY (σ.bind fun _ s=>bZ s) (fun n=>n=0) n) :
 (n≤most→nN p (σ.bind fun _ s=>dH most p s) n most 0 [] (σ.bind fun _ s=>bZ s).st) ∧
 (most<n→∃ s,(σ.bind fun _ s=>bZ s).st = .ok () s∧nN p (σ.bind fun _ s=>dH most p s) n most 0 [] (.bad 2)):=by
 cases σ with
 | bad x=>
  rw [RR.iE] at hv
  have hv:n=0:=hv
  exact⟨fun _=>rfl,fun h=>by omega⟩
 | ok u s=>
  rw [RR.bind_ok,RR.bind_ok] at *
  unfold dH Ib
  cases hp:bZ s with
  | bad x=>
   rw [hp] at hv
   have hv:n=0:=hv
   exact⟨fun _=>rfl,fun h=>by omega⟩
  | ok b r=>
   rw [hp] at hv
   have hv:n=b:=hv
   subst hv
   refine⟨fun h=>⟨h,?_⟩,fun h=>⟨r,rfl,?_⟩⟩
   · rw [RR.bind_ok,if_neg (by omega),RR.bind_ok,Nat.sub_zero]
     cases vA p n r with
     | bad x=>rfl
     | ok l' r'=>simp [RR.bind_ok]
   · show _=_
     rw [RR.bind_ok,if_pos h,RR.iE]
theorem AH {x:Nat} (h:(RR.bad x:RR Unit).Good xJ):((x:Int) != 0)=true:=by rw [bne_iff_ne]; have:=h.1; omega
theorem OE (g p q:Nat) (σ:RR Unit) (v:Int) (w:World) (h:eS w g σ) (hp:Blk w p 77 #[.pointer (some ⟨g,0,none⟩)]) (hpg:p≠g) (hq:Blk w q 3 #[.int .i64 v]) :
 Calls Tryz.prog 27 #[.pointer (some ⟨p,0,none⟩),.pointer (some ⟨q,0,none⟩)] w (kV g (σ.bind fun _ s=>iR v s) (fun x:aB=>.agg (aH x).toArray) (fun _=>True) w):=by
 have H0:=hid (RGo.start h 59 #[.string ⟨#[]⟩,.int .i64 0,.int .i64 0,.int .i64 0,.string ⟨#[]⟩])
 have y0:w.cell? ⟨p,0,none⟩=some (.pointer (some ⟨g,0,none⟩)):=hp.cell 0
 have hpl:=hp.lt
 have y1:w.cell? ⟨q,0,none⟩=some (.int .i64 v):=hq.cell 0
 have hql:=hq.lt
 clear h hp hq
 go_enter Tryz.func27,Tryz.ntmps27
 go_wp2_with fail
 refine Calls.mono (Kp g _ v _ H0.out.ok) ?_
 rintro e w1 ⟨⟨name,prio,need,tries,tag⟩,rfl,hv,ok,kp⟩
 have V:=hid hv
 have H1:=H0.out.next ok kp
 have u0:w1.frozen? ⟨w.heap.size,0,none⟩=false:=H1.blk.thaw 0
 have u1:w1.frozen? ⟨w.heap.size,1,none⟩=false:=H1.blk.thaw 1
 have u2:w1.frozen? ⟨w.heap.size,2,none⟩=false:=H1.blk.thaw 2
 have u3:w1.frozen? ⟨w.heap.size,3,none⟩=false:=H1.blk.thaw 3
 have u4:w1.frozen? ⟨w.heap.size,4,none⟩=false:=H1.blk.thaw 4
 obtain⟨s0,s1,s2,s3,s4⟩:=Blk.c5 (H1.blk)
 have Q:=(((((H1.set 0 (.string name)).set 1 (.int .i64 prio)).set 2 (.int .i64 need)).set 3 (.int .i64 tries)).set 4 (.string tag))
 have q0:=(show _=(some (.string name):Option Value) from Q.blk.cell 0)
 have q1:=(show _=(some (.int .i64 prio):Option Value) from Q.blk.cell 1)
 have q2:=(show _=(some (.int .i64 need):Option Value) from Q.blk.cell 2)
 have q3:=(show _=(some (.int .i64 tries):Option Value) from Q.blk.cell 3)
 have q4:=(show _=(some (.string tag):Option Value) from Q.blk.cell 4)
 have Hok:=hid Q.ok
 have Hkp:=hid Q.keep
 clear Q H1 hv ok kp H0
 unfold aH
 dsimp only
 go_wp2
 refine bodyPost_ret (v:=.agg #[.string name,.int .i64 prio,.int .i64 need,.int .i64 tries,.string tag]) (by simp [results,Tryz.results27,go_sem, *]) rfl ?_
 exact⟨⟨name,prio,need,tries,tag⟩,rfl,V.out,Hok.out,Hkp.out⟩
theorem MH (g p q:Nat) (σ:RR Unit) (v:Int) (w:World) (h:eS w g σ) (hp:Blk w p 77 #[.pointer (some ⟨g,0,none⟩)]) (hpg:p≠g) (hq:Blk w q 3 #[.int .i64 v]) :
 Calls Tryz.prog 30 #[.pointer (some ⟨p,0,none⟩),.pointer (some ⟨q,0,none⟩)] w (kV g (σ.bind fun _ s=>gy v s) (fun x:av=>.agg (aI x).toArray) (fun _=>True) w):=by
 have H0:=hid (RGo.start h 61 #[.string ⟨#[]⟩,.int .i64 0,.string ⟨#[]⟩])
 have y0:w.cell? ⟨p,0,none⟩=some (.pointer (some ⟨g,0,none⟩)):=hp.cell 0
 have hpl:=hp.lt
 have y1:w.cell? ⟨q,0,none⟩=some (.int .i64 v):=hq.cell 0
 have hql:=hq.lt
 clear h hp hq
 go_enter Tryz.func30,Tryz.ntmps30
 go_wp2_with fail
 refine Calls.mono (GX g _ v _ H0.out.ok) ?_
 rintro e w1 ⟨⟨name,room,zone⟩,rfl,hv,ok,kp⟩
 have V:=hid hv
 have H1:=H0.out.next ok kp
 have u0:w1.frozen? ⟨w.heap.size,0,none⟩=false:=H1.blk.thaw 0
 have u1:w1.frozen? ⟨w.heap.size,1,none⟩=false:=H1.blk.thaw 1
 have u2:w1.frozen? ⟨w.heap.size,2,none⟩=false:=H1.blk.thaw 2
 have s0:w1.cell? ⟨w.heap.size,0,none⟩=some (.string ⟨#[]⟩):=H1.blk.cell 0
 have s1:w1.cell? ⟨w.heap.size,1,none⟩=some (.int .i64 0):=H1.blk.cell 1
 have s2:w1.cell? ⟨w.heap.size,2,none⟩=some (.string ⟨#[]⟩):=H1.blk.cell 2
 have Q:=(((H1.set 0 (.string name)).set 1 (.int .i64 room)).set 2 (.string zone))
 have q0:=(show _=(some (.string name):Option Value) from Q.blk.cell 0)
 have q1:=(show _=(some (.int .i64 room):Option Value) from Q.blk.cell 1)
 have q2:=(show _=(some (.string zone):Option Value) from Q.blk.cell 2)
 have Hok:=hid Q.ok
 have Hkp:=hid Q.keep
 clear Q H1 hv ok kp H0
 unfold aI
 dsimp only
 go_wp2
 refine bodyPost_ret (v:=.agg #[.string name,.int .i64 room,.string zone]) (by simp [results,Tryz.results30,go_sem, *]) rfl ?_
 exact⟨⟨name,room,zone⟩,rfl,V.out,Hok.out,Hkp.out⟩
theorem tH :
 (∀ (g p q most:Nat) (σ:RR Unit) (v:Int) (w:World) (h:eS w g σ) (hm:most≤1000) (hp:Blk w p 77 #[.pointer (some ⟨g,0,none⟩)]) (hpg:p≠g) (hq:Blk w q 3 #[.int .i64 v]) (hqg:q≠g),Calls Tryz.prog 26 #[.pointer (some ⟨g,0,none⟩),.int .i64 (most:Int),.func (.func 27) #[] #[.pointer (some ⟨p,0,none⟩),.pointer (some ⟨q,0,none⟩)]] w (GY g (σ.bind fun _ s=>dH most (iR v) s) 59 5 aH w)) ∧
 (∀ (g p q most:Nat) (σ:RR Unit) (v:Int) (w:World) (h:eS w g σ) (hm:most≤1000) (hp:Blk w p 77 #[.pointer (some ⟨g,0,none⟩)]) (hpg:p≠g) (hq:Blk w q 3 #[.int .i64 v]) (hqg:q≠g),Calls Tryz.prog 29 #[.pointer (some ⟨g,0,none⟩),.int .i64 (most:Int),.func (.func 30) #[] #[.pointer (some ⟨p,0,none⟩),.pointer (some ⟨q,0,none⟩)]] w (GY g (σ.bind fun _ s=>dH most (gy v) s) 61 3 aI w)) ∧
 (∀ (g most:Nat) (σ:RR Unit) (w:World) (h:eS w g σ) (hm:most≤1000),Calls Tryz.prog 32 #[.pointer (some ⟨g,0,none⟩),.int .i64 (most:Int),.func (.func 33) #[.pointer (some ⟨g,0,none⟩)] #[]] w (GY g (σ.bind fun _ s=>dH most (gE) s) 63 3 aE w)):=by
 refine⟨@fun g p q most σ v w h hm hp hpg hq hqg=>(fun(jM0 jM3:Unit)=>?_) () (),@fun g p q most σ v w h hm hp hpg hq hqg=>(fun(jM1 jM3:Unit)=>?_) () (),@fun g most σ w h hm=>(fun(jM2:Unit)=>?_) ()⟩<;>(
 have HN:=hid (jS g σ w h)
 have hgl:=h.at_.lt
 first
  |(
   guard_hyp jM0
   have Hp:=hid hp
   have Hq:=hid hq
   clear h hp hq
   generalize htot:(σ.bind fun _ s=>dH most (iR v) s)=tot)
  |(
   guard_hyp jM1
   have Hp:=hid hp
   have Hq:=hid hq
   clear h hp hq
   generalize htot:(σ.bind fun _ s=>dH most (gy v) s)=tot)
  |(
   guard_hyp jM2
   clear h
   generalize htot:(σ.bind fun _ s=>dH most (gE) s)=tot)
 have Htot:=hid htot
 clear htot
 first|(guard_hyp jM0;go_enter Tryz.func26,Tryz.ntmps26)|(guard_hyp jM1;go_enter Tryz.func29,Tryz.ntmps29)|go_enter Tryz.func32,Tryz.ntmps32
 go_wp2_with fail
 refine Calls.mono HN.out ?_
 rintro e w1 ⟨n,rfl,hv,ok1,kp1⟩
 first
  |(
   guard_hyp jM0
   have hst:=nN.start (p:=iR v) (most:=most) hv)
  |(
   guard_hyp jM1
   have hst:=nN.start (p:=gy v) (most:=most) hv)
  |(
   guard_hyp jM2
   have hst:=nN.start (p:=gE) (most:=most) hv)
 rw [Htot.out] at hst
 have hle:=Ar hv
 have Hst:=hid hst
 have Ok1:=hid ok1
 have Kp1:=hid kp1
 clear hst hv ok1 kp1
 by_cases hbig:most<n
 · have dm:decide ((most:Int)<(n:Int))=true:=decide_eq_true (by omega)
   obtain⟨s,hs,Pg⟩:=Hst.out.2 hbig
   have hok1:=Ok1.out
   rw [hs] at hok1
   have JF:=hid hok1
   have Rh:=hid Pg
   clear hs Pg hok1
   go_wp2_with fail
   refine Calls.mono (wK g s 2 0 w1 JF.out.at_) ?_
   rintro e w2 ⟨rfl,hA2,hg2⟩
   have Ok2:=hid (JF.out.next (σ':=.bad 2) ⟨s,JF.out.good,hA2⟩ ⟨by decide,by decide⟩ hg2)
   have Kp2:=hid (aM Kp1.out hg2)
   clear hA2 hg2
   go_wp2
   first
    |(
     guard_hyp jM0
     go_loopw [8,17] (fun out i wr=>B8 (iR v) tot g n most 59 5 aH w out i wr) (fun _ i _=>n - (intOf i).toNat))
    |(
     guard_hyp jM1
     go_loopw [8,17] (fun out i wr=>B8 (gy v) tot g n most 61 3 aI w out i wr) (fun _ i _=>n - (intOf i).toNat))
    |(
     guard_hyp jM2
     go_loopw [8,17] (fun out i wr=>B8 (gE) tot g n most 63 3 aE w out i wr) (fun _ i _=>n - (intOf i).toNat))
   case atStart=>exact⟨0,none,0,[],_,Nat.zero_le _,rfl,rfl,rfl,Ok2.out,Kp2.out,World.ownsRow_nil _ _ _ _,Rh.out⟩
   case round=>
    obtain⟨k,A,c,l,τ,hk,rfl,rfl,hl,hok,hkp,ho,hrel⟩:=hrel
    have Hok:=hid hok
    have Hkp:=hid hkp
    have Ho:=hid ho
    have xY:=hid hrel
    have Hl:=hid hl
    have hwr:=hkp.size
    clear hok hkp ho hrel hl
    by_cases hlt:k<n
    · cases τ with
      | bad x=>
       obtain⟨s,_,hA⟩:=Hok.out.at_
       have y1:wr.cell? ⟨g,1,none⟩=some (.int .i64 (x:Int)):=Blk.cell hA 1
       have hne:=AH Hok.out.good
       clear hA
       go_wp2
       go_ret
       exact⟨none,0,0,rfl,by rw [xY.out.dead.1]; exact Hok.out,Hkp.out,fun l r he=>absurd he (xY.out.dead.2 l r)⟩
      | ok u s=>
       exact absurd xY.out.1 (by omega)
    · obtain rfl:n=k:=by omega
      go_wp2
      go_ret
      exact⟨A,n,c,rfl,by rw [xY.out.ended.1]; exact Hok.out,Hkp.out,fun l' r he=>by rw [xY.out.ended.2 l' r he]; exact⟨Hl.out,Ho.out⟩⟩
 · have dm:decide ((most:Int)<(n:Int))=false:=decide_eq_false (by omega)
   go_wp2
   first
    |(
     guard_hyp jM0
     go_loopw [8,17] (fun out i wr=>B8 (iR v) tot g n most 59 5 aH w out i wr) (fun _ i _=>n - (intOf i).toNat))
    |(
     guard_hyp jM1
     go_loopw [8,17] (fun out i wr=>B8 (gy v) tot g n most 61 3 aI w out i wr) (fun _ i _=>n - (intOf i).toNat))
    |(
     guard_hyp jM2
     go_loopw [8,17] (fun out i wr=>B8 (gE) tot g n most 63 3 aE w out i wr) (fun _ i _=>n - (intOf i).toNat))
   case atStart=>exact⟨0,none,0,[],_,Nat.zero_le _,rfl,rfl,rfl,Ok1.out,Kp1.out,World.ownsRow_nil _ _ _ _,Hst.out.1 (by omega)⟩
   case round=>
    obtain⟨k,A,c,l,τ,hk,rfl,rfl,hl,hok,hkp,ho,hrel⟩:=hrel
    have Hok:=hid hok
    have Hkp:=hid hkp
    have Ho:=hid ho
    have xY:=hid hrel
    have Hl:=hid hl
    have hwr:=hkp.size
    clear hok hkp ho hrel hl
    by_cases hlt:k<n
    · cases τ with
      | bad x=>
       obtain⟨s,_,hA⟩:=Hok.out.at_
       have y1:wr.cell? ⟨g,1,none⟩=some (.int .i64 (x:Int)):=Blk.cell hA 1
       have hne:=AH Hok.out.good
       clear hA
       go_wp2
       go_ret
       exact⟨none,0,0,rfl,by rw [xY.out.dead.1]; exact Hok.out,Hkp.out,fun l r he=>absurd he (xY.out.dead.2 l r)⟩
      | ok u s=>
       have hA:oL wr g s 0:=Hok.out.at_
       have y1:wr.cell? ⟨g,1,none⟩=some (.int .i64 0):=Blk.cell hA 1
       have hnm:=xY.out.1
       first
        |(
         guard_hyp jM3
         have HPr:=hid (aA Hkp.out Hp.out hpg)
         have HQr:=hid (aA Hkp.out Hq.out hqg))
        |skip
       clear hA
       go_wp2_with fail
       first
        |(
         guard_hyp jM0
         refine Calls.mono (OE g p q _ v _ Hok.out HPr.out hpg HQr.out) ?_
         rintro e w3 ⟨⟨name,prio,need,tries,tag⟩,rfl,hv3,ok3,kp3⟩)
        |(
         guard_hyp jM1
         refine Calls.mono (MH g p q _ v _ Hok.out HPr.out hpg HQr.out) ?_
         rintro e w3 ⟨⟨name,room,zone⟩,rfl,hv3,ok3,kp3⟩)
        |(
         guard_hyp jM2
         refine Calls.mono (Ow g _ _ Hok.out) ?_
         rintro e w3 ⟨⟨job,node,till⟩,rfl,hv3,ok3,kp3⟩)
       have MI:=hid (xY.out.step hlt hv3)
       have ho3:=aD Ho.out kp3 hgl
       have hbr:w.heap.size≤w3.heap.size:=by have:=kp3.size; omega
       have Ok3:=hid ok3
       have Kp3:=hid (aM Hkp.out kp3)
       have Hlt:=hid ho3.lt
       clear hv3 ok3 kp3 y1
       dsimp only
       first
        |(
         guard_hyp jM0
         rw [show (Value.agg (aH ⟨name,prio,need,tries,tag⟩).toArray) = .agg #[.string name,.int .i64 prio,.int .i64 need,.int .i64 tries,.string tag] from rfl]
         go_wp2_with (at_builtin; refine fu aH rfl _ _ 22 59 (.agg #[.string ⟨#[]⟩,.int .i64 0,.int .i64 0,.int .i64 0,.string ⟨#[]⟩]) 5 56 rfl Tryz.underlying22 oo rfl (by decide) aN kE w.heap.size _ _ _ l rfl ho3 _ ⟨name,prio,need,tries,tag⟩ rfl _ (by simp) rfl (by omega) (by unfold maxLen; omega) hbr ?_; intro A2 c2 w4 ho4 hg4))
        |(
         guard_hyp jM1
         rw [show (Value.agg (aI ⟨name,room,zone⟩).toArray) = .agg #[.string name,.int .i64 room,.string zone] from rfl]
         go_wp2_with (at_builtin; refine fu aI rfl _ _ 23 61 (.agg #[.string ⟨#[]⟩,.int .i64 0,.string ⟨#[]⟩]) 3 40 rfl Tryz.underlying23 mD rfl (by decide) bF jv w.heap.size _ _ _ l rfl ho3 _ ⟨name,room,zone⟩ rfl _ (by simp) rfl (by omega) (by unfold maxLen; omega) hbr ?_; intro A2 c2 w4 ho4 hg4))
        |(
         guard_hyp jM2
         rw [show (Value.agg (aE ⟨job,node,till⟩).toArray) = .agg #[.string job,.string node,.int .i64 till] from rfl]
         go_wp2_with (at_builtin; refine fu aE rfl _ _ 24 63 (.agg #[.string ⟨#[]⟩,.string ⟨#[]⟩,.int .i64 0]) 3 40 rfl Tryz.underlying24 kD rfl (by decide) bB iA w.heap.size _ _ _ l rfl ho3 _ ⟨job,node,till⟩ rfl _ (by simp) rfl (by omega) (by unfold maxLen; omega) hbr ?_; intro A2 c2 w4 ho4 hg4))
       have Ok4:=hid (Ok3.out.oY hg4 (fun k hk=>(Hlt.out k hk).1) hgl)
       have Kp4:=hid (iN Kp3.out hg4 (fun k hk=>(Hlt.out k hk).1))
       go_roundw
       first
        |(
         guard_hyp jM0
         case rel=>exact⟨k+1,A2,c2,l ++ [⟨name,prio,need,tries,tag⟩],_,by omega,by go_num,rfl,by simp [Hl.out],Ok4.out,Kp4.out,ho4,MI.out⟩)
        |(
         guard_hyp jM1
         case rel=>exact⟨k+1,A2,c2,l ++ [⟨name,room,zone⟩],_,by omega,by go_num,rfl,by simp [Hl.out],Ok4.out,Kp4.out,ho4,MI.out⟩)
        |(
         guard_hyp jM2
         case rel=>exact⟨k+1,A2,c2,l ++ [⟨job,node,till⟩],_,by omega,by go_num,rfl,by simp [Hl.out],Ok4.out,Kp4.out,ho4,MI.out⟩)
       case measure=>simp [intOf]; omega
    · obtain rfl:n=k:=by omega
      go_wp2
      go_ret
      exact⟨A,n,c,rfl,by rw [xY.out.ended.1]; exact Hok.out,Hkp.out,fun l' r he=>by rw [xY.out.ended.2 l' r he]; exact⟨Hl.out,Ho.out⟩⟩)
structure Two (w w':World) (a b:Nat):Prop where
 os:w'.os=w.os
 tape:w'.tape=w.tape
 output:w'.output=w.output
 size:w.heap.size≤w'.heap.size
 block:∀ k,k<w.heap.size→k≠a→k≠b→w'.heap[k]? = w.heap[k]?
theorem Two.refl (w:World) (a b:Nat):Two w w a b:=⟨rfl,rfl,rfl,Nat.le_refl _,fun _ _ _ _=>rfl⟩
theorem Two.fst {w u v:World} {a b:Nat} (h:Two w u a b) (hg:u.grownBy v (some a)):Two w v a b:=
 ⟨hg.os.trans h.os,hg.tape.trans h.tape,hg.output.trans h.output,Nat.le_trans h.size hg.size,fun k hk h1 h2=>(hg.block k (Nat.lt_of_lt_of_le hk h.size) (by simp; exact h1)).trans (h.block k hk h1 h2)⟩
theorem Two.snd {w u v:World} {a b:Nat} (h:Two w u a b) (hg:u.grownBy v (some b)):Two w v a b:=
 ⟨hg.os.trans h.os,hg.tape.trans h.tape,hg.output.trans h.output,Nat.le_trans h.size hg.size,fun k hk h1 h2=>(hg.block k (Nat.lt_of_lt_of_le hk h.size) (by simp; exact h2)).trans (h.block k hk h1 h2)⟩
theorem Two.blk {w u:World} {a b k:Nat} {t:TypeId} {cs:Array Value} (h:Two w u a b) (hk:Blk w k t cs) (h1:k≠a) (h2:k≠b):Blk u k t cs:=(h.block k hk.lt h1 h2).trans hk
theorem Two.below {w0 w u:World} {a b:Nat} (h:Two w u a b) (hb:Below w0.heap.size w0 w) (h1:w0.heap.size≤a) (h2:w0.heap.size≤b):Below w0.heap.size w0 u:=
 ⟨h.os.trans hb.os,h.tape.trans hb.tape,h.output.trans hb.output,Nat.le_trans hb.size h.size,fun k hk=>(h.block k (Nat.lt_of_lt_of_le hk hb.size) (by omega) (by omega)).trans (hb.block k hk)⟩
structure StOwn (w:World) (base:Nat) (st:ah) (x:StA):Prop where
 j:w.ownsRow base 59 5 (.slice x.aj x.nj x.cj) x.nj (au aH st.jobs)
 n:w.ownsRow base 61 3 (.slice x.an x.nn x.cn) x.nn (au aI st.nodes)
 l:w.ownsRow base 63 3 (.slice x.al x.nl x.cl) x.nl (au aE st.leases)
 lj:st.jobs.length=x.nj
 ln:st.nodes.length=x.nn
 ll:st.leases.length=x.nl
theorem StOwn.grow {w w':World} {base g:Nat} {st:ah} {x:StA} (h:StOwn w base st x) (hg:w.grownBy w' (some g)) (hb:g<base):StOwn w' base st x:=
 ⟨aD h.j hg hb,aD h.n hg hb,aD h.l hg hb,h.lj,h.ln,h.ll⟩
theorem StOwn.at_ {w:World} {base:Nat} {st:ah} {x:StA} (h:StOwn w base st x) (bj:x.nj≤40) (bn:x.nn≤20) (bl:x.nl≤40) (oj:nP st.jobs) (on_:kX st.nodes) (ol:ji st.leases):StAt w w.heap.size st x:=
 ⟨cD h.j,cD h.n,cD h.l,h.lj,h.ln,h.ll,by omega,by omega,by omega,oj,on_,ol⟩
theorem bV {w:World} {base b n sz:Nat} {e:TypeId} {v:Value} {xs:List Value} (ho:w.ownsRow base e sz v n xs) (hb:b≤base):w.ownsRow b e sz v n xs:=by
 rcases ho with ⟨h1,h | ⟨q,cap,cur,hv,hq,hgq,r⟩⟩
 · exact⟨h1,.inl h⟩
 · exact⟨h1,.inr ⟨q,cap,cur,hv,Nat.le_trans hb hq,hgq,r⟩⟩
theorem aJ {w0 w w':World} {b:Nat} (h:Below w0.heap.size w0 w) (hg:w.grownBy w' (some b)) (hb:w0.heap.size≤b):Below w0.heap.size w0 w':=
 ⟨hg.os.trans h.os,hg.tape.trans h.tape,hg.output.trans h.output,Nat.le_trans h.size hg.size,fun k hk=>(hg.block k (Nat.lt_of_lt_of_le hk h.size) (by simp; omega)).trans (h.block k hk)⟩
theorem aU {w w':World} {base n sz:Nat} {e:TypeId} {v:Value} {xs:List Value} (ho:w.ownsRow base e sz v n xs) (hb:Below w.heap.size w w'):w'.ownsRow base e sz v n xs:=by
 rcases ho with ⟨h1,h | ⟨q,cap,cur,hv,hq,hgq,r⟩⟩
 · exact⟨h1,.inl h⟩
 · have hlt:q<w.heap.size:=(Array.getElem?_eq_some_iff.1 hgq).1
   exact⟨h1,.inr ⟨q,cap,cur,hv,hq,(hb.block q hlt).trans hgq,r⟩⟩
theorem pP {w:World} {base sz n b i:Nat} {e e':TypeId} {v u:Value} {xs:List Value} {cs:Array Value} (ho:w.ownsRow base e sz v n xs) (hb:w.heap[b]? = some (.cells cs e' (0,0))) (hne:e≠e'):(w.setCell ⟨b,i,none⟩ u).ownsRow base e sz v n xs:=by
 rcases ho with ⟨h1,h | ⟨q,cap,cur,hv,hq,hgq,r⟩⟩
 · exact⟨h1,.inl h⟩
 · refine⟨h1,.inr ⟨q,cap,cur,hv,hq,?_,r⟩⟩
   rw [Below.heap_setCell w ⟨b,i,none⟩ u q (fun e1=>?_)]
   · exact hgq
   · have e1:q=b:=e1
     rw [e1,hb] at hgq
     simp only [Option.some.injEq,Obj.cells.injEq] at hgq
     exact hne hgq.2.1.symm
theorem pO {w:World} {S b i:Nat} {T e:TypeId} {u:Value} {cs cs':Array Value} (h:Blk w S T cs) (hb:w.heap[b]? = some (.cells cs' e (0,0))) (hne:T≠e):Blk (w.setCell ⟨b,i,none⟩ u) S T cs:=by
 unfold Blk at h ⊢
 rw [Below.heap_setCell w ⟨b,i,none⟩ u S (fun e1=>?_)]
 · exact h
 · have e1:S=b:=e1
   rw [e1,hb] at h
   simp only [Option.some.injEq,Obj.cells.injEq] at h
   exact hne h.2.1.symm
theorem bX {w0 w:World} {base b i:Nat} {u:Value} (h:Below base w0 w) (hb:base≤b):Below base w0 (w.setCell ⟨b,i,none⟩ u):=
 ⟨h.os,h.tape,h.output,by have:=h.size; simpa [World.setCell] using this,fun k hk=>(Below.heap_setCell w ⟨b,i,none⟩ u k (by show k≠b; omega)).trans (h.block k hk)⟩
theorem nV {w w':World} {base b' sz sz' n n':Nat} {e e':TypeId} {v u u':Value} {xs ys:List Value} (ho:w.ownsRow base e sz v n xs) (hg:dE w w' u u') (hu:w.ownsRow b' e' sz' u n' ys) (hne:e≠e'):w'.ownsRow base e sz v n xs:=by
 rcases ho with ⟨h1,h | ⟨q,cap,cur,hv,hq,hgq,r⟩⟩
 · exact⟨h1,.inl h⟩
 · have hlt:q<w.heap.size:=(Array.getElem?_eq_some_iff.1 hgq).1
   refine⟨h1,.inr ⟨q,cap,cur,hv,hq,(hg.grown.block q hlt ?_).trans hgq,r⟩⟩
   intro e1
   rcases hu.2 with ⟨rfl,_⟩ | ⟨q',cap',cur',rfl,_,Qr,_⟩
   · simp [Value.ownBlock] at e1
   · simp [Value.ownBlock] at e1
     subst e1
     rw [hgq] at Qr
     simp only [Option.some.injEq,Obj.cells.injEq] at Qr
     exact hne Qr.2.1
theorem Blk.If {w w':World} {base n g sz:Nat} {e t:TypeId} {v v':Value} {xs:List Value} {cs:Array Value} (h:Blk w g t cs) (hg:dE w w' v v') (ho:w.ownsRow base e sz v n xs) (hne:t≠e):Blk w' g t cs:=by
 refine (hg.grown.block g h.lt fun hb=>?_).trans h
 rcases ho.2 with ⟨h1,_⟩ | ⟨q,cap,cur,hv,_,hgq,_⟩
 · rw [h1] at hb; cases hb
 · rw [hv] at hb
   have:q=g:=by simpa [Value.ownBlock] using hb.symm
   subst this
   unfold Blk at h
   rw [h] at hgq
   injection hgq with hgq
   injection hgq with _ h2
   exact hne h2
end Go.Proofs.YtcpgnjmaampglaaGreatDoor
