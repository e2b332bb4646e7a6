/- Of the proof of a statement: TakeD. -/
import Derived.Test.YtoeejfhdjmkpcaaGreatDoorURPhQ
set_option linter.unusedVariables false
set_option linter.unusedSimpArgs false
set_option maxRecDepth 100000
set_option maxHeartbeats 8000000
/- The walks of Take in a delta's Decode: the rows of a table, read one by one. -/
namespace Go.Proofs.YtoeejfhdjmkpcaaGreatDoor
open Go.Lib (hid)
open Go.RowKit
theorem Jv (g p:Nat) (σ:RR Unit) (w:World) (h:fG w g σ) (hp:Blk w p 143 #[.pointer (some ⟨g,0,none⟩)]) (hpg:p≠g) :
 Calls Tryz.prog 72 #[.pointer (some ⟨p,0,none⟩)] w (pT g (σ.bind fun _ s=>mW 3 s) (fun x:aA=>.agg (aJ x).toArray) (fun _=>True) w):=by
 have H0:=hid (RGo.start h 34 #[.string ⟨#[]⟩,.int .i64 0,.int .i64 0,.int .i64 0,.string ⟨#[]⟩])
 have y0:w.cell? ⟨p,0,none⟩=some (.pointer (some ⟨g,0,none⟩)):=hp.cell 0
 have hpl:=hp.lt
 clear h hp
 go_enter Tryz.func72,Tryz.ntmps72
 go_wp2_with fail
 refine Calls.mono (EC g _ 3 _ (by decide) (by decide) H0.out.ok) ?_
 rintro e w1 ⟨⟨name,prio,need,tries,tag⟩,rfl,hv,ok,kp⟩
 have V:=hid hv
 have H1:=H0.out.next ok kp
 have u0:w1.frozen? ⟨w.heap.size,0,none⟩=false:=H1.blk.thaw 0
 have u1:w1.frozen? ⟨w.heap.size,1,none⟩=false:=H1.blk.thaw 1
 have u2:w1.frozen? ⟨w.heap.size,2,none⟩=false:=H1.blk.thaw 2
 have u3:w1.frozen? ⟨w.heap.size,3,none⟩=false:=H1.blk.thaw 3
 have u4:w1.frozen? ⟨w.heap.size,4,none⟩=false:=H1.blk.thaw 4
 obtain⟨s0,s1,s2,s3,s4⟩:=Blk.c5 (H1.blk)
 have Q:=(((((H1.set 0 (.string name)).set 1 (.int .i64 prio)).set 2 (.int .i64 need)).set 3 (.int .i64 tries)).set 4 (.string tag))
 have q0:=(show _=(some (.string name):Option Value) from Q.blk.cell 0)
 have q1:=(show _=(some (.int .i64 prio):Option Value) from Q.blk.cell 1)
 have q2:=(show _=(some (.int .i64 need):Option Value) from Q.blk.cell 2)
 have q3:=(show _=(some (.int .i64 tries):Option Value) from Q.blk.cell 3)
 have q4:=(show _=(some (.string tag):Option Value) from Q.blk.cell 4)
 have Hok:=hid Q.ok
 have Hkp:=hid Q.keep
 clear Q H1 hv ok kp H0
 unfold aJ
 dsimp only
 go_wp2
 refine bodyPost_ret (v:=.agg #[.string name,.int .i64 prio,.int .i64 need,.int .i64 tries,.string tag]) (by simp [results,Tryz.results72,go_sem, *]) rfl ?_
 exact⟨⟨name,prio,need,tries,tag⟩,rfl,V.out,Hok.out,Hkp.out⟩
theorem Gb (g p:Nat) (σ:RR Unit) (w:World) (h:fG w g σ) (hp:Blk w p 143 #[.pointer (some ⟨g,0,none⟩)]) (hpg:p≠g) :
 Calls Tryz.prog 75 #[.pointer (some ⟨p,0,none⟩)] w (pT g (σ.bind fun _ s=>jM 3 s) (fun x:av=>.agg (aB x).toArray) (fun _=>True) w):=by
 have H0:=hid (RGo.start h 36 #[.string ⟨#[]⟩,.int .i64 0,.string ⟨#[]⟩])
 have y0:w.cell? ⟨p,0,none⟩=some (.pointer (some ⟨g,0,none⟩)):=hp.cell 0
 have hpl:=hp.lt
 clear h hp
 go_enter Tryz.func75,Tryz.ntmps75
 go_wp2_with fail
 refine Calls.mono (I8 g _ 3 _ (by decide) H0.out.ok) ?_
 rintro e w1 ⟨⟨name,room,zone⟩,rfl,hv,ok,kp⟩
 have V:=hid hv
 have H1:=H0.out.next ok kp
 have u0:w1.frozen? ⟨w.heap.size,0,none⟩=false:=H1.blk.thaw 0
 have u1:w1.frozen? ⟨w.heap.size,1,none⟩=false:=H1.blk.thaw 1
 have u2:w1.frozen? ⟨w.heap.size,2,none⟩=false:=H1.blk.thaw 2
 have s0:w1.cell? ⟨w.heap.size,0,none⟩=some (.string ⟨#[]⟩):=H1.blk.cell 0
 have s1:w1.cell? ⟨w.heap.size,1,none⟩=some (.int .i64 0):=H1.blk.cell 1
 have s2:w1.cell? ⟨w.heap.size,2,none⟩=some (.string ⟨#[]⟩):=H1.blk.cell 2
 have Q:=(((H1.set 0 (.string name)).set 1 (.int .i64 room)).set 2 (.string zone))
 have q0:=(show _=(some (.string name):Option Value) from Q.blk.cell 0)
 have q1:=(show _=(some (.int .i64 room):Option Value) from Q.blk.cell 1)
 have q2:=(show _=(some (.string zone):Option Value) from Q.blk.cell 2)
 have Hok:=hid Q.ok
 have Hkp:=hid Q.keep
 clear Q H1 hv ok kp H0
 unfold aB
 dsimp only
 go_wp2
 refine bodyPost_ret (v:=.agg #[.string name,.int .i64 room,.string zone]) (by simp [results,Tryz.results75,go_sem, *]) rfl ?_
 exact⟨⟨name,room,zone⟩,rfl,V.out,Hok.out,Hkp.out⟩
theorem EY (g p most:Nat) (σ:RR Unit) (w:World) (h:fG w g σ) (hm:most≤1000) (hp:Blk w p 143 #[.pointer (some ⟨g,0,none⟩)]) (hpg:p≠g) :
 Calls Tryz.prog 71 #[.pointer (some ⟨g,0,none⟩),.int .i64 (most:Int),.func (.func 72) #[] #[.pointer (some ⟨p,0,none⟩)]] w (AM g (σ.bind fun _ s=>cW most (mW 3) s) 34 5 aJ w):=by
 have HN:=hid (gK g σ w h)
 have hgl:=h.at_.lt
 have Hp:=hid hp
 clear h hp
 generalize htot:(σ.bind fun _ s=>cW most (mW 3) s)=tot
 have D6:=hid htot
 clear htot
 go_enter Tryz.func71,Tryz.ntmps71
 go_wp2_with fail
 refine Calls.mono HN.out ?_
 rintro e w1 ⟨n,rfl,hv,ok1,kp1⟩
 have hst:=mH.start (p:=mW 3) (most:=most) hv
 rw [D6.out] at hst
 have hle:=kI hv
 have Hst:=hid hst
 have Ok1:=hid ok1
 have Kp1:=hid kp1
 clear hst hv ok1 kp1
 by_cases hbig:most<n
 · have dm:decide ((most:Int)<(n:Int))=true:=decide_eq_true (by omega)
   obtain⟨s,hs,pY⟩:=Hst.out.2 hbig
   have hok1:=Ok1.out
   rw [hs] at hok1
   have oC:=hid hok1
   have yL:=hid pY
   clear hs pY hok1
   go_wp2_with fail
   refine Calls.mono (nT g s 2 0 w1 oC.out.at_) ?_
   rintro e w2 ⟨rfl,hA2,hg2⟩
   have Ok2:=hid (oC.out.next (σ':=.bad 2) ⟨s,oC.out.good,hA2⟩ ⟨by decide,by decide⟩ hg2)
   have Kp2:=hid (dI Kp1.out hg2)
   clear hA2 hg2
   go_wp2
   go_loopw [8,17] (fun out i wr=>vY (mW 3) tot g n most 34 5 aJ w out i wr) (fun _ i _=>n - (intOf i).toNat)
   case atStart=>exact⟨0,none,0,[],_,Nat.zero_le _,rfl,rfl,rfl,Ok2.out,Kp2.out,World.ownsRow_nil _ _ _ _,yL.out⟩
   case round=>
    obtain⟨k,A,c,l,τ,hk,rfl,rfl,hl,hok,hkp,ho,hrel⟩:=hrel
    have Hok:=hid hok
    have Hkp:=hid hkp
    have Ho:=hid ho
    have eG:=hid hrel
    have Hl:=hid hl
    have hwr:=hkp.size
    clear hok hkp ho hrel hl
    by_cases hlt:k<n
    · cases τ with
      | bad x=>
       obtain⟨s,_,hA⟩:=Hok.out.at_
       have y1:wr.cell? ⟨g,1,none⟩=some (.int .i64 (x:Int)):=Blk.cell hA 1
       have hne:=iJ Hok.out.good
       clear hA
       go_wp2
       go_ret
       exact⟨none,0,0,rfl,by rw [eG.out.dead.1]; exact Hok.out,Hkp.out,fun l r he=>absurd he (eG.out.dead.2 l r)⟩
      | ok u s=>
       exact absurd eG.out.1 (by omega)
    · obtain rfl:n=k:=by omega
      go_wp2
      go_ret
      exact⟨A,n,c,rfl,by rw [eG.out.ended.1]; exact Hok.out,Hkp.out,fun l' r he=>by rw [eG.out.ended.2 l' r he]; exact⟨Hl.out,Ho.out⟩⟩
 · have dm:decide ((most:Int)<(n:Int))=false:=decide_eq_false (by omega)
   go_wp2
   go_loopw [8,17] (fun out i wr=>vY (mW 3) tot g n most 34 5 aJ w out i wr) (fun _ i _=>n - (intOf i).toNat)
   case atStart=>exact⟨0,none,0,[],_,Nat.zero_le _,rfl,rfl,rfl,Ok1.out,Kp1.out,World.ownsRow_nil _ _ _ _,Hst.out.1 (by omega)⟩
   case round=>
    obtain⟨k,A,c,l,τ,hk,rfl,rfl,hl,hok,hkp,ho,hrel⟩:=hrel
    have Hok:=hid hok
    have Hkp:=hid hkp
    have Ho:=hid ho
    have eG:=hid hrel
    have Hl:=hid hl
    have hwr:=hkp.size
    clear hok hkp ho hrel hl
    by_cases hlt:k<n
    · cases τ with
      | bad x=>
       obtain⟨s,_,hA⟩:=Hok.out.at_
       have y1:wr.cell? ⟨g,1,none⟩=some (.int .i64 (x:Int)):=Blk.cell hA 1
       have hne:=iJ Hok.out.good
       clear hA
       go_wp2
       go_ret
       exact⟨none,0,0,rfl,by rw [eG.out.dead.1]; exact Hok.out,Hkp.out,fun l r he=>absurd he (eG.out.dead.2 l r)⟩
      | ok u s=>
       have hA:lT wr g s 0:=Hok.out.at_
       have y1:wr.cell? ⟨g,1,none⟩=some (.int .i64 0):=Blk.cell hA 1
       have hnm:=eG.out.1
       have HPr:=hid (aE Hkp.out Hp.out hpg)
       clear hA
       go_wp2_with fail
       refine Calls.mono (Jv g p _ _ Hok.out HPr.out hpg) ?_
       rintro e w3 ⟨⟨name,prio,need,tries,tag⟩,rfl,hv3,ok3,kp3⟩
       have yM:=hid (eG.out.step hlt hv3)
       have ho3:=bG Ho.out kp3 hgl
       have hbr:w.heap.size≤w3.heap.size:=by have:=kp3.size; omega
       have Ok3:=hid ok3
       have Kp3:=hid (dI Hkp.out kp3)
       have Hlt:=hid ho3.lt
       clear hv3 ok3 kp3 y1
       dsimp only
       rw [show (Value.agg (aJ ⟨name,prio,need,tries,tag⟩).toArray) = .agg #[.string name,.int .i64 prio,.int .i64 need,.int .i64 tries,.string tag] from rfl]
       go_wp2_with (at_builtin; refine iB aJ rfl _ _ 22 34 (.agg #[.string ⟨#[]⟩,.int .i64 0,.int .i64 0,.int .i64 0,.string ⟨#[]⟩]) 5 56 rfl Tryz.underlying22 sU rfl (by decide) aP ny w.heap.size _ _ _ l rfl ho3 _ ⟨name,prio,need,tries,tag⟩ rfl _ (by simp) rfl (by omega) (by unfold maxLen; omega) hbr ?_; intro A2 c2 w4 ho4 hg4)
       have Ok4:=hid (Ok3.out.Ce hg4 (fun k hk=>(Hlt.out k hk).1) hgl)
       have Kp4:=hid (pz Kp3.out hg4 (fun k hk=>(Hlt.out k hk).1))
       go_roundw
       case rel=>exact⟨k+1,A2,c2,l ++ [⟨name,prio,need,tries,tag⟩],_,by omega,by go_num,rfl,by simp [Hl.out],Ok4.out,Kp4.out,ho4,yM.out⟩
       case measure=>simp [intOf]; omega
    · obtain rfl:n=k:=by omega
      go_wp2
      go_ret
      exact⟨A,n,c,rfl,by rw [eG.out.ended.1]; exact Hok.out,Hkp.out,fun l' r he=>by rw [eG.out.ended.2 l' r he]; exact⟨Hl.out,Ho.out⟩⟩
theorem CQ (g p most:Nat) (σ:RR Unit) (w:World) (h:fG w g σ) (hm:most≤1000) (hp:Blk w p 143 #[.pointer (some ⟨g,0,none⟩)]) (hpg:p≠g) :
 Calls Tryz.prog 74 #[.pointer (some ⟨g,0,none⟩),.int .i64 (most:Int),.func (.func 75) #[] #[.pointer (some ⟨p,0,none⟩)]] w (AM g (σ.bind fun _ s=>cW most (jM 3) s) 36 3 aB w):=by
 have HN:=hid (gK g σ w h)
 have hgl:=h.at_.lt
 have Hp:=hid hp
 clear h hp
 generalize htot:(σ.bind fun _ s=>cW most (jM 3) s)=tot
 have D6:=hid htot
 clear htot
 go_enter Tryz.func74,Tryz.ntmps74
 go_wp2_with fail
 refine Calls.mono HN.out ?_
 rintro e w1 ⟨n,rfl,hv,ok1,kp1⟩
 have hst:=mH.start (p:=jM 3) (most:=most) hv
 rw [D6.out] at hst
 have hle:=kI hv
 have Hst:=hid hst
 have Ok1:=hid ok1
 have Kp1:=hid kp1
 clear hst hv ok1 kp1
 by_cases hbig:most<n
 · have dm:decide ((most:Int)<(n:Int))=true:=decide_eq_true (by omega)
   obtain⟨s,hs,pY⟩:=Hst.out.2 hbig
   have hok1:=Ok1.out
   rw [hs] at hok1
   have oC:=hid hok1
   have yL:=hid pY
   clear hs pY hok1
   go_wp2_with fail
   refine Calls.mono (nT g s 2 0 w1 oC.out.at_) ?_
   rintro e w2 ⟨rfl,hA2,hg2⟩
   have Ok2:=hid (oC.out.next (σ':=.bad 2) ⟨s,oC.out.good,hA2⟩ ⟨by decide,by decide⟩ hg2)
   have Kp2:=hid (dI Kp1.out hg2)
   clear hA2 hg2
   go_wp2
   go_loopw [8,17] (fun out i wr=>vY (jM 3) tot g n most 36 3 aB w out i wr) (fun _ i _=>n - (intOf i).toNat)
   case atStart=>exact⟨0,none,0,[],_,Nat.zero_le _,rfl,rfl,rfl,Ok2.out,Kp2.out,World.ownsRow_nil _ _ _ _,yL.out⟩
   case round=>
    obtain⟨k,A,c,l,τ,hk,rfl,rfl,hl,hok,hkp,ho,hrel⟩:=hrel
    have Hok:=hid hok
    have Hkp:=hid hkp
    have Ho:=hid ho
    have eG:=hid hrel
    have Hl:=hid hl
    have hwr:=hkp.size
    clear hok hkp ho hrel hl
    by_cases hlt:k<n
    · cases τ with
      | bad x=>
       obtain⟨s,_,hA⟩:=Hok.out.at_
       have y1:wr.cell? ⟨g,1,none⟩=some (.int .i64 (x:Int)):=Blk.cell hA 1
       have hne:=iJ Hok.out.good
       clear hA
       go_wp2
       go_ret
       exact⟨none,0,0,rfl,by rw [eG.out.dead.1]; exact Hok.out,Hkp.out,fun l r he=>absurd he (eG.out.dead.2 l r)⟩
      | ok u s=>
       exact absurd eG.out.1 (by omega)
    · obtain rfl:n=k:=by omega
      go_wp2
      go_ret
      exact⟨A,n,c,rfl,by rw [eG.out.ended.1]; exact Hok.out,Hkp.out,fun l' r he=>by rw [eG.out.ended.2 l' r he]; exact⟨Hl.out,Ho.out⟩⟩
 · have dm:decide ((most:Int)<(n:Int))=false:=decide_eq_false (by omega)
   go_wp2
   go_loopw [8,17] (fun out i wr=>vY (jM 3) tot g n most 36 3 aB w out i wr) (fun _ i _=>n - (intOf i).toNat)
   case atStart=>exact⟨0,none,0,[],_,Nat.zero_le _,rfl,rfl,rfl,Ok1.out,Kp1.out,World.ownsRow_nil _ _ _ _,Hst.out.1 (by omega)⟩
   case round=>
    obtain⟨k,A,c,l,τ,hk,rfl,rfl,hl,hok,hkp,ho,hrel⟩:=hrel
    have Hok:=hid hok
    have Hkp:=hid hkp
    have Ho:=hid ho
    have eG:=hid hrel
    have Hl:=hid hl
    have hwr:=hkp.size
    clear hok hkp ho hrel hl
    by_cases hlt:k<n
    · cases τ with
      | bad x=>
       obtain⟨s,_,hA⟩:=Hok.out.at_
       have y1:wr.cell? ⟨g,1,none⟩=some (.int .i64 (x:Int)):=Blk.cell hA 1
       have hne:=iJ Hok.out.good
       clear hA
       go_wp2
       go_ret
       exact⟨none,0,0,rfl,by rw [eG.out.dead.1]; exact Hok.out,Hkp.out,fun l r he=>absurd he (eG.out.dead.2 l r)⟩
      | ok u s=>
       have hA:lT wr g s 0:=Hok.out.at_
       have y1:wr.cell? ⟨g,1,none⟩=some (.int .i64 0):=Blk.cell hA 1
       have hnm:=eG.out.1
       have HPr:=hid (aE Hkp.out Hp.out hpg)
       clear hA
       go_wp2_with fail
       refine Calls.mono (Gb g p _ _ Hok.out HPr.out hpg) ?_
       rintro e w3 ⟨⟨name,room,zone⟩,rfl,hv3,ok3,kp3⟩
       have yM:=hid (eG.out.step hlt hv3)
       have ho3:=bG Ho.out kp3 hgl
       have hbr:w.heap.size≤w3.heap.size:=by have:=kp3.size; omega
       have Ok3:=hid ok3
       have Kp3:=hid (dI Hkp.out kp3)
       have Hlt:=hid ho3.lt
       clear hv3 ok3 kp3 y1
       dsimp only
       rw [show (Value.agg (aB ⟨name,room,zone⟩).toArray) = .agg #[.string name,.int .i64 room,.string zone] from rfl]
       go_wp2_with (at_builtin; refine iB aB rfl _ _ 23 36 (.agg #[.string ⟨#[]⟩,.int .i64 0,.string ⟨#[]⟩]) 3 40 rfl Tryz.underlying23 qx rfl (by decide) aL lW w.heap.size _ _ _ l rfl ho3 _ ⟨name,room,zone⟩ rfl _ (by simp) rfl (by omega) (by unfold maxLen; omega) hbr ?_; intro A2 c2 w4 ho4 hg4)
       have Ok4:=hid (Ok3.out.Ce hg4 (fun k hk=>(Hlt.out k hk).1) hgl)
       have Kp4:=hid (pz Kp3.out hg4 (fun k hk=>(Hlt.out k hk).1))
       go_roundw
       case rel=>exact⟨k+1,A2,c2,l ++ [⟨name,room,zone⟩],_,by omega,by go_num,rfl,by simp [Hl.out],Ok4.out,Kp4.out,ho4,yM.out⟩
       case measure=>simp [intOf]; omega
    · obtain rfl:n=k:=by omega
      go_wp2
      go_ret
      exact⟨A,n,c,rfl,by rw [eG.out.ended.1]; exact Hok.out,Hkp.out,fun l' r he=>by rw [eG.out.ended.2 l' r he]; exact⟨Hl.out,Ho.out⟩⟩
theorem Bp (g most:Nat) (σ:RR Unit) (w:World) (h:fG w g σ) (hm:most≤1000) :
 Calls Tryz.prog 77 #[.pointer (some ⟨g,0,none⟩),.int .i64 (most:Int),.func (.func 78) #[.pointer (some ⟨g,0,none⟩)] #[]] w (AM g (σ.bind fun _ s=>cW most (gT) s) 38 3 ay w):=by
 have HN:=hid (gK g σ w h)
 have hgl:=h.at_.lt
 clear h
 generalize htot:(σ.bind fun _ s=>cW most (gT) s)=tot
 have D6:=hid htot
 clear htot
 go_enter Tryz.func77,Tryz.ntmps77
 go_wp2_with fail
 refine Calls.mono HN.out ?_
 rintro e w1 ⟨n,rfl,hv,ok1,kp1⟩
 have hst:=mH.start (p:=gT) (most:=most) hv
 rw [D6.out] at hst
 have hle:=kI hv
 have Hst:=hid hst
 have Ok1:=hid ok1
 have Kp1:=hid kp1
 clear hst hv ok1 kp1
 by_cases hbig:most<n
 · have dm:decide ((most:Int)<(n:Int))=true:=decide_eq_true (by omega)
   obtain⟨s,hs,pY⟩:=Hst.out.2 hbig
   have hok1:=Ok1.out
   rw [hs] at hok1
   have oC:=hid hok1
   have yL:=hid pY
   clear hs pY hok1
   go_wp2_with fail
   refine Calls.mono (nT g s 2 0 w1 oC.out.at_) ?_
   rintro e w2 ⟨rfl,hA2,hg2⟩
   have Ok2:=hid (oC.out.next (σ':=.bad 2) ⟨s,oC.out.good,hA2⟩ ⟨by decide,by decide⟩ hg2)
   have Kp2:=hid (dI Kp1.out hg2)
   clear hA2 hg2
   go_wp2
   go_loopw [8,17] (fun out i wr=>vY (gT) tot g n most 38 3 ay w out i wr) (fun _ i _=>n - (intOf i).toNat)
   case atStart=>exact⟨0,none,0,[],_,Nat.zero_le _,rfl,rfl,rfl,Ok2.out,Kp2.out,World.ownsRow_nil _ _ _ _,yL.out⟩
   case round=>
    obtain⟨k,A,c,l,τ,hk,rfl,rfl,hl,hok,hkp,ho,hrel⟩:=hrel
    have Hok:=hid hok
    have Hkp:=hid hkp
    have Ho:=hid ho
    have eG:=hid hrel
    have Hl:=hid hl
    have hwr:=hkp.size
    clear hok hkp ho hrel hl
    by_cases hlt:k<n
    · cases τ with
      | bad x=>
       obtain⟨s,_,hA⟩:=Hok.out.at_
       have y1:wr.cell? ⟨g,1,none⟩=some (.int .i64 (x:Int)):=Blk.cell hA 1
       have hne:=iJ Hok.out.good
       clear hA
       go_wp2
       go_ret
       exact⟨none,0,0,rfl,by rw [eG.out.dead.1]; exact Hok.out,Hkp.out,fun l r he=>absurd he (eG.out.dead.2 l r)⟩
      | ok u s=>
       exact absurd eG.out.1 (by omega)
    · obtain rfl:n=k:=by omega
      go_wp2
      go_ret
      exact⟨A,n,c,rfl,by rw [eG.out.ended.1]; exact Hok.out,Hkp.out,fun l' r he=>by rw [eG.out.ended.2 l' r he]; exact⟨Hl.out,Ho.out⟩⟩
 · have dm:decide ((most:Int)<(n:Int))=false:=decide_eq_false (by omega)
   go_wp2
   go_loopw [8,17] (fun out i wr=>vY (gT) tot g n most 38 3 ay w out i wr) (fun _ i _=>n - (intOf i).toNat)
   case atStart=>exact⟨0,none,0,[],_,Nat.zero_le _,rfl,rfl,rfl,Ok1.out,Kp1.out,World.ownsRow_nil _ _ _ _,Hst.out.1 (by omega)⟩
   case round=>
    obtain⟨k,A,c,l,τ,hk,rfl,rfl,hl,hok,hkp,ho,hrel⟩:=hrel
    have Hok:=hid hok
    have Hkp:=hid hkp
    have Ho:=hid ho
    have eG:=hid hrel
    have Hl:=hid hl
    have hwr:=hkp.size
    clear hok hkp ho hrel hl
    by_cases hlt:k<n
    · cases τ with
      | bad x=>
       obtain⟨s,_,hA⟩:=Hok.out.at_
       have y1:wr.cell? ⟨g,1,none⟩=some (.int .i64 (x:Int)):=Blk.cell hA 1
       have hne:=iJ Hok.out.good
       clear hA
       go_wp2
       go_ret
       exact⟨none,0,0,rfl,by rw [eG.out.dead.1]; exact Hok.out,Hkp.out,fun l r he=>absurd he (eG.out.dead.2 l r)⟩
      | ok u s=>
       have hA:lT wr g s 0:=Hok.out.at_
       have y1:wr.cell? ⟨g,1,none⟩=some (.int .i64 0):=Blk.cell hA 1
       have hnm:=eG.out.1
       clear hA
       go_wp2_with fail
       refine Calls.mono (KS g _ _ Hok.out) ?_
       rintro e w3 ⟨⟨job,node,till⟩,rfl,hv3,ok3,kp3⟩
       have yM:=hid (eG.out.step hlt hv3)
       have ho3:=bG Ho.out kp3 hgl
       have hbr:w.heap.size≤w3.heap.size:=by have:=kp3.size; omega
       have Ok3:=hid ok3
       have Kp3:=hid (dI Hkp.out kp3)
       have Hlt:=hid ho3.lt
       clear hv3 ok3 kp3 y1
       dsimp only
       rw [show (Value.agg (ay ⟨job,node,till⟩).toArray) = .agg #[.string job,.string node,.int .i64 till] from rfl]
       go_wp2_with (at_builtin; refine iB ay rfl _ _ 24 38 (.agg #[.string ⟨#[]⟩,.string ⟨#[]⟩,.int .i64 0]) 3 40 rfl Tryz.underlying24 om rfl (by decide) aH kF w.heap.size _ _ _ l rfl ho3 _ ⟨job,node,till⟩ rfl _ (by simp) rfl (by omega) (by unfold maxLen; omega) hbr ?_; intro A2 c2 w4 ho4 hg4)
       have Ok4:=hid (Ok3.out.Ce hg4 (fun k hk=>(Hlt.out k hk).1) hgl)
       have Kp4:=hid (pz Kp3.out hg4 (fun k hk=>(Hlt.out k hk).1))
       go_roundw
       case rel=>exact⟨k+1,A2,c2,l ++ [⟨job,node,till⟩],_,by omega,by go_num,rfl,by simp [Hl.out],Ok4.out,Kp4.out,ho4,yM.out⟩
       case measure=>simp [intOf]; omega
    · obtain rfl:n=k:=by omega
      go_wp2
      go_ret
      exact⟨A,n,c,rfl,by rw [eG.out.ended.1]; exact Hok.out,Hkp.out,fun l' r he=>by rw [eG.out.ended.2 l' r he]; exact⟨Hl.out,Ho.out⟩⟩
theorem uJ (g most:Nat) (σ:RR Unit) (w:World) (h:fG w g σ) (hm:most≤1000) :
 Calls Tryz.prog 79 #[.pointer (some ⟨g,0,none⟩),.int .i64 (most:Int),.func (.func 80) #[.pointer (some ⟨g,0,none⟩)] #[]] w (AM g (σ.bind fun _ s=>cW most (bH) s) 9 1 jh w):=by
 have HN:=hid (gK g σ w h)
 have hgl:=h.at_.lt
 clear h
 generalize htot:(σ.bind fun _ s=>cW most (bH) s)=tot
 have D6:=hid htot
 clear htot
 go_enter Tryz.func79,Tryz.ntmps79
 go_wp2_with fail
 refine Calls.mono HN.out ?_
 rintro e w1 ⟨n,rfl,hv,ok1,kp1⟩
 have hst:=mH.start (p:=bH) (most:=most) hv
 rw [D6.out] at hst
 have hle:=kI hv
 have Hst:=hid hst
 have Ok1:=hid ok1
 have Kp1:=hid kp1
 clear hst hv ok1 kp1
 by_cases hbig:most<n
 · have dm:decide ((most:Int)<(n:Int))=true:=decide_eq_true (by omega)
   obtain⟨s,hs,pY⟩:=Hst.out.2 hbig
   have hok1:=Ok1.out
   rw [hs] at hok1
   have oC:=hid hok1
   have yL:=hid pY
   clear hs pY hok1
   go_wp2_with fail
   refine Calls.mono (nT g s 2 0 w1 oC.out.at_) ?_
   rintro e w2 ⟨rfl,hA2,hg2⟩
   have Ok2:=hid (oC.out.next (σ':=.bad 2) ⟨s,oC.out.good,hA2⟩ ⟨by decide,by decide⟩ hg2)
   have Kp2:=hid (dI Kp1.out hg2)
   clear hA2 hg2
   go_wp2
   go_loopw [8,17] (fun out i wr=>vY (bH) tot g n most 9 1 jh w out i wr) (fun _ i _=>n - (intOf i).toNat)
   case atStart=>exact⟨0,none,0,[],_,Nat.zero_le _,rfl,rfl,rfl,Ok2.out,Kp2.out,World.ownsRow_nil _ _ _ _,yL.out⟩
   case round=>
    obtain⟨k,A,c,l,τ,hk,rfl,rfl,hl,hok,hkp,ho,hrel⟩:=hrel
    have Hok:=hid hok
    have Hkp:=hid hkp
    have Ho:=hid ho
    have eG:=hid hrel
    have Hl:=hid hl
    have hwr:=hkp.size
    clear hok hkp ho hrel hl
    by_cases hlt:k<n
    · cases τ with
      | bad x=>
       obtain⟨s,_,hA⟩:=Hok.out.at_
       have y1:wr.cell? ⟨g,1,none⟩=some (.int .i64 (x:Int)):=Blk.cell hA 1
       have hne:=iJ Hok.out.good
       clear hA
       go_wp2
       go_ret
       exact⟨none,0,0,rfl,by rw [eG.out.dead.1]; exact Hok.out,Hkp.out,fun l r he=>absurd he (eG.out.dead.2 l r)⟩
      | ok u s=>
       exact absurd eG.out.1 (by omega)
    · obtain rfl:n=k:=by omega
      go_wp2
      go_ret
      exact⟨A,n,c,rfl,by rw [eG.out.ended.1]; exact Hok.out,Hkp.out,fun l' r he=>by rw [eG.out.ended.2 l' r he]; exact⟨Hl.out,Ho.out⟩⟩
 · have dm:decide ((most:Int)<(n:Int))=false:=decide_eq_false (by omega)
   go_wp2
   go_loopw [8,17] (fun out i wr=>vY (bH) tot g n most 9 1 jh w out i wr) (fun _ i _=>n - (intOf i).toNat)
   case atStart=>exact⟨0,none,0,[],_,Nat.zero_le _,rfl,rfl,rfl,Ok1.out,Kp1.out,World.ownsRow_nil _ _ _ _,Hst.out.1 (by omega)⟩
   case round=>
    obtain⟨k,A,c,l,τ,hk,rfl,rfl,hl,hok,hkp,ho,hrel⟩:=hrel
    have Hok:=hid hok
    have Hkp:=hid hkp
    have Ho:=hid ho
    have eG:=hid hrel
    have Hl:=hid hl
    have hwr:=hkp.size
    clear hok hkp ho hrel hl
    by_cases hlt:k<n
    · cases τ with
      | bad x=>
       obtain⟨s,_,hA⟩:=Hok.out.at_
       have y1:wr.cell? ⟨g,1,none⟩=some (.int .i64 (x:Int)):=Blk.cell hA 1
       have hne:=iJ Hok.out.good
       clear hA
       go_wp2
       go_ret
       exact⟨none,0,0,rfl,by rw [eG.out.dead.1]; exact Hok.out,Hkp.out,fun l r he=>absurd he (eG.out.dead.2 l r)⟩
      | ok u s=>
       have hA:lT wr g s 0:=Hok.out.at_
       have y1:wr.cell? ⟨g,1,none⟩=some (.int .i64 0):=Blk.cell hA 1
       have hnm:=eG.out.1
       clear hA
       go_wp2_with fail
       refine Calls.mono (rV g _ _ Hok.out) ?_
       rintro e w3 ⟨a,rfl,hv3,ok3,kp3⟩
       have yM:=hid (eG.out.step hlt hv3)
       have ho3:=bG Ho.out kp3 hgl
       have hbr:w.heap.size≤w3.heap.size:=by have:=kp3.size; omega
       have Ok3:=hid ok3
       have Kp3:=hid (dI Hkp.out kp3)
       have Hlt:=hid ho3.lt
       clear hv3 ok3 kp3 y1
       go_wp2_with (at_builtin; refine iB jh rfl _ _ 43 9 (.string ⟨#[]⟩) 1 16 rfl Tryz.underlying43 sV rfl (by decide) eC qw w.heap.size _ _ _ l rfl ho3 _ a rfl _ (by simp) rfl (by omega) (by unfold maxLen; omega) hbr ?_; intro A2 c2 w4 ho4 hg4)
       have Ok4:=hid (Ok3.out.Ce hg4 (fun k hk=>(Hlt.out k hk).1) hgl)
       have Kp4:=hid (pz Kp3.out hg4 (fun k hk=>(Hlt.out k hk).1))
       go_roundw
       case rel=>exact⟨k+1,A2,c2,l ++ [a],_,by omega,by go_num,rfl,by simp [Hl.out],Ok4.out,Kp4.out,ho4,yM.out⟩
       case measure=>simp [intOf]; omega
    · obtain rfl:n=k:=by omega
      go_wp2
      go_ret
      exact⟨A,n,c,rfl,by rw [eG.out.ended.1]; exact Hok.out,Hkp.out,fun l' r he=>by rw [eG.out.ended.2 l' r he]; exact⟨Hl.out,Ho.out⟩⟩
end Go.Proofs.YtoeejfhdjmkpcaaGreatDoor
