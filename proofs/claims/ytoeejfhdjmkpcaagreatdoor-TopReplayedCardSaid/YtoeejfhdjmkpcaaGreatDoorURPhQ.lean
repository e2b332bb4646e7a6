/- Of the proof of a statement: Take, OwnSet, StOwn, OwnMore, PlGood, RPhQ. -/
import Derived.Test.YtoeejfhdjmkpcaaGreatDoorURPh
import Derived.Test.YtoeejfhdjmkpcaaGreatDoorURdRow
import Derived.Test.YtoeejfhdjmkpcaaGreatDoorURowsL
set_option linter.unusedVariables false
set_option linter.unusedSimpArgs false
set_option maxRecDepth 100000
set_option maxHeartbeats 8000000
/- The walks of Take: the rows of a table, read one by one. -/
namespace Go.Proofs.YtoeejfhdjmkpcaaGreatDoor
open Go.Lib (hid)
open Go.RowKit
theorem sU:(Tryz.prog.info? 34).map (fun i=>(i.zero,i.size,i.bytes))=some (some (.agg #[.string ⟨#[]⟩,.int .i64 0,.int .i64 0,.int .i64 0,.string ⟨#[]⟩]),5,56):=by kernel_rfl
theorem qx:(Tryz.prog.info? 36).map (fun i=>(i.zero,i.size,i.bytes))=some (some (.agg #[.string ⟨#[]⟩,.int .i64 0,.string ⟨#[]⟩]),3,40):=by kernel_rfl
theorem om:(Tryz.prog.info? 38).map (fun i=>(i.zero,i.size,i.bytes))=some (some (.agg #[.string ⟨#[]⟩,.string ⟨#[]⟩,.int .i64 0]),3,40):=by kernel_rfl
theorem sV:(Tryz.prog.info? 9).map (fun i=>(i.zero,i.size,i.bytes))=some (some (.string ⟨#[]⟩),1,16):=by kernel_rfl
theorem ny (x:aA):∀ u ∈ aJ x,u.oneCell'=true:=by intro u hu; simp [aJ] at hu; rcases hu with rfl | rfl | rfl | rfl | rfl <;> rfl
theorem lW (x:av):∀ u ∈ aB x,u.oneCell'=true:=by intro u hu; simp [aB] at hu; rcases hu with rfl | rfl | rfl <;> rfl
theorem kF (x:ah):∀ u ∈ ay x,u.oneCell'=true:=by intro u hu; simp [ay] at hu; rcases hu with rfl | rfl | rfl <;> rfl
theorem qw (x:ByteArray):∀ u ∈ jh x,u.oneCell'=true:=by intro u hu; simp [jh] at hu; subst hu; rfl
theorem bG {w w':World} {base g n sz:Nat} {e:TypeId} {v:Value} {xs:List Value} (ho:w.ownsRow base e sz v n xs) (hg:w.grownBy w' (some g)) (hgb:g<base):w'.ownsRow base e sz v n xs:=by
 rcases ho with ⟨h1,h | ⟨q,cap,cur,hv,hq,hgq,r⟩⟩
 · exact⟨h1,.inl h⟩
 · have hlt:q<w.heap.size:=(Array.getElem?_eq_some_iff.1 hgq).1
   exact⟨h1,.inr ⟨q,cap,cur,hv,hq,(hg.block q hlt (by simp; omega)).trans hgq,r⟩⟩
theorem fG.Ce {w w':World} {g base:Nat} {σ:RR Unit} {v v':Value} (h:fG w g σ) (hg:cE w w' v v') (hv:∀ k,v.ownBlock=some k→base≤k) (hgb:g<base):fG w' g σ:=by
 have hgr:=hg.grown
 cases hb:v.ownBlock with
 | none=>
  rw [hb] at hgr
  exact h.grow (b:=w.heap.size) ⟨hgr.os,hgr.tape,hgr.output,hgr.size,fun k hk _=>hgr.block k hk (by simp)⟩ h.at_.lt
 | some b=>
  rw [hb] at hgr
  exact h.grow hgr (Nat.lt_of_lt_of_le hgb (hv b hb))
theorem Blk.Ce {w w':World} {k base:Nat} {t:TypeId} {cs:Array Value} {v v':Value} (h:Blk w k t cs) (hg:cE w w' v v') (hv:∀ q,v.ownBlock=some q→base≤q) (hkb:k<base):Blk w' k t cs:=
 (hg.grown.block k h.lt (fun e=>by have:=hv k e.symm; omega)).trans h
def mH {α:Type} (p:ByteArray→RR α) (tot:RR (List α)) (n most k:Nat) (l:List α) (τ:RR Unit):Prop:=match τ with
 | .ok _ s=>n≤most∧tot=(uC p (n - k) s).bind fun l' r=>.ok (l ++ l') r
 | .bad x=>tot = .bad x
def AM {α:Type} (g:Nat) (tot:RR (List α)) (T:TypeId) (sz:Nat) (enc:α→List Value) (w:World) (e:Ending) (w':World):Prop:=
 ∃ A n c,e = .returned (.slice A n c)∧fG w' g tot.st∧w.grownBy w' (some g)∧∀ l r,tot = .ok l r→l.length=n∧w'.ownsRow w.heap.size T sz (.slice A n c) n (au enc l)
def vY {α:Type} (p:ByteArray→RR α) (tot:RR (List α)) (g n most:Nat) (T:TypeId) (sz:Nat) (enc:α→List Value) (w:World) (out i:Value) (wr:World):Prop:=
 ∃ (k:Nat) (A:Option Addr) (c:Nat) (l:List α) (τ:RR Unit),k≤n∧i = .int .i64 k∧out = .slice A k c∧l.length=k∧fG wr g τ∧w.grownBy wr (some g)∧wr.ownsRow w.heap.size T sz (.slice A k c) k (au enc l)∧mH p tot n most k l τ
theorem mH.step {α:Type} {p:ByteArray→RR α} {tot:RR (List α)} {n most k:Nat} {l:List α} {u:Unit} {s:ByteArray} {a:α} {Z:α→Prop} (h:mH p tot n most k l (.ok u s)) (hk:k<n) (hv:jc ((RR.ok u s).bind fun _ s=>p s) Z a) :
 mH p tot n most (k+1) (l ++ [a]) ((RR.ok u s).bind fun _ s=>p s).st:=by
 obtain⟨h1,h2⟩:=h
 rw [RR.bind_ok] at hv ⊢
 rw [show n - k=(n - (k+1))+1 by omega,uC] at h2
 cases hp:p s with
 | bad x=>
  rw [hp] at h2
  exact h2
 | ok b r=>
  rw [hp] at h2 hv
  have hv:a=b:=hv
  subst hv
  refine⟨h1,?_⟩
  rw [h2,RR.bind_ok]
  cases uC p (n - (k+1)) r with
  | bad x=>rfl
  | ok l' r'=>simp [RR.bind_ok]
theorem mH.ended {α:Type} {p:ByteArray→RR α} {tot:RR (List α)} {n most:Nat} {l:List α} {τ:RR Unit} (h:mH p tot n most n l τ):tot.st=τ∧∀ l' r,tot = .ok l' r→l'=l:=by
 cases τ with
 | bad x=>
  have h:tot = .bad x:=h
  subst h
  exact⟨rfl,fun _ _ he=>by cases he⟩
 | ok u s=>
  obtain⟨_,h2⟩:=h
  rw [Nat.sub_self,uC,RR.bind_ok,List.append_nil] at h2
  subst h2
  exact⟨rfl,fun l' r he=>by injection he with h1 h2; exact h1.symm⟩
theorem mH.dead {α:Type} {p:ByteArray→RR α} {tot:RR (List α)} {n most k x:Nat} {l:List α} (h:mH p tot n most k l (.bad x)):tot.st = .bad x∧∀ l' r,tot ≠ .ok l' r:=by
 have h:tot = .bad x:=h
 subst h
 exact⟨rfl,fun _ _ he=>by cases he⟩
theorem mH.start {α:Type} {p:ByteArray→RR α} {σ:RR Unit} {most n:Nat} (hv:jc (σ.bind fun _ s=>cO s) (fun n=>n=0) n) :
 (n≤most→mH p (σ.bind fun _ s=>cW most p s) n most 0 [] (σ.bind fun _ s=>cO s).st) ∧
 (most<n→∃ s,(σ.bind fun _ s=>cO s).st = .ok () s∧mH p (σ.bind fun _ s=>cW most p s) n most 0 [] (.bad 2)):=by
 cases σ with
 | bad x=>
  rw [RR.fI] at hv
  have hv:n=0:=hv
  exact⟨fun _=>rfl,fun h=>by omega⟩
 | ok u s=>
  rw [RR.bind_ok,RR.bind_ok] at *
  unfold cW Ee
  cases hp:cO s with
  | bad x=>
   rw [hp] at hv
   have hv:n=0:=hv
   exact⟨fun _=>rfl,fun h=>by omega⟩
  | ok b r=>
   rw [hp] at hv
   have hv:n=b:=hv
   subst hv
   refine⟨fun h=>⟨h,?_⟩,fun h=>⟨r,rfl,?_⟩⟩
   · rw [RR.bind_ok,if_neg (by omega),RR.bind_ok,Nat.sub_zero]
     cases uC p n r with
     | bad x=>rfl
     | ok l' r'=>simp [RR.bind_ok]
   · show _=_
     rw [RR.bind_ok,if_pos h,RR.fI]
theorem iJ {x:Nat} (h:(RR.bad x:RR Unit).Good qN):((x:Int) != 0)=true:=by rw [bne_iff_ne]; have:=h.1; omega
end Go.Proofs.YtoeejfhdjmkpcaaGreatDoor
/- A cell of a row of the call's own is set. -/
namespace Go.Proofs.YtoeejfhdjmkpcaaGreatDoor
open Go.Lib (hid)
open Go.RowKit
theorem I0 {w:World} {base sz n g c:Nat} {e:TypeId} {xs:List Value} (ho:w.ownsRow base e sz (.slice (some ⟨g,0,none⟩) n c) n xs) (j:Nat) (hj:j<n*sz) (u:Value) :
 (w.setCell ⟨g,j,none⟩ u).ownsRow base e sz (.slice (some ⟨g,0,none⟩) n c) n (xs.set j u)∧w.frozen? ⟨g,j,none⟩=false∧g<w.heap.size∧base≤g:=by
 obtain⟨h1,h | ⟨q,cap,cur,hv,hq,hgq,h2,h3,h4,h5⟩⟩:=ho
 · cases h.1
 · injection hv with e1 e2 e3
   injection e1 with e1
   injection e1 with e1
   subst e1
   subst e3
   have hB:Blk w g e cur:=hgq
   refine⟨⟨by simpa using h1,.inr ⟨g,c,cur.setIfInBounds j u,rfl,hq,hB.set j u,h2,h3,by simpa using h4,?_⟩⟩,hB.thaw j,hB.lt,hq⟩
   rw [Array.toList_setIfInBounds,List.take_set,h5]
theorem zI {α:Type} {enc:α→List Value} {sz:Nat} (h:∀ a,(enc a).length=sz):∀ (l:List α) (i k:Nat) (a a':α) (u:Value),l[i]? = some a→k<sz→(enc a).set k u=enc a'→(au enc l).set (i*sz+k) u=au enc (l.set i a')
 | [],i,k,a,a',u,hi,_,_=>by simp at hi
 | b :: l,0,k,a,a',u,hi,hk,he=>by
  simp only [List.getElem?_cons_zero,Option.some.injEq] at hi
  subst hi
  unfold au
  rw [List.set_cons_zero,List.flatMap_cons,List.flatMap_cons,Nat.zero_mul,Nat.zero_add,List.set_append_left _ _ (by rw [h]; exact hk),he]
 | b :: l,i+1,k,a,a',u,hi,hk,he=>by
  have ih:=zI h l i k a a' u (by simpa using hi) hk he
  unfold au at ih ⊢
  rw [List.set_cons_succ,List.flatMap_cons,List.flatMap_cons,List.set_append_right _ _ (by rw [h,Nat.add_mul]; omega),h,show (i+1)*sz+k - sz=i*sz+k from by rw [Nat.add_mul]; omega,ih]
end Go.Proofs.YtoeejfhdjmkpcaaGreatDoor
/- Worlds of whose old blocks only two have turned; the rows of a state in blocks of the call's own. -/
namespace Go.Proofs.YtoeejfhdjmkpcaaGreatDoor
open Go.Lib (hid)
open Go.RowKit
structure Two (w w':World) (a b:Nat):Prop where
 os:w'.os=w.os
 tape:w'.tape=w.tape
 output:w'.output=w.output
 size:w.heap.size≤w'.heap.size
 block:∀ k,k<w.heap.size→k≠a→k≠b→w'.heap[k]? = w.heap[k]?
theorem Two.refl (w:World) (a b:Nat):Two w w a b:=⟨rfl,rfl,rfl,Nat.le_refl _,fun _ _ _ _=>rfl⟩
theorem Two.fst {w u v:World} {a b:Nat} (h:Two w u a b) (hg:u.grownBy v (some a)):Two w v a b:=
 ⟨hg.os.trans h.os,hg.tape.trans h.tape,hg.output.trans h.output,Nat.le_trans h.size hg.size,fun k hk h1 h2=>(hg.block k (Nat.lt_of_lt_of_le hk h.size) (by simp; exact h1)).trans (h.block k hk h1 h2)⟩
theorem Two.snd {w u v:World} {a b:Nat} (h:Two w u a b) (hg:u.grownBy v (some b)):Two w v a b:=
 ⟨hg.os.trans h.os,hg.tape.trans h.tape,hg.output.trans h.output,Nat.le_trans h.size hg.size,fun k hk h1 h2=>(hg.block k (Nat.lt_of_lt_of_le hk h.size) (by simp; exact h2)).trans (h.block k hk h1 h2)⟩
theorem Two.blk {w u:World} {a b k:Nat} {t:TypeId} {cs:Array Value} (h:Two w u a b) (hk:Blk w k t cs) (h1:k≠a) (h2:k≠b):Blk u k t cs:=(h.block k hk.lt h1 h2).trans hk
theorem Two.below {w0 w u:World} {a b:Nat} (h:Two w u a b) (hb:Below w0.heap.size w0 w) (h1:w0.heap.size≤a) (h2:w0.heap.size≤b):Below w0.heap.size w0 u:=
 ⟨h.os.trans hb.os,h.tape.trans hb.tape,h.output.trans hb.output,Nat.le_trans hb.size h.size,fun k hk=>(h.block k (Nat.lt_of_lt_of_le hk hb.size) (by omega) (by omega)).trans (hb.block k hk)⟩
structure StOwn (w:World) (base:Nat) (st:ak) (x:StA):Prop where
 j:w.ownsRow base 34 5 (.slice x.aj x.nj x.cj) x.nj (au aJ st.jobs)
 n:w.ownsRow base 36 3 (.slice x.an x.nn x.cn) x.nn (au aB st.nodes)
 l:w.ownsRow base 38 3 (.slice x.al x.nl x.cl) x.nl (au ay st.leases)
 lj:st.jobs.length=x.nj
 ln:st.nodes.length=x.nn
 ll:st.leases.length=x.nl
theorem StOwn.grow {w w':World} {base g:Nat} {st:ak} {x:StA} (h:StOwn w base st x) (hg:w.grownBy w' (some g)) (hb:g<base):StOwn w' base st x:=
 ⟨bG h.j hg hb,bG h.n hg hb,bG h.l hg hb,h.lj,h.ln,h.ll⟩
theorem StOwn.at_ {w:World} {base:Nat} {st:ak} {x:StA} (h:StOwn w base st x) (bj:x.nj≤40) (bn:x.nn≤20) (bl:x.nl≤40) (oj:mU st.jobs) (on_:lB st.nodes) (ol:jK st.leases):StAt w w.heap.size st x:=
 ⟨cP h.j,cP h.n,cP h.l,h.lj,h.ln,h.ll,by omega,by omega,by omega,oj,on_,ol⟩
theorem bL {w:World} {base b n sz:Nat} {e:TypeId} {v:Value} {xs:List Value} (ho:w.ownsRow base e sz v n xs) (hb:b≤base):w.ownsRow b e sz v n xs:=by
 rcases ho with ⟨h1,h | ⟨q,cap,cur,hv,hq,hgq,r⟩⟩
 · exact⟨h1,.inl h⟩
 · exact⟨h1,.inr ⟨q,cap,cur,hv,Nat.le_trans hb hq,hgq,r⟩⟩
theorem aI {w0 w w':World} {b:Nat} (h:Below w0.heap.size w0 w) (hg:w.grownBy w' (some b)) (hb:w0.heap.size≤b):Below w0.heap.size w0 w':=
 ⟨hg.os.trans h.os,hg.tape.trans h.tape,hg.output.trans h.output,Nat.le_trans h.size hg.size,fun k hk=>(hg.block k (Nat.lt_of_lt_of_le hk h.size) (by simp; omega)).trans (h.block k hk)⟩
end Go.Proofs.YtoeejfhdjmkpcaaGreatDoor
/- Rows of the call's own: what becomes of them where something else turns. -/
namespace Go.Proofs.YtoeejfhdjmkpcaaGreatDoor
open Go.Lib (hid)
open Go.RowKit
theorem aC {w w':World} {base n sz:Nat} {e:TypeId} {v:Value} {xs:List Value} (ho:w.ownsRow base e sz v n xs) (hb:Below w.heap.size w w'):w'.ownsRow base e sz v n xs:=by
 rcases ho with ⟨h1,h | ⟨q,cap,cur,hv,hq,hgq,r⟩⟩
 · exact⟨h1,.inl h⟩
 · have hlt:q<w.heap.size:=(Array.getElem?_eq_some_iff.1 hgq).1
   exact⟨h1,.inr ⟨q,cap,cur,hv,hq,(hb.block q hlt).trans hgq,r⟩⟩
theorem zH {w:World} {base sz n b off c:Nat} {e:TypeId} {xs:List Value} (ho:w.ownsRow base e sz (.slice (some ⟨b,off,none⟩) n c) n xs) (j:Nat) (hj:j<n*sz) (u:Value) :
 (w.setCell ⟨b,off+j,none⟩ u).ownsRow base e sz (.slice (some ⟨b,off,none⟩) n c) n (xs.set j u)∧w.frozen? ⟨b,off+j,none⟩=false∧b<w.heap.size∧base≤b∧∃ cs,w.heap[b]? = some (.cells cs e (0,0)):=by
 have h0:off=0:=by
  rcases ho.2 with ⟨h,_⟩ | ⟨q,cap,cur,hv,_⟩
  · cases h
  · injection hv with e1 e2 e3
    injection e1 with e1
    injection e1
 subst h0
 obtain⟨h1,h2,h3,h4⟩:=I0 ho j hj u
 refine⟨by rw [Nat.zero_add]; exact h1,by rw [Nat.zero_add]; exact h2,h3,h4,?_⟩
 rcases ho.2 with ⟨h,_⟩ | ⟨q,cap,cur,hv,_,hg,_⟩
 · cases h
 · injection hv with e1 e2 e3
   injection e1 with e1
   injection e1 with e1
   subst e1
   exact⟨_,hg⟩
theorem aV {w:World} {base sz n b i:Nat} {e e':TypeId} {v u:Value} {xs:List Value} {cs:Array Value} (ho:w.ownsRow base e sz v n xs) (hb:w.heap[b]? = some (.cells cs e' (0,0))) (hne:e≠e'):(w.setCell ⟨b,i,none⟩ u).ownsRow base e sz v n xs:=by
 rcases ho with ⟨h1,h | ⟨q,cap,cur,hv,hq,hgq,r⟩⟩
 · exact⟨h1,.inl h⟩
 · refine⟨h1,.inr ⟨q,cap,cur,hv,hq,?_,r⟩⟩
   rw [Below.heap_setCell w ⟨b,i,none⟩ u q (fun e1=>?_)]
   · exact hgq
   · have e1:q=b:=e1
     rw [e1,hb] at hgq
     simp only [Option.some.injEq,Obj.cells.injEq] at hgq
     exact hne hgq.2.1.symm
theorem Eg {α:Type} {enc:α→List Value} {w:World} {base sz n c:Nat} {T:TypeId} {A:Option Addr} {l:List α} (hz:∀ a,(enc a).length=sz) (h:w.ownsRow base T sz (.slice A n c) n (au enc l)) (hl:l.length=n) {i:Nat} {a:α} (hi:l[i]? = some a) :
 ∃ b off,A=some ⟨b,off,none⟩∧base≤b∧b<w.heap.size∧∀ j u,(enc a)[j]? = some u→w.cell? ⟨b,off+i*sz+j,none⟩=some u:=by
 obtain⟨b,off,e,hb,hc⟩:=(cP h).cR hz hl hi
 refine⟨b,off,e,?_,hb,hc⟩
 subst e
 rcases h.2 with ⟨h',_⟩ | ⟨q,cap,cur,hv,hq,_⟩
 · cases h'
 · injection hv with e1
   injection e1 with e1
   injection e1 with e1
   omega
theorem bg {w:World} {S b i:Nat} {T e:TypeId} {u:Value} {cs cs':Array Value} (h:Blk w S T cs) (hb:w.heap[b]? = some (.cells cs' e (0,0))) (hne:T≠e):Blk (w.setCell ⟨b,i,none⟩ u) S T cs:=by
 unfold Blk at h ⊢
 rw [Below.heap_setCell w ⟨b,i,none⟩ u S (fun e1=>?_)]
 · exact h
 · have e1:S=b:=e1
   rw [e1,hb] at h
   simp only [Option.some.injEq,Obj.cells.injEq] at h
   exact hne h.2.1.symm
theorem aO {w0 w:World} {base b i:Nat} {u:Value} (h:Below base w0 w) (hb:base≤b):Below base w0 (w.setCell ⟨b,i,none⟩ u):=
 ⟨h.os,h.tape,h.output,by have:=h.size; simpa [World.setCell] using this,fun k hk=>(Below.heap_setCell w ⟨b,i,none⟩ u k (by show k≠b; omega)).trans (h.block k hk)⟩
theorem bK {w w':World} {base b' sz sz' n n':Nat} {e e':TypeId} {v u u':Value} {xs ys:List Value} (ho:w.ownsRow base e sz v n xs) (hg:cE w w' u u') (hu:w.ownsRow b' e' sz' u n' ys) (hne:e≠e'):w'.ownsRow base e sz v n xs:=by
 rcases ho with ⟨h1,h | ⟨q,cap,cur,hv,hq,hgq,r⟩⟩
 · exact⟨h1,.inl h⟩
 · have hlt:q<w.heap.size:=(Array.getElem?_eq_some_iff.1 hgq).1
   refine⟨h1,.inr ⟨q,cap,cur,hv,hq,(hg.grown.block q hlt ?_).trans hgq,r⟩⟩
   intro e1
   rcases hu.2 with ⟨rfl,_⟩ | ⟨q',cap',cur',rfl,_,Mf,_⟩
   · simp [Value.ownBlock] at e1
   · simp [Value.ownBlock] at e1
     subst e1
     rw [hgq] at Mf
     simp only [Option.some.injEq,Obj.cells.injEq] at Mf
     exact hne Mf.2.1
theorem Blk.gY {w w':World} {base n g sz:Nat} {e t:TypeId} {v v':Value} {xs:List Value} {cs:Array Value} (h:Blk w g t cs) (hg:cE w w' v v') (ho:w.ownsRow base e sz v n xs) (hne:t≠e):Blk w' g t cs:=by
 refine (hg.grown.block g h.lt fun hb=>?_).trans h
 rcases ho.2 with ⟨h1,_⟩ | ⟨q,cap,cur,hv,_,hgq,_⟩
 · rw [h1] at hb; cases hb
 · rw [hv] at hb
   have:q=g:=by simpa [Value.ownBlock] using hb.symm
   subst this
   unfold Blk at h
   rw [h] at hgq
   injection hgq with hgq
   injection hgq with _ h2
   exact hne h2
end Go.Proofs.YtoeejfhdjmkpcaaGreatDoor
/- What a check that says yes gives: plain. -/
namespace Go.Proofs.YtoeejfhdjmkpcaaGreatDoor
open Go.Lib (hid)
theorem eO {s:ByteArray} (h:bR s=true):s.size≤16:=by
 by_cases hs:s.size≤16
 · exact hs
 · unfold bR at h; rw [rT hs] at h; simp at h
theorem jS {s:ByteArray} (h:iT s=true):s.size≤16:=by
 by_cases hs:s.size≤16
 · exact hs
 · rw [rT hs] at h; simp at h
theorem gP {j:aA} (h:fE j=0):bR j.name=true∧iT j.tag=true∧(-1000≤j.prio∧j.prio≤1000)∧(0≤j.need∧j.need≤1000000)∧(0≤j.tries∧j.tries≤100):=by
 unfold fE at h
 by_cases h1:(bR j.name && iT j.tag)=true
 · rw [if_pos h1] at h
   by_cases h2:(ranged j.prio (-1000) 1000 && ranged j.need 0 1000000 && ranged j.tries 0 100)=true
   · simp only [Bool.and_eq_true] at h1 h2
     exact⟨h1.1,h1.2,aZ.1 h2.1.1,aZ.1 h2.1.2,aZ.1 h2.2⟩
   · rw [if_neg h2] at h; exact absurd h (by decide)
 · rw [if_neg h1] at h; exact absurd h (by decide)
theorem jT {n:av} (h:eH n=0):bR n.name=true∧iT n.zone=true∧(0≤n.room∧n.room≤1000000):=by
 unfold eH at h
 by_cases h1:(bR n.name && iT n.zone)=true
 · rw [if_pos h1] at h
   by_cases h2:ranged n.room 0 1000000=true
   · simp only [Bool.and_eq_true] at h1
     exact⟨h1.1,h1.2,aZ.1 h2⟩
   · rw [if_neg h2] at h; exact absurd h (by decide)
 · rw [if_neg h1] at h; exact absurd h (by decide)
theorem BK {l:ah} (h:lsE l=0):bR l.job=true∧bR l.node=true∧(0≤l.till∧l.till≤1099511627776):=by
 unfold lsE at h
 by_cases h1:(bR l.job && bR l.node)=true
 · rw [if_pos h1] at h
   by_cases h2:ranged l.till 0 1099511627776=true
   · simp only [Bool.and_eq_true] at h1
     exact⟨h1.1,h1.2,aZ.1 h2⟩
   · rw [if_neg h2] at h; exact absurd h (by decide)
 · rw [if_neg h1] at h; exact absurd h (by decide)
end Go.Proofs.YtoeejfhdjmkpcaaGreatDoor
/- The law by phases, with guarded operations. -/
namespace Go.Proofs.YtoeejfhdjmkpcaaGreatDoor
open Go.Lib (hid)
open Go.RowKit
section
variable {Γ:Type} {P:Program} {ops:Array Oper} {V:Γ→Nat→Value→Prop} {a0:Act} {S:List Nat} {Ph:Nat→Γ→World→Prop}
def DI (ops:Array Oper) (n:Nat):Bool:=
 (List.range ops.size).all fun i=>match ops[i]? with
  | some o=>(match o.dst with | some t=>decide (t<n) && (List.range i).all (fun j=>match ops[j]? with | some p=>p.dst != some t | none=>true) | none=>true) && o.after.all (fun e=>!Region.binds .any e || decide (e.on<i))
  | none=>true
theorem nP {n:Nat} (h:DI ops n=true) {i:Nat} {o:Oper} (ho:ops[i]? = some o) :
 (∀ t,o.dst=some t→t<n∧∀ (j:Nat) (p:Oper),ops[j]? = some p→j<i→p.dst≠some t)∧∀ e ∈ o.after,Region.binds .any e=true→e.on<i:=by
 unfold DI at h
 rw [List.all_eq_true] at h
 have hi:i<ops.size:=(Array.getElem?_eq_some_iff.1 ho).1
 have h1:=h i (List.mem_range.2 hi)
 rw [ho] at h1
 simp only [Bool.and_eq_true] at h1
 obtain⟨h1,h2⟩:=h1
 refine⟨fun t ht=>?_,fun e he hb=>?_⟩
 · rw [ht] at h1
   simp only [Bool.and_eq_true,decide_eq_true_eq] at h1
   refine⟨h1.1,fun j p hp hj=>?_⟩
   have h3:=List.all_eq_true.1 h1.2 j (List.mem_range.2 hj)
   rw [hp] at h3
   simpa using h3
 · have:=(Array.all_eq_true_iff_forall_mem.1 h2) e he
   rw [hb] at this
   simpa using this
theorem kN {n:Nat} (hB:DI ops n=true) {listed:Array Bool} (hs:listed.size=ops.size) (hr:Region.ready .any ops listed=[]):∀ i,i<ops.size→listed.getD i false=true:=by
 intro i
 induction i using Nat.strongRecOn with
 | _ i ih=>
  intro hi
  have ho:ops[i]? = some ops[i]:=Array.getElem?_eq_getElem hi
  by_cases hl:listed.getD i false=true
  · exact hl
  · exfalso
    have hm:i ∈ Region.ready .any ops listed:=mem_ready.2 ⟨by
     have hx:listed[i]? = some listed[i]:=Array.getElem?_eq_getElem (by omega)
     rw [Array.getD_eq_getD_getElem?,hx] at hl ⊢
     simpa using hl,_,ho,fun e he hb=>?_⟩
    · rw [hr] at hm; cases hm
    · have hlt:=(nP hB ho).2 e he hb
      exact ih e.on hlt (by omega)
theorem tV.MU {n:Nat} (hB:DI ops n=true) (hn:a0.tmps.size=n) {listed:Array Bool} {a:Act} {w:World} (hs:listed.size=ops.size)
 {γ γ':Γ} (h:tV ops V S Ph a0 γ listed a w) {i:Nat} {o:Oper} (ho:ops[i]? = some o) (hw:∀ j,waitsFor o j=true→listed.getD j false=true) {u:Value} {w':World} (hgg:∀ j v,j≠i→V γ j v→V γ' j v) (hu:V γ' i u) (hp:∃ p,IZ S (listed.setIfInBounds i true) p∧Ph p γ' w') :
 tV ops V S Ph a0 γ' (listed.setIfInBounds i true) (a.put o.dst u) w':=by
 have hi:i<ops.size:=(Array.getElem?_eq_some_iff.1 ho).1
 have hput:∀ t,o.dst≠some t→(a.put o.dst u).tmps[t]? = a.tmps[t]?:=by
  intro t ht
  unfold Act.put
  cases hd:o.dst with
  | none=>rfl
  | some d=>
   have hne:d≠t:=fun e=>ht (by rw [hd,e])
   simp [Array.getElem?_setIfInBounds,hne]
 refine⟨hp,?_,?_,fun t ht=>?_,fun j p t hp hl ht=>?_,fun j p m hp hl hm=>?_⟩
 · unfold Act.put; split <;> simp [h.size]
 · unfold Act.put; split <;> simp [h.defers]
 · rw [hput t (fun hd=>by
    have:=ht i o ho hd
    rw [gN (by omega),if_pos rfl] at this; cases this)]
   exact h.keep t fun j p hp hd=>by
    have:=ht j p hp hd
    rw [gN (by omega)] at this
    split at this
    · cases this
    · exact this
 · rw [gN (by omega)] at hl
   by_cases hij:i=j
   · subst hij
     rw [ho] at hp; injection hp with hp; subst hp
     have hlt:=((nP hB ho).1 t ht).1
     refine⟨u,?_,hu⟩
     unfold Act.put
     rw [ht]
     simp only [Array.getElem?_setIfInBounds]
     rw [if_pos trivial,if_pos (by rw [h.size,hn]; exact hlt)]
   · rw [if_neg hij] at hl
     obtain⟨u',h1,h2⟩:=h.done j p t hp hl ht
     refine⟨u',?_,hgg _ _ (fun e=>hij e.symm) h2⟩
     rw [hput t ?_]; exact h1
     intro e
     rcases Nat.lt_or_gt_of_ne hij with hlt | hlt
     · exact ((nP hB hp).1 t ht).2 i o ho hlt e
     · exact ((nP hB ho).1 t e).2 j p hp hlt ht
 · rw [gN (by omega)] at hl ⊢
   by_cases him:i=m
   · rw [if_pos him]
   · rw [if_neg him]
     by_cases hij:i=j
     · subst hij
       rw [ho] at hp; injection hp with hp; subst hp
       exact hw m hm
     · rw [if_neg hij] at hl
       exact h.closed j p m hp hl hm
def ou (P:Program) (ops:Array Oper) (o:Oper) (a:Act) (w:World) (K:Act→World→Prop) (Q:Exit→Act→World→Prop):Prop:=
 if Region.wanted o (yielded ops a.tmps)=true then o.wp P a w K Q else K (a.put o.dst undef) w
theorem vZ {P:Program} {ops:Array Oper} {o:Oper} {a:Act} {w:World} {K K':Act→World→Prop} {Q:Exit→Act→World→Prop} (h:∀ a w,K a w→K' a w) (hh:ou P ops o a w K Q) :
 (if Region.wanted o (yielded ops a.tmps)=true then o.wp P a w K' Q∨(o.asks P a w∧LetsOut Q) else K' (a.put o.dst undef) w):=by
 unfold ou at hh
 split at hh
 · rename_i hw
   rw [if_pos hw]
   exact .inl (Oper.wp_mono h hh)
 · rename_i hw
   rw [if_neg hw]
   exact h _ _ hh
def xW {Γ:Type} (P:Program) (ops:Array Oper) (V:Γ→Nat→Value→Prop) (S:List Nat) (Ph:Nat→Γ→World→Prop) (a0:Act) (Q:Exit→Act→World→Prop) (i:Nat) (o:Oper):Prop:=
 ((∃ k,S[k]? = some i∧∀ γ a w,Ph k γ w→Knows ops (V γ) a0 i o a→ou P ops o a w (fun a' w'=>∃ u γ',a'=a.put o.dst u∧(∀ j v,j≠i→V γ j v→V γ' j v)∧V γ' i u∧Ph (k+1) γ' w') Q) ∨
  (i ∉ S∧∃ lo hi,loB S o lo=true∧hiB ops S i hi=true∧∀ p γ a w,lo≤p→p≤hi→Ph p γ w→Knows ops (V γ) a0 i o a→ou P ops o a w (fun a' w'=>∃ u γ',a'=a.put o.dst u∧(∀ j v,j≠i→V γ j v→V γ' j v)∧V γ' i u∧Ph p γ' w') Q))
theorem uZ {n:Nat} {Q:Exit→Act→World→Prop} (hB:DI ops n=true) (hC:chainB ops S=true) (hn:a0.tmps.size=n)
 (hop:∀ (i:Nat) (o:Oper),ops[i]? = some o→xW P ops V S Ph a0 Q i o)
 (hQ:∀ γ a w,(∀ listed,(∀ i,i<ops.size→listed.getD i false=true)→tV ops V S Ph a0 γ listed a w)→Q .normal a w) :
 ∀ (fuel:Nat) (γ:Γ) (listed:Array Bool) (a:Act) (w:World),listed.size=ops.size→(listed.toList.filter (! ·)).length≤fuel→tV ops V S Ph a0 γ listed a w→wpAny P .any ops Q fuel listed a w:=by
 have yu:∀ {γ:Γ} {listed:Array Bool} {a:Act} {w:World},tV ops V S Ph a0 γ listed a w→(∀ i,i<ops.size→listed.getD i false=true)→∀ l':Array Bool,(∀ i,i<ops.size→l'.getD i false=true)→tV ops V S Ph a0 γ l' a w:=by
  intro γ listed a w h hl l' hl'
  refine⟨?_,h.size,h.defers,fun t ht=>h.keep t fun i o ho hd=>absurd (ht i o ho hd) (by rw [hl' i (Array.getElem?_eq_some_iff.1 ho).1]; simp),fun i o t ho _ ht=>h.done i o t ho (hl i (Array.getElem?_eq_some_iff.1 ho).1) ht,fun i o j ho _ hj=>?_⟩
  · obtain⟨p,⟨hp1,hp2⟩,hp3⟩:=h.at_
    refine⟨p,⟨hp1,fun k i hk=>?_⟩,hp3⟩
    have hi:=(fV hC hk).1
    rw [← hp2 k i hk,hl i hi,hl' i hi]
  · refine hl' j ?_
    have hj':=hj
    unfold waitsFor at hj
    obtain⟨e,he,h2⟩:=Array.any_eq_true'.1 hj
    simp only [Bool.and_eq_true,beq_iff_eq] at h2
    have:=(nP hB ho).2 e he h2.2
    have hi:=(Array.getElem?_eq_some_iff.1 ho).1
    omega
 intro fuel
 induction fuel with
 | zero=>
  intro γ listed a w hs hf h
  have hr:Region.ready .any ops listed=[]:=by
   cases hr:Region.ready .any ops listed with
   | nil=>rfl
   | cons i r=>
    exfalso
    have hm:i ∈ Region.ready .any ops listed:=by rw [hr]; exact List.mem_cons_self
    obtain⟨h1,o,ho,_⟩:=mem_ready.1 hm
    have hi:i<ops.size:=(Array.getElem?_eq_some_iff.1 ho).1
    have hx:listed[i]? = some listed[i]:=Array.getElem?_eq_getElem (by omega)
    rw [Array.getD_eq_getD_getElem?,hx] at h1
    have h2:false ∈ listed.toList.filter (! ·):=List.mem_filter.2 ⟨by rw [← show listed[i]=false from by simpa using h1]; exact Array.getElem_mem_toList (by omega),rfl⟩
    have:=List.length_pos_of_mem h2
    omega
  exact⟨hr,hQ γ a w (yu h (kN hB hs hr))⟩
 | succ fuel ih=>
  intro γ listed a w hs hf h
  refine⟨fun hr=>hQ γ a w (yu h (kN hB hs hr)),fun i hi=>?_⟩
  obtain⟨h1,o,ho,hall⟩:=mem_ready.1 hi
  have hil:i<ops.size:=(Array.getElem?_eq_some_iff.1 ho).1
  have AL:i<listed.size:=by omega
  have hno:listed.getD i false=false:=by
   have hx:listed[i]? = some listed[i]:=Array.getElem?_eq_getElem AL
   rw [Array.getD_eq_getD_getElem?,hx] at h1 ⊢
   simpa using h1
  have tX:∀ j,waitsFor o j=true→listed.getD j false=true:=by
   intro j hj
   unfold waitsFor at hj
   obtain⟨e,he,h2⟩:=Array.any_eq_true'.1 hj
   simp only [Bool.and_eq_true,beq_iff_eq] at h2
   obtain⟨h2,h3⟩:=h2
   subst h2
   exact hall e he h3
  have Cd:Knows ops (V γ) a0 i o a:=⟨fun t v hv hn=>by rw [h.keep t (zS hn hno h.closed)]; exact hv,fun j p t hp ht hj=>h.done j p t hp (tX j hj) ht,h.defers⟩
  obtain⟨p,⟨hp1,hp2⟩,hp3⟩:=h.at_
  have hk:=hop i o ho
  unfold wpOp
  rw [ho]
  dsimp only
  have next:∀ u γ' w',(∀ j v,j≠i→V γ j v→V γ' j v)→V γ' i u→(∃ p,IZ S (listed.setIfInBounds i true) p∧Ph p γ' w')→wpAny P .any ops Q fuel (listed.setIfInBounds i true) (a.put o.dst u) w':=by
   intro u γ' w' hgg hu hp
   refine ih _ _ _ _ (by simpa using hs) ?_ (h.MU hB hn hs ho tX hgg hu hp)
   have hx:listed[i]? = some listed[i]:=Array.getElem?_eq_getElem AL
   have h2:listed.toList[i]? = some false:=by
    rw [Array.getElem?_toList,hx]
    rw [Array.getD_eq_getD_getElem?,hx] at hno
    simpa using hno
   have h3:=count_set listed.toList i h2
   simp only [Array.toList_setIfInBounds]
   omega
  rcases hk with ⟨k,hk,hw⟩ | ⟨hns,lo,hi',hlo,hhi,hw⟩
  · have hkp:p=k:=by
     have e1:=hp2 k i hk
     rw [hno] at e1
     have h1:¬ k<p:=by
      intro hlt; rw [decide_eq_true hlt] at e1; cases e1
     rcases (fV hC hk).2.1 with h0 | ⟨o',j,ho',hj,hwj⟩
     · omega
     · rw [ho] at ho'; injection ho' with ho'; subst ho'
       have e2:=hp2 (k - 1) j hj
       rw [tX j hwj] at e2
       have h2:k - 1<p:=of_decide_eq_true e2.symm
       omega
    subst hkp
    refine vZ (fun a' w' hh=>?_) (hw γ a w hp3 Cd)
    obtain⟨u,γ',rfl,hgg,hu,hph⟩:=hh
    refine next u γ' w' hgg hu ⟨p+1,⟨(List.getElem?_eq_some_iff.1 hk).1,fun m j hm=>?_⟩,hph⟩
    rw [gN AL]
    by_cases hij:i=j
    · rw [if_pos hij]
      subst hij
      have hmp:m=p:=by
       rcases Nat.lt_trichotomy m p with hlt | heq | hgt
       · exact absurd rfl ((fV hC hk).2.2 m i hlt hm)
       · exact heq
       · exact absurd rfl ((fV hC hm).2.2 p i hgt hk)
      rw [decide_eq_true (by omega)]
    · rw [if_neg hij,hp2 m j hm]
      have hne:m≠p:=fun e=>by subst e; rw [hk] at hm; injection hm with hm; exact hij hm
      by_cases hlt:m<p
      · rw [decide_eq_true hlt,decide_eq_true (by omega)]
      · rw [decide_eq_false hlt,decide_eq_false (by omega)]
  · have hl:lo≤p:=by
     unfold loB at hlo
     simp only [Bool.or_eq_true,Bool.and_eq_true,beq_iff_eq,decide_eq_true_eq] at hlo
     rcases hlo with h0 | ⟨h0,h2⟩
     · omega
     · rcases Nat.eq_zero_or_pos lo with h3 | h3
       · omega
       · have hj:S[lo - 1]? = some S[lo - 1]:=List.getElem?_eq_getElem (by omega)
         rw [show S.getD (lo - 1) 0=S[lo - 1] by rw [List.getD_eq_getElem?_getD,hj]; rfl] at h2
         have e:=hp2 _ _ hj
         rw [tX _ h2] at e
         have:=of_decide_eq_true e.symm
         omega
    have hh':p≤hi':=by
     unfold hiB at hhi
     simp only [Bool.or_eq_true,Bool.and_eq_true,beq_iff_eq,decide_eq_true_eq] at hhi
     rcases hhi with h0 | ⟨h0,h2⟩
     · omega
     · have hj:S[hi']? = some S[hi']:=List.getElem?_eq_getElem h0
       rw [show S.getD hi' 0=S[hi'] by rw [List.getD_eq_getElem?_getD,hj]; rfl] at h2
       cases hoj:ops[S[hi']]? with
       | none=>rw [hoj] at h2; cases h2
       | some o'=>
        rw [hoj] at h2
        have e:=hp2 _ _ hj
        by_cases hlt:hi'<p
        · rw [decide_eq_true hlt] at e
          have:=h.closed _ o' i hoj e h2
          rw [hno] at this; cases this
        · omega
    refine vZ (fun a' w' hh=>?_) (hw p γ a w hl hh' hp3 Cd)
    obtain⟨u,γ',rfl,hgg,hu,hph⟩:=hh
    refine next u γ' w' hgg hu ⟨p,⟨hp1,fun m j hm=>?_⟩,hph⟩
    rw [gN AL,if_neg (fun e=>hns (by subst e; exact List.mem_of_getElem? hm))]
    exact hp2 m j hm
theorem okQ {Q:Exit→Act→World→Prop} {i:Nat} {o:Oper} (lo hi:Nat) (h:∀ p γ a w,lo≤p→p≤hi→Ph p γ w→Knows ops (V γ) a0 i o a→o.wp P a w (fun a' w'=>∃ u γ',a'=a.put o.dst u∧(∀ j v,j≠i→V γ j v→V γ' j v)∧V γ' i u∧Ph p γ' w') Q)
 (h0:i ∉ S:=by decide) (h1:loB S o lo=true:=by decide +kernel) (h2:hiB ops S i hi=true:=by decide +kernel) (hg:o.guard=none:=by rfl):xW P ops V S Ph a0 Q i o:=
 .inr ⟨h0,lo,hi,h1,h2,fun p γ a w hl hh hp hk=>by
  unfold ou Region.wanted
  rw [hg,if_pos rfl]
  exact h p γ a w hl hh hp hk⟩
theorem ok1 {Q:Exit→Act→World→Prop} {i:Nat} {o:Oper} (lo hi j t:Nat) {p:Oper} {v u:Value} (h1:ops[j]? = some p) (h2:p.dst=some t) (hv:∀ γ x,V γ j x→x=v) (hu:∀ γ,V γ i u)
 (he:∀ (a:Act) (w:World) (K:Act→World→Prop),a.tmps[t]? = some v→K (a.put o.dst u) w→o.wp P a w K Q:=by intro a w K h hk; simp [go_sem,Oper.wp,execOp,Act.eval,h]; exact hk)
 (h0:i ∉ S:=by decide) (hl:loB S o lo=true:=by decide +kernel) (hh:hiB ops S i hi=true:=by decide +kernel) (h3:waitsFor o j=true:=by decide +kernel) (hg:o.guard=none:=by rfl):xW P ops V S Ph a0 Q i o:=
 okQ lo hi (fun p γ a w _ _ hp hk=>he a w _ (by obtain⟨x,hx,hV⟩:=hk.g j t h1 h2 h3; rw [hx,hv γ x hV]) ⟨u,γ,rfl,fun _ _ _ h=>h,hu γ,hp⟩) h0 hl hh hg
theorem ok0 {Q:Exit→Act→World→Prop} {i:Nat} {o:Oper} (lo hi t:Nat) {v u:Value} (h1:a0.tmps[t]? = some v) (hu:∀ γ,V γ i u)
 (he:∀ (a:Act) (w:World) (K:Act→World→Prop),a.tmps[t]? = some v→K (a.put o.dst u) w→o.wp P a w K Q:=by intro a w K h hk; simp [go_sem,Oper.wp,execOp,Act.eval,h]; exact hk)
 (h0:i ∉ S:=by decide) (hl:loB S o lo=true:=by decide +kernel) (hh:hiB ops S i hi=true:=by decide +kernel) (h3:tW ops i t=true:=by decide +kernel) (hg:o.guard=none:=by rfl):xW P ops V S Ph a0 Q i o:=
 okQ lo hi (fun p γ a w _ _ hp hk=>he a w _ (hk.k t h1 h3) ⟨u,γ,rfl,fun _ _ _ h=>h,hu γ,hp⟩) h0 hl hh hg
def yA {Γ:Type} (P:Program) (ops:Array Oper) (V:Γ→Nat→Value→Prop) (S:List Nat) (Ph:Nat→Γ→World→Prop) (a0:Act) (Q:Exit→Act→World→Prop):Nat→List Oper→Prop
 | _,[]=>True
 | i,o :: l=>xW P ops V S Ph a0 Q i o∧yA P ops V S Ph a0 Q (i+1) l
theorem yA.all {Q:Exit→Act→World→Prop}:∀ {l:List Oper} {k:Nat},yA P ops V S Ph a0 Q k l→∀ (i:Nat) (o:Oper),l[i]? = some o→xW P ops V S Ph a0 Q (k+i) o
 | [],_,_,i,o,h=>by simp at h
 | x :: l,k,hh,0,o,h=>by
  have e:x=o:=by simpa using h
  subst e; exact hh.1
 | x :: l,k,hh,i+1,o,h=>by
  have:=hh.2.all i o (by simpa using h)
  rwa [show k+(i+1)=k+1+i from by omega]
theorem tY {id:Nat} {n:Nat} {l:List Oper} {w0:World} {Q:Exit→Act→World→Prop} (hm:P.follows .mixedOrders=true) (V:Γ→Nat→Value→Prop) (S:List Nat) (Ph:Nat→Γ→World→Prop) (γ0:Γ) (hB:DI l.toArray n=true) (hC:chainB l.toArray S=true) (hn:a0.tmps.size=n)
 (h0:Ph 0 γ0 w0.drew) (hop:yA P l.toArray V S Ph a0 Q 0 l) (hQ:∀ γ a w,yw l.toArray V S Ph a0 γ a w→Q .normal a w):(Code.region id l.toArray true).wp P Q a0 w0:=by
 refine wp_region_any hm (uZ hB hC hn (fun i o ho=>by
  have:=hop.all i o (by simpa using ho)
  rwa [Nat.zero_add] at this) (fun γ a w h=>hQ γ a w ?_) l.toArray.size γ0 (Array.replicate l.toArray.size false) a0 _ (by simp) ?_ ?_)
 · have hh:=h (Array.replicate l.toArray.size true) (fun i hi=>by rw [Array.getD_eq_getD_getElem?,Array.getElem?_replicate,if_pos hi]; rfl)
   obtain⟨p,⟨hp1,hp2⟩,hp3⟩:=hh.at_
   have hpl:p=S.length:=by
    rcases Nat.eq_zero_or_pos S.length with h0 | h0
    · omega
    · have hk:S[S.length - 1]? = some S[S.length - 1]:=List.getElem?_eq_getElem (by omega)
      have e:=hp2 _ _ hk
      rw [Array.getD_eq_getD_getElem?,Array.getElem?_replicate,if_pos (fV hC hk).1] at e
      have:=of_decide_eq_true e.symm
      omega
   subst hpl
   exact⟨hp3,hh.size,hh.defers,fun t ht=>hh.keep t fun i o ho hd=>absurd hd (ht i o ho),fun i o t ho ht=>hh.done i o t ho (by rw [Array.getD_eq_getD_getElem?,Array.getElem?_replicate,if_pos (Array.getElem?_eq_some_iff.1 ho).1]; rfl) ht⟩
 · exact Nat.le_trans (List.length_filter_le _ _) (by simp)
 · have hf:∀ i,(Array.replicate l.toArray.size false).getD i false=false:=by
    intro i
    rw [Array.getD_eq_getD_getElem?,Array.getElem?_replicate]
    split <;> rfl
   exact⟨⟨0,⟨Nat.zero_le _,fun k i _=>by rw [hf]; rfl⟩,h0⟩,rfl,rfl,fun _ _=>rfl,fun i o t ho hl _=>(by rw [hf] at hl; cases hl),fun i o j ho hl _=>(by rw [hf] at hl; cases hl)⟩
theorem rq {id:Nat} {l:List Oper} {w0:World} {Q:Exit→Act→World→Prop} (n:Nat) (V:Γ→Nat→Value→Prop) (S:List Nat) (Ph:Nat→Γ→World→Prop) (γ0:Γ)
 (h0:Ph 0 γ0 w0.drew) (hop:yA P l.toArray V S Ph a0 Q 0 l) (hQ:∀ γ a w,yw l.toArray V S Ph a0 γ a w→Q .normal a w) (hm:P.follows .mixedOrders=true:=by kernel_rfl) (hB:DI l.toArray n=true:=by decide +kernel) (hC:chainB l.toArray S=true:=by decide +kernel) (hn:a0.tmps.size=n:=by rfl):(Code.region id l.toArray true).wp P Q a0 w0:=
 tY hm V S Ph γ0 hB hC hn h0 hop hQ
end
theorem bF {P:Program} {ops:Array Oper} {o:Oper} {a:Act} {w:World} {K:Act→World→Prop} {Q:Exit→Act→World→Prop} (h:o.guard=none) (ht:o.wp P a w K Q):ou P ops o a w K Q:=by
 unfold ou Region.wanted
 rw [h,if_pos rfl]
 exact ht
end Go.Proofs.YtoeejfhdjmkpcaaGreatDoor
