/- Of the proof of a statement: PlSrv, Fits. -/
import Derived.Test.YtbllgmociapjeaaGreatDoorVPlPlace
import Derived.Test.YtbllgmociapjeaaGreatDoorVRowsC
set_option linter.unusedVariables false
set_option linter.unusedSimpArgs false
set_option maxRecDepth 100000
set_option maxHeartbeats 8000000
/- What a server answers: plain. -/
namespace Go.Proofs.YtbllgmociapjeaaGreatDoor
open Go.Lib (hid)
open Go.Op (bytesLess)
section
variable {α:Type} {E:α→Int} {key:α→ByteArray}
theorem xW:∀ (p:Option ByteArray) (l:List α),(∀ x ∈ l,E x=0∧before p (key x)=true)→bG key l→dP E key p l=0
 | _,[],_,_=>rfl
 | p,x :: l,h,hs=>by
  obtain⟨h1,h2⟩:=List.pairwise_cons.1 hs
  have h0:=h x List.mem_cons_self
  unfold dP
  rw [if_pos h0.1,if_pos h0.2]
  exact xW (some (key x)) l (fun y hy=>⟨(h y (List.mem_cons_of_mem _ hy)).1,h1 y hy⟩) h2
theorem AQ {l:List α}:bT E key l=0↔(∀ x ∈ l,E x=0)∧bG key l:=
 ⟨fun h=>⟨fun x hx=>dX h hx,cZ h⟩,fun h=>xW none l (fun x hx=>⟨h.1 x hx,rfl⟩) h.2⟩
theorem vT {E':α→Int} {l l':List α} (h:bT E key l=0) (hs:l'.Sublist l) (he:∀ x ∈ l',E x=0→E' x=0):bT E' key l'=0:=by
 obtain⟨h1,h2⟩:=AQ.1 h
 exact AQ.2 ⟨fun x hx=>he x hx (h1 x (hs.subset hx)),List.Pairwise.sublist hs h2⟩
end
theorem bP {st:ah}:aE st=0↔ranged st.rev 0 1099511627776=true∧eC st=true∧bT fB aC.name st.jobs=0∧bT dO aA.name st.nodes=0∧bT (fC st) ak.job st.leases=0∧mF st=true:=by
 unfold aE
 constructor
 · intro h
   split at h
   · omega
   split at h
   · omega
   split at h
   · omega
   split at h
   · omega
   split at h
   · omega
   split at h
   · rename_i h1 h2 h3 h4 h5 h6
     exact⟨by simpa using h1,by simpa using h2,Decidable.not_not.1 h3,Decidable.not_not.1 h4,Decidable.not_not.1 h5,h6⟩
   · omega
 · rintro⟨h1,h2,h3,h4,h5,h6⟩
   rw [if_neg (by rw [h1]; decide),if_neg (by rw [h2]; decide),if_neg (by rw [h3]; decide),if_neg (by rw [h4]; decide),if_neg (by rw [h5]; decide),if_pos h6]
theorem sV {st st':ah} (hn:rD st) (s:ByteArray):∀ {l' l:List ak},l'.Sublist l→(∀ x ∈ l',gu st' x s=gu st x s)→fU st' s l'≤fU st s l
 | _,_,.slnil,_=>Int.le_refl _
 | _,_,.cons a h,he=>by
  have ih:=sV hn s h he
  have:=(rH hn a s).1
  show _≤gu st a s+fU st s _
  omega
 | _,_,.cons_cons a h,he=>by
  have ih:=sV hn s h (fun x hx=>he x (List.mem_cons_of_mem _ hx))
  have:=he a List.mem_cons_self
  show gu st' a s+fU st' s _≤gu st a s+fU st s _
  omega
theorem vU {st st':ah} (h:st'.jobs=st.jobs) (s:ByteArray):∀ l:List ak,fU st' s l=fU st s l
 | []=>rfl
 | a :: l=>by
  show gu st' a s+fU st' s l=gu st a s+fU st s l
  rw [vU h s l]
  unfold gu
  rw [h]
theorem pF {st st':ah} (h:aE st=0) (hr:st'.rev=st.rev) (hj:st'.jobs.Sublist st.jobs) (hn:st'.nodes.Sublist st.nodes) (hl:st'.leases.Sublist st.leases)
 (ho:∀ l ∈ st'.leases,dA st'.jobs l.job=dA st.jobs l.job∧dh st'.nodes l.node=dh st.nodes l.node):aE st'=0:=by
 obtain⟨h1,h2,h3,h4,h5,h6⟩:=bP.1 h
 refine bP.2 ⟨by rw [hr]; exact h1,?_,vT h3 hj (fun _ _ h=>h),vT h4 hn (fun _ _ h=>h),vT h5 hl (fun l hm he=>?_),?_⟩
 · unfold eC at h2 ⊢
   simp only [Bool.and_eq_true,decide_eq_true_eq] at h2 ⊢
   have e1:=hj.length_le
   have e2:=hn.length_le
   have e3:=hl.length_le
   omega
 · unfold fC at he ⊢
   rw [(ho l hm).1,(ho l hm).2]
   exact he
 · unfold mF at h6 ⊢
   rw [List.all_eq_true] at h6 ⊢
   intro n hm
   have h7:=h6 n (hn.subset hm)
   simp only [decide_eq_true_eq] at h7 ⊢
   refine Int.le_trans ?_ h7
   unfold rB
   refine sV (AN h3) n.name hl fun x hx=>?_
   unfold gu
   rw [(ho x hx).1]
theorem oD {α:Type} (key:α→ByteArray) (s q:ByteArray) (h:s≠q):∀ l:List α,(l.filter fun a=>!decide (key a=q)).find? (fun a=>decide (key a=s))=l.find? fun a=>decide (key a=s)
 | []=>rfl
 | a :: l=>by
  have ih:=oD key s q h l
  by_cases e:key a=q
  · have e2:¬ key a=s:=fun e2=>h (e2.symm.trans e)
    rw [List.filter_cons,List.find?_cons,decide_eq_true e,decide_eq_false e2]
    simpa using ih
  · rw [List.filter_cons,decide_eq_false e]
    simp only [Bool.not_false,if_true]
    rw [List.find?_cons,List.find?_cons,ih]
theorem Cm {st:ah} (h:aE st=0) (s:ByteArray):aE (sD st s)=0:=by
 refine pF h rfl List.filter_sublist (List.Sublist.refl _) List.filter_sublist fun l hl=>⟨?_,rfl⟩
 have:=(List.mem_filter.1 hl).2
 exact oD aC.name l.job s (by simpa using this) _
theorem Cn {st:ah} (h:aE st=0) (s:ByteArray):aE (sE st s)=0:=by
 refine pF h rfl (List.Sublist.refl _) List.filter_sublist List.filter_sublist fun l hl=>⟨rfl,?_⟩
 have:=(List.mem_filter.1 hl).2
 exact oD aA.name l.node s (by simpa using this) _
theorem Co {st:ah} (h:aE st=0) (s:ByteArray):aE (qd st s)=0:=
 pF h rfl (List.Sublist.refl _) (List.Sublist.refl _) List.filter_sublist fun _ _=>⟨rfl,rfl⟩
theorem Cp {st:ah} (h:aE st=0) (t:Int):aE (sJ st t)=0:=
 pF h rfl (List.Sublist.refl _) (List.Sublist.refl _) List.filter_sublist fun _ _=>⟨rfl,rfl⟩
def nextR (st:ah) (now:Int) (q:aF):Int × ah × Int:=
 if q.kind=1 then (aE (kH st q.job),kH st q.job,now)
 else if q.kind=2 then (aE (lL st q.node),lL st q.node,now)
 else if q.kind=3 then (if (dA st.jobs q.name).isSome=true then (aE (sD st q.name),sD st q.name,now) else (6,st,now))
 else if q.kind=4 then (if (dh st.nodes q.name).isSome=true then (aE (sE st q.name),sE st q.name,now) else (6,st,now))
 else if q.kind=5 then (match dA st.jobs q.lease.job with
  | none=>(6,st,now)
  | some j=>if (dh st.nodes q.lease.node).isSome=false then (6,st,now)
   else if (eB st.leases q.lease.job).isSome=true then (7,st,now)
   else if q.lease.till≤now then (1,st,now)
   else if 100<j.tries+1 then (2,st,now)
   else (aE (ny st j q.lease),ny st j q.lease,now))
 else if q.kind=6 then (if (eB st.leases q.name).isSome=true then (aE (qd st q.name),qd st q.name,now) else (6,st,now))
 else if q.kind=7 then (if 1099511627776<now+q.n then (1,st,now+q.n) else (aE (sJ st (now+q.n)),sJ st (now+q.n),now+q.n))
 else (aE st,st,now)
theorem oE {st:ah} (h:aE st=0):∀ j ∈ st.jobs,0≤j.tries∧j.tries≤100:=fun _ hj=>(gI (dX (bP.1 h).2.2.1 hj)).2.2.2.2
theorem JB {st:ah} (h:aE st=0) (now:Int) (q:aF):(nextR st now q).1=(doR st now q).1∧((doR st now q).1=0→nextR st now q=doR st now q):=by
 unfold nextR doR
 split
 · exact⟨rfl,fun _=>rfl⟩
 split
 · exact⟨rfl,fun _=>rfl⟩
 split
 · split
   · rw [Cm h]; exact⟨rfl,fun _=>rfl⟩
   · exact⟨rfl,fun h=>by cases h⟩
 split
 · split
   · rw [Cn h]; exact⟨rfl,fun _=>rfl⟩
   · exact⟨rfl,fun h=>by cases h⟩
 split
 · unfold kI
   cases hj:dA st.jobs q.lease.job with
   | none=>exact⟨rfl,fun _=>rfl⟩
   | some j=>
    dsimp only
    split
    · exact⟨rfl,fun _=>rfl⟩
    split
    · exact⟨rfl,fun _=>rfl⟩
    split
    · exact⟨rfl,fun _=>rfl⟩
    have ht:=oE h j (List.mem_of_find?_eq_some hj)
    by_cases h5:j.tries=100
    · rw [if_pos (by omega),if_pos h5]; exact⟨rfl,fun _=>rfl⟩
    · rw [if_neg (by omega),if_neg h5]; exact⟨rfl,fun _=>rfl⟩
 split
 · split
   · rw [Co h]; exact⟨rfl,fun _=>rfl⟩
   · exact⟨rfl,fun h=>by cases h⟩
 split
 · by_cases h7:1099511627776<now+q.n
   · rw [if_pos h7,if_pos (by omega)]; exact⟨rfl,fun h=>by cases h⟩
   · rw [if_neg h7,if_neg (by omega),Cp h]; exact⟨rfl,fun _=>rfl⟩
 · rw [h]; exact⟨rfl,fun _=>rfl⟩
def tS (st:ah):ah:=⟨st.rev+1,st.jobs,st.nodes,st.leases⟩
def kB (a b:ah):Prop:=a.jobs=b.jobs∧a.nodes=b.nodes∧a.leases=b.leases
noncomputable def iI (st:ah) (now:Int) (q:aF):Int × ah × Int:=if cu q=0 then doR st now q else (cu q,st,now)
structure mM where
 e:Int
 ch:Bool
 st:ah
 now:Int
open Classical in
noncomputable def iN (st:ah) (now:Int) (R:Int × ah × Int):mM:=
 if R.1=0 then (if kB st R.2.1 then ⟨0,false,st,R.2.2⟩
  else if 1099511627776<st.rev+1 then ⟨2,false,st,now⟩ else ⟨0,true,tS R.2.1,R.2.2⟩)
 else ⟨R.1,false,st,now⟩
theorem uH (st:ah) (now:Int) (q:aF):(doR st now q).2.1.rev=st.rev:=by
 unfold doR kI
 repeat' split
 all_goals rfl
theorem pG {st:ah} (h:aE st=0) {now:Int} {q:aF} (h0:(doR st now q).1=0):aE (doR st now q).2.1=0:=by
 have hn:=JB h now q
 rw [h0] at hn
 rw [← hn.2 rfl]
 have h1:=hn.1
 clear h0 hn
 unfold nextR at h1 ⊢
 split at h1
 · rename_i hk; rw [if_pos hk]; exact h1
 rename_i hk; rw [if_neg hk]
 split at h1
 · rename_i hk; rw [if_pos hk]; exact h1
 rename_i hk; rw [if_neg hk]
 split at h1
 · rename_i hk; rw [if_pos hk]
   split at h1
   · rename_i hi; rw [if_pos hi]; exact h1
   · cases h1
 rename_i hk; rw [if_neg hk]
 split at h1
 · rename_i hk; rw [if_pos hk]
   split at h1
   · rename_i hi; rw [if_pos hi]; exact h1
   · cases h1
 rename_i hk; rw [if_neg hk]
 split at h1
 · rename_i hk; rw [if_pos hk]
   cases hj:dA st.jobs q.lease.job with
   | none=>rw [hj] at h1; cases h1
   | some j=>
    rw [hj] at h1
    dsimp only at h1 ⊢
    split at h1
    · cases h1
    rename_i h1'; rw [if_neg h1']
    split at h1
    · cases h1
    rename_i h1'; rw [if_neg h1']
    split at h1
    · cases h1
    rename_i h1'; rw [if_neg h1']
    split at h1
    · cases h1
    rename_i h1'; rw [if_neg h1']
    exact h1
 rename_i hk; rw [if_neg hk]
 split at h1
 · rename_i hk; rw [if_pos hk]
   split at h1
   · rename_i hi; rw [if_pos hi]; exact h1
   · cases h1
 rename_i hk; rw [if_neg hk]
 split at h1
 · rename_i hk; rw [if_pos hk]
   split at h1
   · cases h1
   · rename_i hi; rw [if_neg hi]; exact h1
 rename_i hk; rw [if_neg hk]
 exact h1
theorem vV {st:ah} (h:aE st=0) (hr:¬ 1099511627776<st.rev+1):aE (tS st)=0:=by
 obtain⟨h1,h2,h3,h4,h5,h6⟩:=bP.1 h
 have h7:=aL.1 h1
 refine bP.2 ⟨aL.2 ⟨by show 0≤st.rev+1; omega,by show st.rev+1≤1099511627776; omega⟩,h2,h3,h4,h5,?_⟩
 unfold mF rB at h6 ⊢
 simp only [vU (show (tS st).jobs=st.jobs from rfl)]
 exact h6
theorem I9 {st:ah} {now:Int} {q:aF} (h:aE st=0) (hn:0≤now∧now≤1099511627776):aE (iN st now (iI st now q)).st=0∧0≤(iN st now (iI st now q)).now∧(iN st now (iI st now q)).now≤1099511627776:=by
 unfold iN
 split
 · rename_i h0
   have hq:cu q=0:=by
    unfold iI at h0
    split at h0
    · assumption
    · exact h0
   have ha:iI st now q=doR st now q:=by unfold iI; rw [if_pos hq]
   rw [ha] at h0 ⊢
   have hc:=pG h h0
   have hv:=uH st now q
   have ht:0≤(doR st now q).2.2∧(doR st now q).2.2≤1099511627776:=by
    by_cases hk:q.kind=7
    · have hp:bR q=0:=by
       unfold cu at hq
       split at hq
       · cases hq
       split at hq
       · cases hq
       exact hq
      have hr:ranged q.n 0 1099511627776=true:=by
       unfold bR at hp
       rw [hk] at hp
       simp only [show ¬ (7:Int)=1 from by decide,show ¬ (7:Int)=2 from by decide,show ¬ (7:Int)=3 from by decide,show ¬ (7:Int)=4 from by decide,show ¬ (7:Int)=5 from by decide,show ¬ (7:Int)=6 from by decide,or_false,if_false,if_true] at hp
       by_cases hr:ranged q.n 0 1099511627776=true
       · exact hr
       · rw [if_neg hr] at hp; cases hp
      have hr:=aL.1 hr
      unfold doR at h0 ⊢
      simp only [hk,show ¬ (7:Int)=1 from by decide,show ¬ (7:Int)=2 from by decide,show ¬ (7:Int)=3 from by decide,show ¬ (7:Int)=4 from by decide,show ¬ (7:Int)=5 from by decide,show ¬ (7:Int)=6 from by decide,if_false,if_true] at h0 ⊢
      split at h0
      · cases h0
      · rename_i hlt
        rw [if_neg hlt]
        dsimp only
        omega
    · have:(doR st now q).2.2=now:=by
       unfold doR kI
       repeat' split
       all_goals first | rfl | (exfalso; exact hk ‹_›)
      rw [this]; exact hn
   split
   · exact⟨h,ht⟩
   split
   · exact⟨h,hn⟩
   · rename_i hs hr
     exact⟨vV hc (by rw [hv]; exact hr),ht⟩
 · exact⟨h,hn⟩
end Go.Proofs.YtbllgmociapjeaaGreatDoor
/- The walks of Fits, in the program and in the reference. -/
namespace Go.Proofs.YtbllgmociapjeaaGreatDoor
open Go.Lib (hid)
open Go.RowKit
def okJ (v:Int) (j:aC):Bool:=(decide (2<v) || decide (j.tag.size=0)) && (decide (1<v) || decide (j.tries=0))
def okN (v:Int) (n:aA):Bool:=decide (1<v) || decide (n.zone.size=0)
def oF (st:ah) (v:Int):Bool:=(decide (v=3) || decide (st.rev=0)) && st.jobs.all (okJ v) && st.nodes.all (okN v)
def vW (st:ah) (v:Int):Bool × Int:=if aE st≠0 then (false,aE st) else if ranged v 1 3=false then (false,1) else (oF st v,0)
def yX (st:ah) (v:Int) (w:World) (e:Ending) (w':World):Prop:=e = .returned (.tuple #[.bool (vW st v).1,.int .i64 (vW st v).2])∧Below w.heap.size w w'
theorem yX.mk' {st:ah} {v:Int} {w w':World} {a:Bool} {b:Int} (h:vW st v=(a,b)) (hb:Below w.heap.size w w'):yX st v w (.returned (.tuple #[.bool a,.int .i64 b])) w':=⟨by rw [h],hb⟩
theorem AR {α:Type} {p:α→Bool} {l:List α} {k:Nat} {x:α} (h:l[k]? = some x):(l.take (k+1)).all p=((l.take k).all p && p x):=by
 rw [xX h,List.all_append]; simp
def LN (st:ah) (x:StA) (v:Int) (b0:Bool) (w:World) (n:Nat) (f i:Value) (wr:World):Prop:=
 ∃ k:Nat,k≤n∧i = .int .i64 k∧f = .bool (b0 && (st.jobs.take k).all (okJ v))∧Below w.heap.size w wr∧Blk wr w.heap.size 26 (stC st x)
def LO (st:ah) (x:StA) (v:Int) (b0:Bool) (w:World) (n:Nat) (f i:Value) (wr:World):Prop:=
 ∃ k:Nat,k≤n∧i = .int .i64 k∧f = .bool (b0 && (st.nodes.take k).all (okN v))∧Below w.heap.size w wr∧Blk wr w.heap.size 26 (stC st x)
theorem GL {v:Int} {j:aC} {a b p q:Bool} (ht:decide (j.tag.size=0)=a) (hr:decide (j.tries=0)=b) (h1:decide (1<v)=p) (h2:decide (2<v)=q):okJ v j=((q || a) && (p || b)):=by unfold okJ; rw [ht,hr,h1,h2]
theorem GM {v:Int} {n:aA} {a p:Bool} (ht:decide (n.zone.size=0)=a) (h1:decide (1<v)=p):okN v n=(p || a):=by unfold okN; rw [ht,h1]
theorem GN {v:Int} (h:ranged v 1 3=true):v=1∨v=2∨v=3:=by have:=aL.1 h; omega
theorem GO (st:ah) (x:StA) (v:Int) (w:World) (hS:StAt w w.heap.size st x) (hT:Tabs w) :
 Calls Tryz.prog 210 #[.agg (stC st x),.int .i64 v] w (yX st v w):=by
 have HS:=hid hS
 have hb1:Below w.heap.size w (w.alloc (.cells (stC st x) 26)):=(Below.refl _ _).alloc (Nat.le_refl _) _
 have hB1:Blk (w.alloc (.cells (stC st x) 26)) w.heap.size 26 (stC st x):=heap_alloc_new w _
 have hC:=hid (lD st x _ ((hS.below hb1).more hb1.size) (hT.below hb1))
 have Hb1:=hid hb1
 have HB1:=hid hB1
 have hfin:=hid (fun a b (h:vW st v=(a,b)) w'=>yX.mk' (w:=w) (w':=w') h)
 have hval:vW st v=if aE st≠0 then (false,aE st) else if ranged v 1 3=false then (false,1) else (oF st v,0):=rfl
 have GP:=hid hval
 clear hb1 hB1 hS hT hval
 obtain⟨rev,jobs,nodes,leases⟩:=st
 obtain⟨aj,nj,cj,an,nn,cn,al,nl,cl⟩:=x
 simp only [stC] at *
 go_enter Tryz.func210,Tryz.ntmps210
 go_wp2_with fail
 refine Calls.mono hC.out ?_
 rintro e w1 ⟨rfl,hb⟩
 have Hb:=hid (Hb1.out.trans (hb.mono Hb1.out.size))
 have HB:=hid (HB1.out.below hb HB1.out.lt)
 clear hb hC HB1
 obtain⟨E,hE⟩:∃ E,aE ⟨rev,jobs,nodes,leases⟩=E:=⟨_,rfl⟩
 rw [hE] at GP ⊢
 by_cases he:E=0
 rotate_left
 · have hend:=hid (hfin.out false E (by rw [GP.out,if_pos he]) _ Hb.out)
   have e1:(E == 0)=false:=beq_eq_false_iff_ne.2 he
   have e2:(E != 0)=true:=bne_iff_ne.2 he
   go_wp2
   go_ret2
   exact hend.out
 subst he
 go_wp2_with fail
 refine Calls.mono (gU _ _ _ _) ?_
 rintro e w2 ⟨rfl,rfl⟩
 cases hr:ranged v 1 3
 · have hend:=hid (hfin.out false 1 (by rw [GP.out,if_neg (by simp),if_pos hr]) _ Hb.out)
   go_wp2
   go_ret2
   exact hend.out
 have GQ:=hid (show vW ⟨rev,jobs,nodes,leases⟩ v=(oF ⟨rev,jobs,nodes,leases⟩ v,0) by rw [GP.out,if_neg (by simp),if_neg (by rw [hr]; simp)])
 have hlj:=HS.out.lj
 have hln:=HS.out.ln
 have hbj:=HS.out.bj
 have hbn:=HS.out.bn
 simp only at hlj hln hbj hbn
 obtain⟨y0,y1⟩:=Blk.c2 (HB.out)
 obtain⟨b0,hb0⟩:∃ b0,(decide (v=3) || decide (rev=0))=b0:=⟨_,rfl⟩
 have HFE:=hid (show oF ⟨rev,jobs,nodes,leases⟩ v=(b0 && jobs.all (okJ v) && nodes.all (okN v)) by unfold oF; rw [← hb0])
 have hv3:=GN hr
 clear hr GP hE
 have LP:=hid (fun f w' (h:f=oF ⟨rev,jobs,nodes,leases⟩ v)=>hfin.out f 0 (by rw [GQ.out,h]) w')
 clear hfin GQ
 have hd:(decide (1<v)=false∧decide (2<v)=false∧(v == 3)=false)∨(decide (1<v)=true∧decide (2<v)=false∧(v == 3)=false)∨(decide (1<v)=true∧decide (2<v)=true∧(v == 3)=true):=by
  rcases hv3 with rfl | rfl | rfl
  · exact .inl ⟨rfl,rfl,rfl⟩
  · exact .inr (.inl ⟨rfl,rfl,rfl⟩)
  · exact .inr (.inr ⟨rfl,rfl,rfl⟩)
 have hb3:(v == 3)=decide (v=3):=by by_cases h:v=3 <;> simp [h]
 have hr0:(rev == 0)=decide (rev=0):=by by_cases h:rev=0 <;> simp [h]
 rw [← hb3,← hr0] at hb0
 clear hb3 hr0 hv3
 obtain⟨z,hz⟩:∃ z,(rev == 0)=z:=⟨_,rfl⟩
 rw [hz] at hb0
 rcases hd with ⟨d1,d2,d3⟩ | ⟨d1,d2,d3⟩ | ⟨d1,d2,d3⟩
 all_goals rw [d3] at hb0
 all_goals cases z
 all_goals simp only [Bool.or_true,Bool.or_false,Bool.true_or,Bool.false_or] at hb0
 all_goals have HB0:=hid hb0
 all_goals clear hb0
 all_goals go_wp2
 all_goals clear y0 y1 hz d3
 all_goals (
  go_loopw [7,9,30] (fun f _ i wr=>LN ⟨rev,jobs,nodes,leases⟩ ⟨aj,nj,cj,an,nn,cn,al,nl,cl⟩ v b0 w nj f i wr) (fun _ _ i _=>nj - (intOf i).toNat)
  case atStart=>exact⟨0,Nat.zero_le _,rfl,by rw [← HB0.out]; simp,Hb.out,HB.out⟩
  case round=>
   clear Hb HB
   obtain⟨k,hk,rfl,rfl,hb,hB⟩:=hrel
   have Hb:=hid hb
   have HB:=hid hB
   have hsz:=hb.size
   by_cases hlt:k<nj
   · obtain⟨y,hf⟩:∃ y,jobs[k]? = some y:=⟨_,List.getElem?_eq_getElem (by omega)⟩
     obtain⟨b,off,hao,hbB,hc⟩:=(HS.out.j.below hb).dB aV hlj hf
     have hstep:=hid (AR (p:=okJ v) hf)
     simp only at hao
     subst hao
     obtain⟨name,prio,need,tries,tag⟩:=y
     obtain⟨c0,c1,c2,c3,c4⟩:=rc5 hc
     have hlb:b<wr.heap.size:=by omega
     have hba:=hid (Hb.out.alloc Hb.out.size (.cells #[.string name,.int .i64 prio,.int .i64 need,.int .i64 tries,.string tag] 32))
     have hBa:=hid (HB.out.alloc (.cells #[.string name,.int .i64 prio,.int .i64 need,.int .i64 tries,.string tag] 32))
     clear hc hf hb hB
     obtain⟨B,hBB⟩:∃ B,(b0 && (jobs.take k).all (okJ v))=B:=⟨_,rfl⟩
     have HBB:=hid hBB
     simp only [hBB]
     clear hBB
     by_cases htag:tag.size=0
     · have Cq:=hid (fun (b:Bool) (h:decide (tries=0)=b)=>GL (j:=⟨name,prio,need,tries,tag⟩) (decide_eq_true htag) h d1 d2)
       obtain rfl:=qM htag
       by_cases htr:tries=0
       · have e2:(tries == 0)=true:=beq_iff_eq.2 htr
         have vX:=hid (Cq.out true (decide_eq_true htr))
         subst htr
         clear Cq
         cases B
         all_goals go_wp2
         all_goals go_roundw
         all_goals (first
          | exact⟨k+1,by omega,by go_num,by rw [hstep.out,← Bool.and_assoc,HBB.out,vX.out]; rfl,hba.out,hBa.out⟩
          | (simp [intOf]; omega))
       · have e2:(tries == 0)=false:=beq_eq_false_iff_ne.2 htr
         have vX:=hid (Cq.out false (decide_eq_false htr))
         cases B
         all_goals go_wp2
         all_goals go_roundw
         all_goals (first
          | exact⟨k+1,by omega,by go_num,by rw [hstep.out,← Bool.and_assoc,HBB.out,vX.out]; rfl,hba.out,hBa.out⟩
          | (simp [intOf]; omega))
     · have Cq:=hid (fun (b:Bool) (h:decide (tries=0)=b)=>GL (j:=⟨name,prio,need,tries,tag⟩) (decide_eq_false htag) h d1 d2)
       have e1:=oX htag
       have e1':=oY htag
       by_cases htr:tries=0
       · have e2:(tries == 0)=true:=beq_iff_eq.2 htr
         have vX:=hid (Cq.out true (decide_eq_true htr))
         subst htr
         clear Cq
         cases B
         all_goals go_wp2
         all_goals go_roundw
         all_goals (first
          | exact⟨k+1,by omega,by go_num,by rw [hstep.out,← Bool.and_assoc,HBB.out,vX.out]; rfl,hba.out,hBa.out⟩
          | (simp [intOf]; omega))
       · have e2:(tries == 0)=false:=beq_eq_false_iff_ne.2 htr
         have vX:=hid (Cq.out false (decide_eq_false htr))
         cases B
         all_goals go_wp2
         all_goals go_roundw
         all_goals (first
          | exact⟨k+1,by omega,by go_num,by rw [hstep.out,← Bool.and_assoc,HBB.out,vX.out]; rfl,hba.out,hBa.out⟩
          | (simp [intOf]; omega))
   · have htk:jobs.take k=jobs:=List.take_of_length_le (by omega)
     obtain⟨b1,hb1⟩:∃ b1,(b0 && jobs.all (okJ v))=b1:=⟨_,rfl⟩
     have HB1:=hid hb1
     have y2:wr.cell? ⟨w.heap.size,2,none⟩=some (.slice an nn cn):=HB.out.cell 2
     simp only [htk,hb1]
     clear hb1 htk hb hB
     go_wp2
     clear y2
     go_loopw [7,11,57] (fun f _ i wr=>LO ⟨rev,jobs,nodes,leases⟩ ⟨aj,nj,cj,an,nn,cn,al,nl,cl⟩ v b1 w nn f i wr) (fun _ _ i _=>nn - (intOf i).toNat)
     case atStart=>exact⟨0,Nat.zero_le _,rfl,by simp,Hb.out,HB.out⟩
     case round=>
      clear Hb HB
      obtain⟨q,hq,rfl,rfl,hb,hB⟩:=hrel
      have Hb:=hid hb
      have HB:=hid hB
      have hsz:=hb.size
      by_cases hltq:q<nn
      · obtain⟨y,hf⟩:∃ y,nodes[q]? = some y:=⟨_,List.getElem?_eq_getElem (by omega)⟩
        obtain⟨b,off,hao,hbB,hc⟩:=(HS.out.n.below hb).dB aJ hln hf
        have hstep:=hid (AR (p:=okN v) hf)
        simp only at hao
        subst hao
        obtain⟨name,room,zone⟩:=y
        obtain⟨c0,c1,c2⟩:=rc3 hc
        have hlb:b<wr.heap.size:=by omega
        have hba:=hid (Hb.out.alloc Hb.out.size (.cells #[.string name,.int .i64 room,.string zone] 34))
        have hBa:=hid (HB.out.alloc (.cells #[.string name,.int .i64 room,.string zone] 34))
        clear hc hf hb hB
        obtain⟨B,hBB⟩:∃ B,(b1 && (nodes.take q).all (okN v))=B:=⟨_,rfl⟩
        have HBB:=hid hBB
        simp only [hBB]
        clear hBB
        by_cases htag:zone.size=0
        · have vX:=hid (GM (n:=⟨name,room,zone⟩) (decide_eq_true htag) d1)
          obtain rfl:=qM htag
          cases B
          all_goals go_wp2
          all_goals go_roundw
          all_goals (first
           | exact⟨q+1,by omega,by go_num,by rw [hstep.out,← Bool.and_assoc,HBB.out,vX.out]; rfl,hba.out,hBa.out⟩
           | (simp [intOf]; omega))
        · have vX:=hid (GM (n:=⟨name,room,zone⟩) (decide_eq_false htag) d1)
          have e1:=oX htag
          have e1':=oY htag
          cases B
          all_goals go_wp2
          all_goals go_roundw
          all_goals (first
           | exact⟨q+1,by omega,by go_num,by rw [hstep.out,← Bool.and_assoc,HBB.out,vX.out]; rfl,hba.out,hBa.out⟩
           | (simp [intOf]; omega))
      · have htk:nodes.take q=nodes:=List.take_of_length_le (by omega)
        have hend:=hid (LP.out (b1 && nodes.all (okN v)) wr (by rw [HFE.out,HB1.out]) Hb.out)
        simp only [htk]
        clear htk hb hB
        go_wp2
        go_ret2
        exact hend.out)
end Go.Proofs.YtbllgmociapjeaaGreatDoor
