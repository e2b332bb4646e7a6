/- Of the proof of a statement: At, StTop, PlSrv, PlDiff, PlFrame, FrmEnc, PlEncS. -/
import Derived.Deep.QuietTactic
import Derived.BigQuiet
import Derived.Lib.ValidLaws
import Derived.Lib.QuietBelow
import Derived.Deep.RegionHeld3
import Derived.Test.YtoeejfhdjmkpcaaGreatDoorTHas
import Derived.Test.YtoeejfhdjmkpcaaGreatDoorTStChk
import Derived.Test.YtoeejfhdjmkpcaaGreatDoorTWPut
set_option linter.unusedVariables false
set_option linter.unusedSimpArgs false
set_option maxRecDepth 100000
set_option maxHeartbeats 8000000
/- The walks of JobAt and NodeAt. -/
namespace Go.Proofs.YtoeejfhdjmkpcaaGreatDoor
open Go.Lib (hid)
open Go.RowKit
section
variable {α:Type} {p:α→Bool} {l:List α} {k:Nat} {x:α}
theorem CL (h:l[k]? = some x):l.take (k+1)=l.take k ++ [x]:=by
 obtain⟨hlt,rfl⟩:=List.getElem?_eq_some_iff.1 h
 exact (List.take_append_getElem hlt).symm
theorem ug (h0:(l.take k).find? p=none) (h:l[k]? = some x) (hp:p x=true):l.find? p=some x:=by
 have e:l=l.take k ++ x :: l.drop (k+1):=by rw [← drop_cons h,List.take_append_drop]
 rw [e,List.find?_append,h0,List.find?_cons,hp]; rfl
theorem q8 (h0:(l.take k).find? p=none) (h:l[k]? = some x) (hp:p x=false):(l.take (k+1)).find? p=none:=by
 rw [CL h,List.find?_append,h0,List.find?_cons,hp]; rfl
theorem uh (h0:(l.take k).find? p=none) (h:l.length≤k):l.find? p=none:=by rwa [List.take_of_length_le h] at h0
end
theorem p9 (s:ByteArray):(s.toList == s.toList)=true:=beq_iff_eq.2 rfl
theorem qc {s t:ByteArray} (h:s≠t):(s.toList == t.toList)=false:=by
 rw [beq_eq_false_iff_ne,ByteArray.toList_eq,ByteArray.toList_eq]
 exact fun e=>h (ByteArray.ext (Array.toList_inj.1 e))
theorem pW (a b:ByteArray):(a.toList == b.toList)=decide (a=b):=by
 by_cases h:a=b
 · subst h; rw [p9,decide_eq_true rfl]
 · rw [qc h,decide_eq_false h]
end Go.Proofs.YtoeejfhdjmkpcaaGreatDoor
/- The walks of state.Check and of the law's bad state. -/
namespace Go.Proofs.YtoeejfhdjmkpcaaGreatDoor
open Go.Lib (hid)
open Go.RowKit
theorem l9 (st:ah) (x:StA) (w:World) (hS:StAt w w.heap.size st x) (hT:Tabs w) :
 Calls Tryz.prog 37 #[.agg (stC st x)] w fun e w'=>e = .returned (.int .i64 (aG st))∧Below w.heap.size w w':=by
 have hb1:Below w.heap.size w (w.alloc (.cells (stC st x) 26)):=(Below.refl _ _).alloc (Nat.le_refl _) _
 have hC:=hid (CM st x _ ((hS.below hb1).more hb1.size) (hT.below hb1))
 have Hb1:=hid hb1
 clear hb1 hS hT
 obtain⟨E,hE⟩:∃ E,aG st=E:=⟨_,rfl⟩
 rw [hE]
 have HE:=hid hE
 clear hE
 obtain⟨rev,jobs,nodes,leases⟩:=st
 obtain⟨aj,nj,cj,an,nn,cn,al,nl,cl⟩:=x
 simp only [stC] at *
 go_enter Tryz.func37,Tryz.ntmps37
 go_wp2_with fail
 refine Calls.mono hC.out ?_
 rintro e w1 ⟨hb,hcase⟩
 have Hb:=hid (Hb1.out.trans (hb.mono Hb1.out.size))
 clear hb hC
 rw [HE.out] at hcase
 clear HE
 rcases hcase with ⟨hE,rfl⟩ | ⟨rfl,T,b1,b2,b3,n1,n2,n3,g3,rfl,-,-⟩
 · go_wp2
   refine bodyPost_ret (v:=.int .i64 E) (by simp [results,Tryz.results37,go_sem]) rfl ⟨rfl,Hb.out⟩
 · go_wp2
   refine bodyPost_ret (v:=.int .i64 0) (by simp [results,Tryz.results37,go_sem]) rfl ⟨rfl,Hb.out⟩
end Go.Proofs.YtoeejfhdjmkpcaaGreatDoor
/- What a server answers: plain. -/
namespace Go.Proofs.YtoeejfhdjmkpcaaGreatDoor
open Go.Lib (hid)
open Go.Op (bytesLess)
section
variable {α:Type} {E:α→Int} {key:α→ByteArray}
theorem wu:∀ (p:Option ByteArray) (l:List α),(∀ x ∈ l,E x=0∧before p (key x)=true)→bE key l→dI E key p l=0
 | _,[],_,_=>rfl
 | p,x :: l,h,hs=>by
  obtain⟨h1,h2⟩:=List.pairwise_cons.1 hs
  have h0:=h x List.mem_cons_self
  unfold dI
  rw [if_pos h0.1,if_pos h0.2]
  exact wu (some (key x)) l (fun y hy=>⟨(h y (List.mem_cons_of_mem _ hy)).1,h1 y hy⟩) h2
theorem zC {l:List α}:cE E key l=0↔(∀ x ∈ l,E x=0)∧bE key l:=
 ⟨fun h=>⟨fun x hx=>iO h hx,cF h⟩,fun h=>wu none l (fun x hx=>⟨h.1 x hx,rfl⟩) h.2⟩
theorem uE {E':α→Int} {l l':List α} (h:cE E key l=0) (hs:l'.Sublist l) (he:∀ x ∈ l',E x=0→E' x=0):cE E' key l'=0:=by
 obtain⟨h1,h2⟩:=zC.1 h
 exact zC.2 ⟨fun x hx=>he x hx (h1 x (hs.subset hx)),List.Pairwise.sublist hs h2⟩
end
theorem bO {st:ah}:aG st=0↔ranged st.rev 0 1099511627776=true∧dW st=true∧cE fF aD.name st.jobs=0∧cE eP aA.name st.nodes=0∧cE (gC st) ak.job st.leases=0∧lI st=true:=by
 unfold aG
 constructor
 · intro h
   split at h
   · omega
   split at h
   · omega
   split at h
   · omega
   split at h
   · omega
   split at h
   · omega
   split at h
   · rename_i h1 h2 h3 h4 h5 h6
     exact⟨by simpa using h1,by simpa using h2,Decidable.not_not.1 h3,Decidable.not_not.1 h4,Decidable.not_not.1 h5,h6⟩
   · omega
 · rintro⟨h1,h2,h3,h4,h5,h6⟩
   rw [if_neg (by rw [h1]; decide),if_neg (by rw [h2]; decide),if_neg (by rw [h3]; decide),if_neg (by rw [h4]; decide),if_neg (by rw [h5]; decide),if_pos h6]
theorem rF {st st':ah} (hn:qy st) (s:ByteArray):∀ {l' l:List ak},l'.Sublist l→(∀ x ∈ l',fU st' x s=fU st x s)→fO st' s l'≤fO st s l
 | _,_,.slnil,_=>Int.le_refl _
 | _,_,.cons a h,he=>by
  have ih:=rF hn s h he
  have:=(qz hn a s).1
  show _≤fU st a s+fO st s _
  omega
 | _,_,.cons_cons a h,he=>by
  have ih:=rF hn s h (fun x hx=>he x (List.mem_cons_of_mem _ hx))
  have:=he a List.mem_cons_self
  show fU st' a s+fO st' s _≤fU st a s+fO st s _
  omega
theorem uF {st st':ah} (h:st'.jobs=st.jobs) (s:ByteArray):∀ l:List ak,fO st' s l=fO st s l
 | []=>rfl
 | a :: l=>by
  show fU st' a s+fO st' s l=fU st a s+fO st s l
  rw [uF h s l]
  unfold fU
  rw [h]
theorem oq {st st':ah} (h:aG st=0) (hr:st'.rev=st.rev) (hj:st'.jobs.Sublist st.jobs) (hn:st'.nodes.Sublist st.nodes) (hl:st'.leases.Sublist st.leases)
 (ho:∀ l ∈ st'.leases,cP st'.jobs l.job=cP st.jobs l.job∧cL st'.nodes l.node=cL st.nodes l.node):aG st'=0:=by
 obtain⟨h1,h2,h3,h4,h5,h6⟩:=bO.1 h
 refine bO.2 ⟨by rw [hr]; exact h1,?_,uE h3 hj (fun _ _ h=>h),uE h4 hn (fun _ _ h=>h),uE h5 hl (fun l hm he=>?_),?_⟩
 · unfold dW at h2 ⊢
   simp only [Bool.and_eq_true,decide_eq_true_eq] at h2 ⊢
   have e1:=hj.length_le
   have e2:=hn.length_le
   have e3:=hl.length_le
   omega
 · unfold gC at he ⊢
   rw [(ho l hm).1,(ho l hm).2]
   exact he
 · unfold lI at h6 ⊢
   rw [List.all_eq_true] at h6 ⊢
   intro n hm
   have h7:=h6 n (hn.subset hm)
   simp only [decide_eq_true_eq] at h7 ⊢
   refine Int.le_trans ?_ h7
   unfold qm
   refine rF (zB h3) n.name hl fun x hx=>?_
   unfold fU
   rw [(ho x hx).1]
theorem nL {α:Type} (key:α→ByteArray) (s q:ByteArray) (h:s≠q):∀ l:List α,(l.filter fun a=>!decide (key a=q)).find? (fun a=>decide (key a=s))=l.find? fun a=>decide (key a=s)
 | []=>rfl
 | a :: l=>by
  have ih:=nL key s q h l
  by_cases e:key a=q
  · have e2:¬ key a=s:=fun e2=>h (e2.symm.trans e)
    rw [List.filter_cons,List.find?_cons,decide_eq_true e,decide_eq_false e2]
    simpa using ih
  · rw [List.filter_cons,decide_eq_false e]
    simp only [Bool.not_false,if_true]
    rw [List.find?_cons,List.find?_cons,ih]
theorem AZ {st:ah} (h:aG st=0) (s:ByteArray):aG (oS st s)=0:=by
 refine oq h rfl List.filter_sublist (List.Sublist.refl _) List.filter_sublist fun l hl=>⟨?_,rfl⟩
 have:=(List.mem_filter.1 hl).2
 exact nL aD.name l.job s (by simpa using this) _
theorem A0 {st:ah} (h:aG st=0) (s:ByteArray):aG (oT st s)=0:=by
 refine oq h rfl (List.Sublist.refl _) List.filter_sublist List.filter_sublist fun l hl=>⟨rfl,?_⟩
 have:=(List.mem_filter.1 hl).2
 exact nL aA.name l.node s (by simpa using this) _
theorem A3 {st:ah} (h:aG st=0) (s:ByteArray):aG (mW st s)=0:=
 oq h rfl (List.Sublist.refl _) (List.Sublist.refl _) List.filter_sublist fun _ _=>⟨rfl,rfl⟩
theorem A4 {st:ah} (h:aG st=0) (t:Int):aG (qR st t)=0:=
 oq h rfl (List.Sublist.refl _) (List.Sublist.refl _) List.filter_sublist fun _ _=>⟨rfl,rfl⟩
def nextR (st:ah) (now:Int) (q:aH):Int × ah × Int:=
 if q.kind=1 then (aG (iR st q.job),iR st q.job,now)
 else if q.kind=2 then (aG (je st q.node),je st q.node,now)
 else if q.kind=3 then (if (cP st.jobs q.name).isSome=true then (aG (oS st q.name),oS st q.name,now) else (6,st,now))
 else if q.kind=4 then (if (cL st.nodes q.name).isSome=true then (aG (oT st q.name),oT st q.name,now) else (6,st,now))
 else if q.kind=5 then (match cP st.jobs q.lease.job with
  | none=>(6,st,now)
  | some j=>if (cL st.nodes q.lease.node).isSome=false then (6,st,now)
   else if (cU st.leases q.lease.job).isSome=true then (7,st,now)
   else if q.lease.till≤now then (1,st,now)
   else if 100<j.tries+1 then (2,st,now)
   else (aG (jv st j q.lease),jv st j q.lease,now))
 else if q.kind=6 then (if (cU st.leases q.name).isSome=true then (aG (mW st q.name),mW st q.name,now) else (6,st,now))
 else if q.kind=7 then (if 1099511627776<now+q.n then (1,st,now+q.n) else (aG (qR st (now+q.n)),qR st (now+q.n),now+q.n))
 else (aG st,st,now)
theorem nM {st:ah} (h:aG st=0):∀ j ∈ st.jobs,0≤j.tries∧j.tries≤100:=fun _ hj=>(iJ (iO (bO.1 h).2.2.1 hj)).2.2.2.2
theorem Gx {st:ah} (h:aG st=0) (now:Int) (q:aH):(nextR st now q).1=(doR st now q).1∧((doR st now q).1=0→nextR st now q=doR st now q):=by
 unfold nextR doR
 split
 · exact⟨rfl,fun _=>rfl⟩
 split
 · exact⟨rfl,fun _=>rfl⟩
 split
 · split
   · rw [AZ h]; exact⟨rfl,fun _=>rfl⟩
   · exact⟨rfl,fun h=>by cases h⟩
 split
 · split
   · rw [A0 h]; exact⟨rfl,fun _=>rfl⟩
   · exact⟨rfl,fun h=>by cases h⟩
 split
 · unfold fR
   cases hj:cP st.jobs q.lease.job with
   | none=>exact⟨rfl,fun _=>rfl⟩
   | some j=>
    dsimp only
    split
    · exact⟨rfl,fun _=>rfl⟩
    split
    · exact⟨rfl,fun _=>rfl⟩
    split
    · exact⟨rfl,fun _=>rfl⟩
    have ht:=nM h j (List.mem_of_find?_eq_some hj)
    by_cases h5:j.tries=100
    · rw [if_pos (by omega),if_pos h5]; exact⟨rfl,fun _=>rfl⟩
    · rw [if_neg (by omega),if_neg h5]; exact⟨rfl,fun _=>rfl⟩
 split
 · split
   · rw [A3 h]; exact⟨rfl,fun _=>rfl⟩
   · exact⟨rfl,fun h=>by cases h⟩
 split
 · by_cases h7:1099511627776<now+q.n
   · rw [if_pos h7,if_pos (by omega)]; exact⟨rfl,fun h=>by cases h⟩
   · rw [if_neg h7,if_neg (by omega),A4 h]; exact⟨rfl,fun _=>rfl⟩
 · rw [h]; exact⟨rfl,fun _=>rfl⟩
def kI (st:ah):ah:=⟨st.rev+1,st.jobs,st.nodes,st.leases⟩
def gN (a b:ah):Prop:=a.jobs=b.jobs∧a.nodes=b.nodes∧a.leases=b.leases
noncomputable def dA (st:ah) (now:Int) (q:aH):Int × ah × Int:=if bK q=0 then doR st now q else (bK q,st,now)
structure oC where
 e:Int
 ch:Bool
 st:ah
 now:Int
open Classical in
noncomputable def cW (st:ah) (now:Int) (R:Int × ah × Int):oC:=
 if R.1=0 then (if gN st R.2.1 then ⟨0,false,st,R.2.2⟩
  else if 1099511627776<st.rev+1 then ⟨2,false,st,now⟩ else ⟨0,true,kI R.2.1,R.2.2⟩)
 else ⟨R.1,false,st,now⟩
theorem sO (st:ah) (now:Int) (q:aH):(doR st now q).2.1.rev=st.rev:=by
 unfold doR fR
 repeat' split
 all_goals rfl
theorem ou {st:ah} (h:aG st=0) {now:Int} {q:aH} (h0:(doR st now q).1=0):aG (doR st now q).2.1=0:=by
 have hn:=Gx h now q
 rw [h0] at hn
 rw [← hn.2 rfl]
 have h1:=hn.1
 clear h0 hn
 unfold nextR at h1 ⊢
 split at h1
 · rename_i hk; rw [if_pos hk]; exact h1
 rename_i hk; rw [if_neg hk]
 split at h1
 · rename_i hk; rw [if_pos hk]; exact h1
 rename_i hk; rw [if_neg hk]
 split at h1
 · rename_i hk; rw [if_pos hk]
   split at h1
   · rename_i hi; rw [if_pos hi]; exact h1
   · cases h1
 rename_i hk; rw [if_neg hk]
 split at h1
 · rename_i hk; rw [if_pos hk]
   split at h1
   · rename_i hi; rw [if_pos hi]; exact h1
   · cases h1
 rename_i hk; rw [if_neg hk]
 split at h1
 · rename_i hk; rw [if_pos hk]
   cases hj:cP st.jobs q.lease.job with
   | none=>rw [hj] at h1; cases h1
   | some j=>
    rw [hj] at h1
    dsimp only at h1 ⊢
    split at h1
    · cases h1
    rename_i h1'; rw [if_neg h1']
    split at h1
    · cases h1
    rename_i h1'; rw [if_neg h1']
    split at h1
    · cases h1
    rename_i h1'; rw [if_neg h1']
    split at h1
    · cases h1
    rename_i h1'; rw [if_neg h1']
    exact h1
 rename_i hk; rw [if_neg hk]
 split at h1
 · rename_i hk; rw [if_pos hk]
   split at h1
   · rename_i hi; rw [if_pos hi]; exact h1
   · cases h1
 rename_i hk; rw [if_neg hk]
 split at h1
 · rename_i hk; rw [if_pos hk]
   split at h1
   · cases h1
   · rename_i hi; rw [if_neg hi]; exact h1
 rename_i hk; rw [if_neg hk]
 exact h1
theorem uG {st:ah} (h:aG st=0) (hr:¬ 1099511627776<st.rev+1):aG (kI st)=0:=by
 obtain⟨h1,h2,h3,h4,h5,h6⟩:=bO.1 h
 have h7:=bB.1 h1
 refine bO.2 ⟨bB.2 ⟨by show 0≤st.rev+1; omega,by show st.rev+1≤1099511627776; omega⟩,h2,h3,h4,h5,?_⟩
 unfold lI qm at h6 ⊢
 simp only [uF (show (kI st).jobs=st.jobs from rfl)]
 exact h6
theorem xq {st:ah} {now:Int} {q:aH} (h:aG st=0) (hn:0≤now∧now≤1099511627776):aG (cW st now (dA st now q)).st=0∧0≤(cW st now (dA st now q)).now∧(cW st now (dA st now q)).now≤1099511627776:=by
 unfold cW
 split
 · rename_i h0
   have hq:bK q=0:=by
    unfold dA at h0
    split at h0
    · assumption
    · exact h0
   have ha:dA st now q=doR st now q:=by unfold dA; rw [if_pos hq]
   rw [ha] at h0 ⊢
   have hc:=ou h h0
   have hv:=sO st now q
   have ht:0≤(doR st now q).2.2∧(doR st now q).2.2≤1099511627776:=by
    by_cases hk:q.kind=7
    · have hp:cN q=0:=by
       unfold bK at hq
       split at hq
       · cases hq
       split at hq
       · cases hq
       exact hq
      have hr:ranged q.n 0 1099511627776=true:=by
       unfold cN at hp
       rw [hk] at hp
       simp only [show ¬ (7:Int)=1 from by decide,show ¬ (7:Int)=2 from by decide,show ¬ (7:Int)=3 from by decide,show ¬ (7:Int)=4 from by decide,show ¬ (7:Int)=5 from by decide,show ¬ (7:Int)=6 from by decide,or_false,if_false,if_true] at hp
       by_cases hr:ranged q.n 0 1099511627776=true
       · exact hr
       · rw [if_neg hr] at hp; cases hp
      have hr:=bB.1 hr
      unfold doR at h0 ⊢
      simp only [hk,show ¬ (7:Int)=1 from by decide,show ¬ (7:Int)=2 from by decide,show ¬ (7:Int)=3 from by decide,show ¬ (7:Int)=4 from by decide,show ¬ (7:Int)=5 from by decide,show ¬ (7:Int)=6 from by decide,if_false,if_true] at h0 ⊢
      split at h0
      · cases h0
      · rename_i hlt
        rw [if_neg hlt]
        dsimp only
        omega
    · have:(doR st now q).2.2=now:=by
       unfold doR fR
       repeat' split
       all_goals first | rfl | (exfalso; exact hk ‹_›)
      rw [this]; exact hn
   split
   · exact⟨h,ht⟩
   split
   · exact⟨h,hn⟩
   · rename_i hs hr
     exact⟨uG hc (by rw [hv]; exact hr),ht⟩
 · exact⟨h,hn⟩
end Go.Proofs.YtoeejfhdjmkpcaaGreatDoor
/- What Diff of two states says: plain. -/
namespace Go.Proofs.YtoeejfhdjmkpcaaGreatDoor
open Go.Lib (hid)
noncomputable def newL {α:Type} (a b:List α):List α:=b.filter fun x=>!a.any (eqB x)
def bU {α:Type} (key:α→ByteArray) (a b:List α):List ByteArray:=(a.filter fun x=>!b.any fun y=>decide (key y=key x)).map key
noncomputable def eQ (a b:ah):aX:=⟨a.rev,b.rev,newL a.jobs b.jobs,newL a.nodes b.nodes,newL a.leases b.leases,bU aD.name a.jobs b.jobs,bU aA.name a.nodes b.nodes,bU ak.job a.leases b.leases⟩
section
variable {α:Type} {p:α→Bool} {l:List α} {k:Nat} {x:α}
theorem mo (h:l[k]? = some x) (hp:p x=true):(l.take (k+1)).filter p=(l.take k).filter p ++ [x]:=by
 rw [List.take_add_one,h,List.filter_append]; simp [hp]
theorem nX (h:l[k]? = some x) (hp:p x=false):(l.take (k+1)).filter p=(l.take k).filter p:=by
 rw [List.take_add_one,h,List.filter_append]; simp [hp]
theorem jh (p:α→Bool) (l:List α) (k:Nat):((l.take k).filter p).length≤k:=Nat.le_trans (List.length_filter_le _ _) (by rw [List.length_take]; omega)
theorem filter_all (p:α→Bool) {l:List α} {k:Nat} (h:l.length≤k):(l.take k).filter p=l.filter p:=by rw [List.take_of_length_le h]
end
theorem sX {α:Type} (a b:List α):(newL a b).length≤b.length:=List.length_filter_le _ _
theorem qP {α:Type} (key:α→ByteArray) (a b:List α):(bU key a b).length≤a.length:=by unfold bU; rw [List.length_map]; exact List.length_filter_le _ _
end Go.Proofs.YtoeejfhdjmkpcaaGreatDoor
/- Frames: plain. -/
namespace Go.Proofs.YtoeejfhdjmkpcaaGreatDoor
open Go.Lib (hid)
def lL (l:List UInt8):List UInt8:=[UInt8.ofNat (iW l / 16777216),UInt8.ofNat (iW l / 65536),UInt8.ofNat (iW l / 256),UInt8.ofNat (iW l)]
theorem CN (l:List UInt8):iW l<4294967296:=by unfold iW; omega
def lM (v k:Nat) (p:List UInt8):List UInt8:=[66,75,UInt8.ofNat v,UInt8.ofNat k] ++ bI p.length ++ p
def gu (v k:Nat) (p:List UInt8):List UInt8:=lM v k p ++ lL (lM v k p)
theorem D0 (v k:Nat) (p:List UInt8):(lM v k p).length≤p.length+15:=by
 have:=dB p.length
 simp [lM]; omega
end Go.Proofs.YtoeejfhdjmkpcaaGreatDoor
/- The walks of frame.Encode and FrameEncode. -/
namespace Go.Proofs.YtoeejfhdjmkpcaaGreatDoor
open Go.Lib (hid)
open Go.RowKit
theorem uH (n lo hi:Int) (h1:lo≤n) (h2:n≤hi) (w:World):Calls Tryz.prog 151 #[.int .i64 n,.int .i64 lo,.int .i64 hi] w fun e w'=>e = .returned (.bool true)∧w=w':=by
 have e2:decide (n≤hi)=true:=decide_eq_true h2
 go_enter Tryz.func151,Tryz.ntmps151
 go_wp2
 go_ret
 exact⟨rfl,rfl⟩
theorem wA (n lo hi:Int) (h:n<lo∨hi<n) (w:World):Calls Tryz.prog 151 #[.int .i64 n,.int .i64 lo,.int .i64 hi] w fun e w'=>e = .returned (.bool false)∧w=w':=by
 by_cases h1:lo≤n
 · have h2:hi<n:=by omega
   have e2:decide (n≤hi)=false:=decide_eq_false (by omega)
   clear h
   go_enter Tryz.func151,Tryz.ntmps151
   go_wp2
   go_ret
   exact⟨rfl,rfl⟩
 · have e1:decide (lo≤n)=false:=decide_eq_false h1
   clear h
   go_enter Tryz.func151,Tryz.ntmps151
   go_wp2
   go_ret
   exact⟨rfl,rfl⟩
theorem jw (n:Int) (h1:1≤n) (h2:n≤3) (w:World):Calls Tryz.prog 52 #[.int .i64 n] w fun e w'=>e = .returned (.bool true)∧w=w':=by
 go_enter Tryz.func52,Tryz.ntmps52
 go_wp2_with (go_at_call 151; refine (uH _ _ _ h1 h2 _).mono ?_; rintro e w' ⟨rfl,rfl⟩)
 go_ret
 exact⟨rfl,rfl⟩
theorem pZ (n:Int) (h:n<1∨3<n) (w:World):Calls Tryz.prog 52 #[.int .i64 n] w fun e w'=>e = .returned (.bool false)∧w=w':=by
 have H:=hid h
 clear h
 go_enter Tryz.func52,Tryz.ntmps52
 go_wp2_with (go_at_call 151; refine (wA _ _ _ H.out _).mono ?_; rintro e w' ⟨rfl,rfl⟩)
 go_ret
 exact⟨rfl,rfl⟩
theorem o7 (n:Int) (h1:1≤n) (h2:n≤4) (w:World):Calls Tryz.prog 53 #[.int .i64 n] w fun e w'=>e = .returned (.bool true)∧w=w':=by
 go_enter Tryz.func53,Tryz.ntmps53
 go_wp2_with (go_at_call 151; refine (uH _ _ _ h1 h2 _).mono ?_; rintro e w' ⟨rfl,rfl⟩)
 go_ret
 exact⟨rfl,rfl⟩
theorem vR (n:Int) (h:n<1∨4<n) (w:World):Calls Tryz.prog 53 #[.int .i64 n] w fun e w'=>e = .returned (.bool false)∧w=w':=by
 have H:=hid h
 clear h
 go_enter Tryz.func53,Tryz.ntmps53
 go_wp2_with (go_at_call 151; refine (wA _ _ _ H.out _).mono ?_; rintro e w' ⟨rfl,rfl⟩)
 go_ret
 exact⟨rfl,rfl⟩
theorem yP (s:ByteArray) (w:World) (hs:s.size≤9223372036854775807):Calls Tryz.prog 55 #[.string s] w fun e w'=>e = .returned (.string ⟨(lL s.data.toList).toArray⟩)∧Below w.heap.size w w':=by
 have hlt:=CN s.data.toList
 go_enter Tryz.func55,Tryz.ntmps55
 go_wp2_with fail
 refine Calls.mono (F5 s w hs) ?_
 rintro e w1 ⟨rfl,hb⟩
 have Hn:=hid (show lL s.data.toList=[UInt8.ofNat (iW s.data.toList / 16777216),UInt8.ofNat (iW s.data.toList / 65536),UInt8.ofNat (iW s.data.toList / 256),UInt8.ofNat (iW s.data.toList)] from rfl)
 generalize iW s.data.toList=n at hlt Hn
 have b:=fun (m:Nat)=>show (m:Int) % 256=(((UInt8.ofNat m).toNat:Nat):Int) from by rw [UInt8.toNat_ofNat']; omega
 have hrun:=uI (P:=Tryz.prog) (w:=w1) (n:=4) (c:=4) (cs:=#[.int .u8 ((n:Int) / 16777216),.int .u8 ((n:Int) / 65536 % 256),.int .u8 ((n:Int) / 256 % 256),.int .u8 ((n:Int) % 256)]) (l:=[UInt8.ofNat (n / 16777216),UInt8.ofNat (n / 65536),UInt8.ofNat (n / 256),UInt8.ofNat n]) Tryz.underlying129 Tryz.underlying5 Tryz.underlying9 (by
  simp only [bf,List.map_cons,List.map_nil]
  rw [← b,← b,← b,← b]
  have e1:(((n / 16777216:Nat):Int)) % 256=(n:Int) / 16777216:=by omega
  have e2:(((n / 65536:Nat):Int)) % 256=(n:Int) / 65536 % 256:=by omega
  have e3:(((n / 256:Nat):Int)) % 256=(n:Int) / 256 % 256:=by omega
  rw [e1,e2,e3]) rfl
 have HR:=hid hrun
 clear b hrun
 go_wp2_with fail
 rw [HR.out]
 go_wp2
 go_ret
 exact⟨Gy (by rw [Hn.out]),hb.alloc hb.size _⟩
def wL (v k:Int) (p:ByteArray):ByteArray × Int:=
 if v<1∨3<v∨k<1∨4<k then (⟨#[]⟩,1) else if 6000<p.size then (⟨#[]⟩,2) else (⟨(gu v.toNat k.toNat p.data.toList).toArray⟩,0)
def iV (v k:Int) (p:ByteArray) (w:World) (e:Ending) (w':World):Prop:=e = .returned (.tuple #[.string (wL v k p).1,.int .i64 (wL v k p).2])∧Below w.heap.size w w'
theorem iV.arg {v k:Int} {p:ByteArray} {w w':World} (h:v<1∨3<v∨k<1∨4<k) (hb:Below w.heap.size w w'):iV v k p w (.returned (.tuple #[.string ⟨#[]⟩,.int .i64 1])) w':=⟨by unfold wL; rw [if_pos h],hb⟩
theorem iV.large {v k:Int} {p:ByteArray} {w w':World} (h:¬ (v<1∨3<v∨k<1∨4<k)) (h2:6000<p.size) (hb:Below w.heap.size w w'):iV v k p w (.returned (.tuple #[.string ⟨#[]⟩,.int .i64 2])) w':=⟨by unfold wL; rw [if_neg h,if_pos h2],hb⟩
theorem iV.ok {v k:Int} {p:ByteArray} {w w':World} {s:ByteArray} (h:¬ (v<1∨3<v∨k<1∨4<k)) (h2:¬ 6000<p.size) (hs:s.data.toList=gu v.toNat k.toNat p.data.toList) (hb:Below w.heap.size w w'):iV v k p w (.returned (.tuple #[.string s,.int .i64 0])) w':=
 ⟨by unfold wL; rw [if_neg h,if_neg h2,← hs],hb⟩
end Go.Proofs.YtoeejfhdjmkpcaaGreatDoor
/- What may be written: plain. -/
namespace Go.Proofs.YtoeejfhdjmkpcaaGreatDoor
open Go.Lib (hid)
open Go.RowKit
theorem FV {j:aD} (h:fF j=0):u7 j:=by
 obtain⟨h1,h2,h3,h4,h5⟩:=iJ h
 have:=eB h1
 have:=jc h2
 exact⟨by omega,by omega,by omega,by omega,by omega⟩
theorem D3 {n:aA} (h:eP n=0):tZ n:=by
 obtain⟨h1,h2,h3⟩:=pB h
 have:=eB h1
 have:=jc h2
 exact⟨by omega,by omega,by omega⟩
theorem Ce {l:ak} (h:lsE l=0):wY l:=by
 obtain⟨h1,h2,h3⟩:=Ev h
 have:=eB h1
 have:=eB h2
 exact⟨by omega,by omega,by omega⟩
end Go.Proofs.YtoeejfhdjmkpcaaGreatDoor
