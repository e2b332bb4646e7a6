/- Of the proof of a statement: PlSrv, PlDiff, WDec, ZeroDe, Rq, PlEncS. -/
import Derived.Shelf.Abstract
import Derived.Lib.QuietBelow
import Derived.Test.YtoeejfhdjmkpcaaGreatDoorUDChk
import Derived.Test.YtoeejfhdjmkpcaaGreatDoorUHasFL
import Derived.Test.YtoeejfhdjmkpcaaGreatDoorUSlEq
set_option linter.unusedVariables false
set_option linter.unusedSimpArgs false
set_option maxRecDepth 100000
set_option maxHeartbeats 8000000
/- What a server answers: plain. -/
namespace Go.Proofs.YtoeejfhdjmkpcaaGreatDoor
open Go.Lib (hid)
open Go.Op (bytesLess)
section
variable {α:Type} {E:α→Int} {key:α→ByteArray}
theorem zP:∀ (p:Option ByteArray) (l:List α),(∀ x ∈ l,E x=0∧before p (key x)=true)→aK key l→dS E key p l=0
 | _,[],_,_=>rfl
 | p,x :: l,h,hs=>by
  obtain⟨h1,h2⟩:=List.pairwise_cons.1 hs
  have h0:=h x List.mem_cons_self
  unfold dS
  rw [if_pos h0.1,if_pos h0.2]
  exact zP (some (key x)) l (fun y hy=>⟨(h y (List.mem_cons_of_mem _ hy)).1,h1 y hy⟩) h2
theorem B5 {l:List α}:bZ E key l=0↔(∀ x ∈ l,E x=0)∧aK key l:=
 ⟨fun h=>⟨fun x hx=>eQ h hx,bI h⟩,fun h=>zP none l (fun x hx=>⟨h.1 x hx,rfl⟩) h.2⟩
theorem nO {E':α→Int} {l l':List α} (h:bZ E key l=0) (hs:l'.Sublist l) (he:∀ x ∈ l',E x=0→E' x=0):bZ E' key l'=0:=by
 obtain⟨h1,h2⟩:=B5.1 h
 exact B5.2 ⟨fun x hx=>he x hx (h1 x (hs.subset hx)),List.Pairwise.sublist hs h2⟩
end
theorem bC {st:ak}:aG st=0↔ranged st.rev 0 1099511627776=true∧dP st=true∧bZ fE aA.name st.jobs=0∧bZ eH av.name st.nodes=0∧bZ (fN st) ah.job st.leases=0∧ni st=true:=by
 unfold aG
 constructor
 · intro h
   split at h
   · omega
   split at h
   · omega
   split at h
   · omega
   split at h
   · omega
   split at h
   · omega
   split at h
   · rename_i h1 h2 h3 h4 h5 h6
     exact⟨by simpa using h1,by simpa using h2,Decidable.not_not.1 h3,Decidable.not_not.1 h4,Decidable.not_not.1 h5,h6⟩
   · omega
 · rintro⟨h1,h2,h3,h4,h5,h6⟩
   rw [if_neg (by rw [h1]; decide),if_neg (by rw [h2]; decide),if_neg (by rw [h3]; decide),if_neg (by rw [h4]; decide),if_neg (by rw [h5]; decide),if_pos h6]
theorem uY {st st':ak} (hn:tO st) (s:ByteArray):∀ {l' l:List ah},l'.Sublist l→(∀ x ∈ l',gH st' x s=gH st x s)→gu st' s l'≤gu st s l
 | _,_,.slnil,_=>Int.le_refl _
 | _,_,.cons a h,he=>by
  have ih:=uY hn s h he
  have:=(tP hn a s).1
  show _≤gH st a s+gu st s _
  omega
 | _,_,.cons_cons a h,he=>by
  have ih:=uY hn s h (fun x hx=>he x (List.mem_cons_of_mem _ hx))
  have:=he a List.mem_cons_self
  show gH st' a s+gu st' s _≤gH st a s+gu st s _
  omega
theorem yc {st st':ak} (h:st'.jobs=st.jobs) (s:ByteArray):∀ l:List ah,gu st' s l=gu st s l
 | []=>rfl
 | a :: l=>by
  show gH st' a s+gu st' s l=gH st a s+gu st s l
  rw [yc h s l]
  unfold gH
  rw [h]
theorem qF {st st':ak} (h:aG st=0) (hr:st'.rev=st.rev) (hj:st'.jobs.Sublist st.jobs) (hn:st'.nodes.Sublist st.nodes) (hl:st'.leases.Sublist st.leases)
 (ho:∀ l ∈ st'.leases,dA st'.jobs l.job=dA st.jobs l.job∧dh st'.nodes l.node=dh st.nodes l.node):aG st'=0:=by
 obtain⟨h1,h2,h3,h4,h5,h6⟩:=bC.1 h
 refine bC.2 ⟨by rw [hr]; exact h1,?_,nO h3 hj (fun _ _ h=>h),nO h4 hn (fun _ _ h=>h),nO h5 hl (fun l hm he=>?_),?_⟩
 · unfold dP at h2 ⊢
   simp only [Bool.and_eq_true,decide_eq_true_eq] at h2 ⊢
   have e1:=hj.length_le
   have e2:=hn.length_le
   have e3:=hl.length_le
   omega
 · unfold fN at he ⊢
   rw [(ho l hm).1,(ho l hm).2]
   exact he
 · unfold ni at h6 ⊢
   rw [List.all_eq_true] at h6 ⊢
   intro n hm
   have h7:=h6 n (hn.subset hm)
   simp only [decide_eq_true_eq] at h7 ⊢
   refine Int.le_trans ?_ h7
   unfold tQ
   refine uY (B6 h3) n.name hl fun x hx=>?_
   unfold gH
   rw [(ho x hx).1]
theorem pN {α:Type} (key:α→ByteArray) (s q:ByteArray) (h:s≠q):∀ l:List α,(l.filter fun a=>!decide (key a=q)).find? (fun a=>decide (key a=s))=l.find? fun a=>decide (key a=s)
 | []=>rfl
 | a :: l=>by
  have ih:=pN key s q h l
  by_cases e:key a=q
  · have e2:¬ key a=s:=fun e2=>h (e2.symm.trans e)
    rw [List.filter_cons,List.find?_cons,decide_eq_true e,decide_eq_false e2]
    simpa using ih
  · rw [List.filter_cons,decide_eq_false e]
    simp only [Bool.not_false,if_true]
    rw [List.find?_cons,List.find?_cons,ih]
theorem Dy {st:ak} (h:aG st=0) (s:ByteArray):aG (uL st s)=0:=by
 refine qF h rfl List.filter_sublist (List.Sublist.refl _) List.filter_sublist fun l hl=>⟨?_,rfl⟩
 have:=(List.mem_filter.1 hl).2
 exact pN aA.name l.job s (by simpa using this) _
theorem Dz {st:ak} (h:aG st=0) (s:ByteArray):aG (uM st s)=0:=by
 refine qF h rfl (List.Sublist.refl _) List.filter_sublist List.filter_sublist fun l hl=>⟨rfl,?_⟩
 have:=(List.mem_filter.1 hl).2
 exact pN av.name l.node s (by simpa using this) _
theorem DA {st:ak} (h:aG st=0) (s:ByteArray):aG (rJ st s)=0:=
 qF h rfl (List.Sublist.refl _) (List.Sublist.refl _) List.filter_sublist fun _ _=>⟨rfl,rfl⟩
theorem DC {st:ak} (h:aG st=0) (t:Int):aG (uQ st t)=0:=
 qF h rfl (List.Sublist.refl _) (List.Sublist.refl _) List.filter_sublist fun _ _=>⟨rfl,rfl⟩
def nextR (st:ak) (now:Int) (q:aU):Int × ak × Int:=
 if q.kind=1 then (aG (kS st q.job),kS st q.job,now)
 else if q.kind=2 then (aG (mh st q.node),mh st q.node,now)
 else if q.kind=3 then (if (dA st.jobs q.name).isSome=true then (aG (uL st q.name),uL st q.name,now) else (6,st,now))
 else if q.kind=4 then (if (dh st.nodes q.name).isSome=true then (aG (uM st q.name),uM st q.name,now) else (6,st,now))
 else if q.kind=5 then (match dA st.jobs q.lease.job with
  | none=>(6,st,now)
  | some j=>if (dh st.nodes q.lease.node).isSome=false then (6,st,now)
   else if (dQ st.leases q.lease.job).isSome=true then (7,st,now)
   else if q.lease.till≤now then (1,st,now)
   else if 100<j.tries+1 then (2,st,now)
   else (aG (oq st j q.lease),oq st j q.lease,now))
 else if q.kind=6 then (if (dQ st.leases q.name).isSome=true then (aG (rJ st q.name),rJ st q.name,now) else (6,st,now))
 else if q.kind=7 then (if 1099511627776<now+q.n then (1,st,now+q.n) else (aG (uQ st (now+q.n)),uQ st (now+q.n),now+q.n))
 else (aG st,st,now)
theorem pO {st:ak} (h:aG st=0):∀ j ∈ st.jobs,0≤j.tries∧j.tries≤100:=fun _ hj=>(gP (eQ (bC.1 h).2.2.1 hj)).2.2.2.2
theorem Ks {st:ak} (h:aG st=0) (now:Int) (q:aU):(nextR st now q).1=(doR st now q).1∧((doR st now q).1=0→nextR st now q=doR st now q):=by
 unfold nextR doR
 split
 · exact⟨rfl,fun _=>rfl⟩
 split
 · exact⟨rfl,fun _=>rfl⟩
 split
 · split
   · rw [Dy h]; exact⟨rfl,fun _=>rfl⟩
   · exact⟨rfl,fun h=>by cases h⟩
 split
 · split
   · rw [Dz h]; exact⟨rfl,fun _=>rfl⟩
   · exact⟨rfl,fun h=>by cases h⟩
 split
 · unfold kT
   cases hj:dA st.jobs q.lease.job with
   | none=>exact⟨rfl,fun _=>rfl⟩
   | some j=>
    dsimp only
    split
    · exact⟨rfl,fun _=>rfl⟩
    split
    · exact⟨rfl,fun _=>rfl⟩
    split
    · exact⟨rfl,fun _=>rfl⟩
    have ht:=pO h j (List.mem_of_find?_eq_some hj)
    by_cases h5:j.tries=100
    · rw [if_pos (by omega),if_pos h5]; exact⟨rfl,fun _=>rfl⟩
    · rw [if_neg (by omega),if_neg h5]; exact⟨rfl,fun _=>rfl⟩
 split
 · split
   · rw [DA h]; exact⟨rfl,fun _=>rfl⟩
   · exact⟨rfl,fun h=>by cases h⟩
 split
 · by_cases h7:1099511627776<now+q.n
   · rw [if_pos h7,if_pos (by omega)]; exact⟨rfl,fun h=>by cases h⟩
   · rw [if_neg h7,if_neg (by omega),DC h]; exact⟨rfl,fun _=>rfl⟩
 · rw [h]; exact⟨rfl,fun _=>rfl⟩
def vT (st:ak):ak:=⟨st.rev+1,st.jobs,st.nodes,st.leases⟩
def kM (a b:ak):Prop:=a.jobs=b.jobs∧a.nodes=b.nodes∧a.leases=b.leases
noncomputable def iR (st:ak) (now:Int) (q:aU):Int × ak × Int:=if eF q=0 then doR st now q else (eF q,st,now)
structure qI where
 e:Int
 ch:Bool
 st:ak
 now:Int
open Classical in
noncomputable def iI (st:ak) (now:Int) (R:Int × ak × Int):qI:=
 if R.1=0 then (if kM st R.2.1 then ⟨0,false,st,R.2.2⟩
  else if 1099511627776<st.rev+1 then ⟨2,false,st,now⟩ else ⟨0,true,vT R.2.1,R.2.2⟩)
 else ⟨R.1,false,st,now⟩
theorem tR (st:ak) (now:Int) (q:aU):(doR st now q).2.1.rev=st.rev:=by
 unfold doR kT
 repeat' split
 all_goals rfl
theorem qG {st:ak} (h:aG st=0) {now:Int} {q:aU} (h0:(doR st now q).1=0):aG (doR st now q).2.1=0:=by
 have hn:=Ks h now q
 rw [h0] at hn
 rw [← hn.2 rfl]
 have h1:=hn.1
 clear h0 hn
 unfold nextR at h1 ⊢
 split at h1
 · rename_i hk; rw [if_pos hk]; exact h1
 rename_i hk; rw [if_neg hk]
 split at h1
 · rename_i hk; rw [if_pos hk]; exact h1
 rename_i hk; rw [if_neg hk]
 split at h1
 · rename_i hk; rw [if_pos hk]
   split at h1
   · rename_i hi; rw [if_pos hi]; exact h1
   · cases h1
 rename_i hk; rw [if_neg hk]
 split at h1
 · rename_i hk; rw [if_pos hk]
   split at h1
   · rename_i hi; rw [if_pos hi]; exact h1
   · cases h1
 rename_i hk; rw [if_neg hk]
 split at h1
 · rename_i hk; rw [if_pos hk]
   cases hj:dA st.jobs q.lease.job with
   | none=>rw [hj] at h1; cases h1
   | some j=>
    rw [hj] at h1
    dsimp only at h1 ⊢
    split at h1
    · cases h1
    rename_i h1'; rw [if_neg h1']
    split at h1
    · cases h1
    rename_i h1'; rw [if_neg h1']
    split at h1
    · cases h1
    rename_i h1'; rw [if_neg h1']
    split at h1
    · cases h1
    rename_i h1'; rw [if_neg h1']
    exact h1
 rename_i hk; rw [if_neg hk]
 split at h1
 · rename_i hk; rw [if_pos hk]
   split at h1
   · rename_i hi; rw [if_pos hi]; exact h1
   · cases h1
 rename_i hk; rw [if_neg hk]
 split at h1
 · rename_i hk; rw [if_pos hk]
   split at h1
   · cases h1
   · rename_i hi; rw [if_neg hi]; exact h1
 rename_i hk; rw [if_neg hk]
 exact h1
theorem yg {st:ak} (h:aG st=0) (hr:¬ 1099511627776<st.rev+1):aG (vT st)=0:=by
 obtain⟨h1,h2,h3,h4,h5,h6⟩:=bC.1 h
 have h7:=aZ.1 h1
 refine bC.2 ⟨aZ.2 ⟨by show 0≤st.rev+1; omega,by show st.rev+1≤1099511627776; omega⟩,h2,h3,h4,h5,?_⟩
 unfold ni tQ at h6 ⊢
 simp only [yc (show (vT st).jobs=st.jobs from rfl)]
 exact h6
theorem Eu {st:ak} {now:Int} {q:aU} (h:aG st=0) (hn:0≤now∧now≤1099511627776):aG (iI st now (iR st now q)).st=0∧0≤(iI st now (iR st now q)).now∧(iI st now (iR st now q)).now≤1099511627776:=by
 unfold iI
 split
 · rename_i h0
   have hq:eF q=0:=by
    unfold iR at h0
    split at h0
    · assumption
    · exact h0
   have ha:iR st now q=doR st now q:=by unfold iR; rw [if_pos hq]
   rw [ha] at h0 ⊢
   have hc:=qG h h0
   have hv:=tR st now q
   have ht:0≤(doR st now q).2.2∧(doR st now q).2.2≤1099511627776:=by
    by_cases hk:q.kind=7
    · have hp:eV q=0:=by
       unfold eF at hq
       split at hq
       · cases hq
       split at hq
       · cases hq
       exact hq
      have hr:ranged q.n 0 1099511627776=true:=by
       unfold eV at hp
       rw [hk] at hp
       simp only [show ¬ (7:Int)=1 from by decide,show ¬ (7:Int)=2 from by decide,show ¬ (7:Int)=3 from by decide,show ¬ (7:Int)=4 from by decide,show ¬ (7:Int)=5 from by decide,show ¬ (7:Int)=6 from by decide,or_false,if_false,if_true] at hp
       by_cases hr:ranged q.n 0 1099511627776=true
       · exact hr
       · rw [if_neg hr] at hp; cases hp
      have hr:=aZ.1 hr
      unfold doR at h0 ⊢
      simp only [hk,show ¬ (7:Int)=1 from by decide,show ¬ (7:Int)=2 from by decide,show ¬ (7:Int)=3 from by decide,show ¬ (7:Int)=4 from by decide,show ¬ (7:Int)=5 from by decide,show ¬ (7:Int)=6 from by decide,if_false,if_true] at h0 ⊢
      split at h0
      · cases h0
      · rename_i hlt
        rw [if_neg hlt]
        dsimp only
        omega
    · have:(doR st now q).2.2=now:=by
       unfold doR kT
       repeat' split
       all_goals first | rfl | (exfalso; exact hk ‹_›)
      rw [this]; exact hn
   split
   · exact⟨h,ht⟩
   split
   · exact⟨h,hn⟩
   · rename_i hs hr
     exact⟨yg hc (by rw [hv]; exact hr),ht⟩
 · exact⟨h,hn⟩
end Go.Proofs.YtoeejfhdjmkpcaaGreatDoor
/- What Diff of two states says: plain. -/
namespace Go.Proofs.YtoeejfhdjmkpcaaGreatDoor
open Go.Lib (hid)
noncomputable def newL {α:Type} (a b:List α):List α:=b.filter fun x=>!a.any (eqB x)
def bM {α:Type} (key:α→ByteArray) (a b:List α):List ByteArray:=(a.filter fun x=>!b.any fun y=>decide (key y=key x)).map key
noncomputable def cM (a b:ak):aM:=⟨a.rev,b.rev,newL a.jobs b.jobs,newL a.nodes b.nodes,newL a.leases b.leases,bM aA.name a.jobs b.jobs,bM av.name a.nodes b.nodes,bM ah.job a.leases b.leases⟩
section
variable {α:Type} {p:α→Bool} {l:List α} {k:Nat} {x:α}
theorem oh (h:l[k]? = some x) (hp:p x=true):(l.take (k+1)).filter p=(l.take k).filter p ++ [x]:=by
 rw [List.take_add_one,h,List.filter_append]; simp [hp]
theorem qp (h:l[k]? = some x) (hp:p x=false):(l.take (k+1)).filter p=(l.take k).filter p:=by
 rw [List.take_add_one,h,List.filter_append]; simp [hp]
theorem jZ (p:α→Bool) (l:List α) (k:Nat):((l.take k).filter p).length≤k:=Nat.le_trans (List.length_filter_le _ _) (by rw [List.length_take]; omega)
theorem filter_all (p:α→Bool) {l:List α} {k:Nat} (h:l.length≤k):(l.take k).filter p=l.filter p:=by rw [List.take_of_length_le h]
end
theorem nN {α:Type} (a b:List α):(newL a b).length≤b.length:=List.length_filter_le _ _
theorem lS {α:Type} (key:α→ByteArray) (a b:List α):(bM key a b).length≤a.length:=by unfold bM; rw [List.length_map]; exact List.length_filter_le _ _
end Go.Proofs.YtoeejfhdjmkpcaaGreatDoor
/- The walk of wire.Decode. -/
namespace Go.Proofs.YtoeejfhdjmkpcaaGreatDoor
open Go.Lib (hid)
open Go.RowKit
theorem Kt {s:ByteArray} (h:s.size≠0):(s.toList != [])=true:=by unfold bne; rw [sC h]; rfl
theorem FP {s:ByteArray} (h:s.size≠0):(s.toList != ByteArray.toList ⟨#[]⟩)=true:=by unfold bne; rw [uj h]; rfl
theorem MD (g:Nat) (σ:RR Unit) (w:World) (h:fG w g σ) :
 Calls Tryz.prog 81 #[.pointer (some ⟨g,0,none⟩)] w fun e w'=>e = .returned (.int .i64 (qX σ:Int))∧w.grownBy w' (some g):=by
 obtain⟨s,x,hA,hx⟩:∃ (s:ByteArray) (x:Nat),lT w g s x∧((x=0∧qX σ=(if s.size=0 then 0 else 4))∨(x≠0∧qX σ=x)):=by
  cases σ with
  | ok u s=>exact⟨s,0,h.at_,.inl ⟨rfl,rfl⟩⟩
  | bad x=>obtain⟨s,_,hA⟩:=h.at_; exact⟨s,x,hA,.inr ⟨h.good.1,rfl⟩⟩
 obtain⟨E,hE⟩:∃ E,qX σ=E:=⟨_,rfl⟩
 rw [hE] at hx ⊢
 have y0:w.cell? ⟨g,0,none⟩=some (.string s):=Blk.cell hA 0
 have y1:w.cell? ⟨g,1,none⟩=some (.int .i64 (x:Int)):=Blk.cell hA 1
 have HA:=hid hA
 clear h hE hA
 by_cases hs:s.size=0
 · obtain rfl:=wV hs
   have hEx:E=x:=by
    rcases hx with ⟨h1,h2⟩ | ⟨h1,h2⟩
    · rw [if_pos hs] at h2; omega
    · exact h2
   subst hEx
   clear hx hs
   go_enter Tryz.func81,Tryz.ntmps81
   go_wp2
   go_ret
   exact⟨rfl,cT _ _⟩
 · have e1:=Kt hs
   have e2:=FP hs
   have e3:=wW hs
   have hEx:(if x=0 then 4 else x)=E:=by
    rcases hx with ⟨h1,h2⟩ | ⟨h1,h2⟩
    · rw [if_neg hs] at h2; rw [if_pos h1]; exact h2.symm
    · rw [if_neg h1]; exact h2.symm
   have HEx:=hid hEx
   clear hx hs hEx
   go_enter Tryz.func81,Tryz.ntmps81
   go_wp2_with fail
   refine Calls.mono (nT g s 4 x _ HA.out) ?_
   rintro e w1 ⟨rfl,hA2,hg2⟩
   rw [HEx.out] at hA2
   have x1:w1.cell? ⟨g,1,none⟩=some (.int .i64 (E:Int)):=Blk.cell hA2 1
   clear hA2 y0 y1
   go_wp2
   go_ret
   exact⟨rfl,hg2⟩
def nilA:StA:=⟨none,0,0,none,0,0,none,0,0⟩
theorem zeroAt (w:World) (B:Nat):StAt w B dE nilA:=
 ⟨aQ.nil,aQ.nil,aQ.nil,rfl,rfl,rfl,by decide,by decide,by decide,(fun _ h=>by cases h),(fun _ h=>by cases h),(fun _ h=>by cases h)⟩
def l9 {α:Type} (r:RR (List α)) (T:TypeId) (sz:Nat) (enc:α→List Value) (base:Nat) (A:Option Addr) (n c:Nat) (w:World):Prop:=
 ∀ l s,r = .ok l s→l.length=n∧w.ownsRow base T sz (.slice A n c) n (au enc l)
theorem l9.grow {α:Type} {r:RR (List α)} {T:TypeId} {sz base:Nat} {enc:α→List Value} {A:Option Addr} {n c b:Nat} {w w':World} (h:l9 r T sz enc base A n c w) (hg:w.grownBy w' (some b)) (hb:b<base):l9 r T sz enc base A n c w':=
 fun l s he=>⟨(h l s he).1,bG (h l s he).2 hg hb⟩
end Go.Proofs.YtoeejfhdjmkpcaaGreatDoor
/- The zero delta. -/
namespace Go.Proofs.YtoeejfhdjmkpcaaGreatDoor
open Go.Lib (hid)
open Go.RowKit
def MT:aM:=⟨0,0,[],[],[],[],[],[]⟩
def Md:eI:=⟨none,0,0,none,0,0,none,0,0,none,0,0,none,0,0,none,0,0⟩
theorem Ku (w:World) (B:Nat):dH w B MT Md:=
 { j:=aQ.nil,n:=aQ.nil,l:=aQ.nil,gj:=aQ.nil,gn:=aQ.nil,gl:=aQ.nil,lj:=rfl,ln:=rfl,ll:=rfl,lgj:=rfl,lgn:=rfl,lgl:=rfl,
   bj:=by decide,bn:=by decide,bl:=by decide,bgj:=by decide,bgn:=by decide,bgl:=by decide,
   oj:=(fun _ h=>by cases h),on_:=(fun _ h=>by cases h),ol:=(fun _ h=>by cases h),ogj:=(fun _ h=>by cases h),ogn:=(fun _ h=>by cases h),ogl:=(fun _ h=>by cases h) }
end Go.Proofs.YtoeejfhdjmkpcaaGreatDoor
/- Replies: what both sides write. -/
namespace Go.Proofs.YtoeejfhdjmkpcaaGreatDoor
open Go.Lib (hid)
open Go.RowKit
def mS (c r:Int):Bool:=ranged c 0 10 && ranged r 0 1099511627776
def rR (c r:Int):List UInt8:=bJ c.toNat ++ bJ r.toNat
def jR (c r:Int):ByteArray × Int:=if mS c r=true then (⟨(rR c r).toArray⟩,0) else (⟨#[]⟩,1)
theorem FQ {c r:Int} (h:mS c r=false):jR c r=(⟨#[]⟩,1):=by unfold jR; rw [if_neg (by rw [h]; decide)]
theorem DE {c r:Int} (h:mS c r=true):jR c r=(⟨(rR c r).toArray⟩,0):=by unfold jR; rw [if_pos h]
theorem B7 {c r:Int}:mS c r=true↔(0≤c∧c≤10)∧(0≤r∧r≤1099511627776):=by unfold mS; rw [Bool.and_eq_true,aZ,aZ]
theorem B8 (n:Int) (w:World):Calls Tryz.prog 420 #[.int .i64 n] w fun e w'=>e = .returned (.bool (ranged n 0 1099511627776))∧w=w':=by
 cases h:ranged n 0 1099511627776
 · have h':=iw.1 h
   by_cases h1:n<0
   · have d1:decide (0≤n)=false:=decide_eq_false (by omega)
     clear h h'
     go_enter Tryz.func420,Tryz.ntmps420
     go_wp2
     go_ret
     exact⟨rfl,rfl⟩
   · have d1:decide (0≤n)=true:=decide_eq_true (by omega)
     have d2:decide (n≤1099511627776)=false:=decide_eq_false (by omega)
     clear h h'
     go_enter Tryz.func420,Tryz.ntmps420
     go_wp2
     go_ret
     exact⟨rfl,rfl⟩
 · have h':=aZ.1 h
   have d1:decide (0≤n)=true:=decide_eq_true h'.1
   have d2:decide (n≤1099511627776)=true:=decide_eq_true h'.2
   clear h h'
   go_enter Tryz.func420,Tryz.ntmps420
   go_wp2
   go_ret
   exact⟨rfl,rfl⟩
theorem vU (c r:Int) (w:World):Calls Tryz.prog 371 #[.agg #[.int .i64 c,.int .i64 r]] w fun e w'=>e = .returned (.bool (mS c r))∧Below w.heap.size w w':=by
 have hb:=(Below.refl w.heap.size w).alloc (Nat.le_refl _) (.cells #[.int .i64 c,.int .i64 r] 42)
 have Hb:=hid hb
 clear hb
 unfold mS
 cases h:ranged c 0 10
 · have h':=iw.1 h
   by_cases h1:c<0
   · have d1:decide (0≤c)=false:=decide_eq_false (by omega)
     clear h h'
     go_enter Tryz.func371,Tryz.ntmps371
     go_wp2
     go_ret
     exact⟨rfl,Hb.out⟩
   · have d1:decide (0≤c)=true:=decide_eq_true (by omega)
     have d2:decide (c≤10)=false:=decide_eq_false (by omega)
     clear h h'
     go_enter Tryz.func371,Tryz.ntmps371
     go_wp2
     go_ret
     exact⟨rfl,Hb.out⟩
 · have h':=aZ.1 h
   have d1:decide (0≤c)=true:=decide_eq_true h'.1
   have d2:decide (c≤10)=true:=decide_eq_true h'.2
   clear h h'
   go_enter Tryz.func371,Tryz.ntmps371
   go_wp2_with fail
   refine Calls.mono (B8 r _) ?_
   rintro e w1 ⟨rfl,rfl⟩
   go_wp2
   go_ret
   exact⟨rfl,Hb.out⟩
def IP (c r:Int) (w:World) (e:Ending) (w':World):Prop:=e = .returned (.tuple #[.string (jR c r).1,.int .i64 (jR c r).2])∧Below w.heap.size w w'
theorem FM (c r:Int) (w:World):Calls Tryz.prog 286 #[.agg #[.int .i64 c,.int .i64 r]] w (IP c r w):=by
 have hb:=(Below.refl w.heap.size w).alloc (Nat.le_refl _) (.cells #[.int .i64 c,.int .i64 r] 42)
 have hB:Blk (w.alloc (.cells #[.int .i64 c,.int .i64 r] 42)) w.heap.size 42 #[.int .i64 c,.int .i64 r]:=heap_alloc_new w _
 have Hb:=hid hb
 have HB:=hid hB
 clear hb hB
 unfold IP
 cases h:mS c r
 · rw [FQ h]
   have Hok:=hid h
   clear h
   go_enter Tryz.func286,Tryz.ntmps286
   go_wp2_with fail
   refine Calls.mono (vU c r _) ?_
   rintro e w1 ⟨rfl,hb1⟩
   rw [Hok.out]
   go_wp2
   exact bodyPost_ret (v:=.tuple #[.string ⟨#[]⟩,.int .i64 1]) (by simp [results,Tryz.results286,go_sem]) rfl ⟨rfl,Hb.out.trans (hb1.mono Hb.out.size)⟩
 · rw [DE h]
   have hr:=B7.1 h
   have Hok:=hid h
   clear h
   go_enter Tryz.func286,Tryz.ntmps286
   go_wp2_with fail
   refine Calls.mono (vU c r _) ?_
   rintro e w1 ⟨rfl,hb1⟩
   rw [Hok.out]
   have HB1:=hid (HB.out.below hb1 HB.out.lt)
   have Hb1:=hid (Hb.out.trans (hb1.mono Hb.out.size))
   have hbl:=HB1.out.lt
   clear hb1 HB Hb
   have hA:=(Below.refl w1.heap.size w1).alloc (Nat.le_refl _) (.cells #[.slice none 0 0] 131)
   have hW:pP (w1.alloc (.cells #[.slice none 0 0] 131)) w1.heap.size w1.heap.size []:=⟨Nat.le_refl _,none,0,0,heap_alloc_new w1 _,World.ownsRow_nil _ _ _ _⟩
   have HC:=hid (yh w1.heap.size w1.heap.size [] c _ hr.1.1 (by omega) hW (by simp))
   have HB2:=hid (HB1.out.below hA hbl)
   have HA:=hid hA
   have c0:w1.cell? ⟨w.heap.size,0,none⟩=some (.int .i64 c):=HB1.out.cell 0
   clear hA hW
   go_wp2_with fail
   refine Calls.mono HC.out ?_
   rintro e w2 ⟨rfl,hw2,hk2⟩
   have hsz:=HA.out.size
   have hk3:=hk2.below (Nat.le_refl _) hsz
   have hB3:Blk w2 w.heap.size 42 #[.int .i64 c,.int .i64 r]:=(hk3.block w.heap.size hbl).trans HB2.out
   have c1:w2.cell? ⟨w.heap.size,1,none⟩=some (.int .i64 r):=hB3.cell 1
   have HC2:=hid (yh w1.heap.size w1.heap.size _ r w2 hr.2.1 (by omega) hw2 (by have:=dM c.toNat; simp; omega))
   have HK:=hid (Hb1.out.trans ((HA.out.trans hk3).mono Hb1.out.size))
   have hs2:=Nat.le_trans hsz hk3.size
   clear hw2 hk2 hk3 hB3 HC HB2 HA hsz c0
   go_wp2_with fail
   refine Calls.mono HC2.out ?_
   rintro e w3 ⟨rfl,hw3,hk3⟩
   have HK3:=hid (HK.out.trans ((hk3.below (Nat.le_refl _) hs2).mono Hb1.out.size))
   rw [show [] ++ bJ c.toNat ++ bJ r.toNat=rR c r by simp [rR]] at hw3
   obtain⟨_,AA,m,cc,hBW,ho⟩:=hw3
   have z0:w3.cell? ⟨w1.heap.size,0,none⟩=some (.slice AA m cc):=hBW.cell 0
   have hrun:=iE Tryz.underlying129 Tryz.underlying5 Tryz.underlying9 ho
   clear hk3 hBW ho HC2 HK c1
   go_wp2
   exact bodyPost_ret (v:=.tuple #[.string ⟨(rR c r).toArray⟩,.int .i64 0]) (by simp [results,Tryz.results286,go_sem]) rfl ⟨rfl,HK3.out⟩
end Go.Proofs.YtoeejfhdjmkpcaaGreatDoor
/- What may be written: plain. -/
namespace Go.Proofs.YtoeejfhdjmkpcaaGreatDoor
open Go.Lib (hid)
open Go.RowKit
theorem J8 {j:aA} (h:fE j=0):C8 j:=by
 obtain⟨h1,h2,h3,h4,h5⟩:=gP h
 have:=eO h1
 have:=jS h2
 exact⟨by omega,by omega,by omega,by omega,by omega⟩
theorem Ij {n:av} (h:eH n=0):BF n:=by
 obtain⟨h1,h2,h3⟩:=jT h
 have:=eO h1
 have:=jS h2
 exact⟨by omega,by omega,by omega⟩
theorem Fs {l:ah} (h:lsE l=0):As l:=by
 obtain⟨h1,h2,h3⟩:=BK h
 have:=eO h1
 have:=eO h2
 exact⟨by omega,by omega,by omega⟩
end Go.Proofs.YtoeejfhdjmkpcaaGreatDoor
