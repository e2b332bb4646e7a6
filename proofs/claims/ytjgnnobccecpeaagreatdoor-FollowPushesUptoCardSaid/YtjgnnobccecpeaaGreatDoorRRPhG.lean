/- Of the proof of a statement: PlGone, TextRR, RPhG. -/
import Derived.Test.YtjgnnobccecpeaaGreatDoorRPlDec
import Derived.Test.YtjgnnobccecpeaaGreatDoorRRPh
import Derived.Test.YtjgnnobccecpeaaGreatDoorRRdr
set_option linter.unusedVariables false
set_option linter.unusedSimpArgs false
set_option maxRecDepth 100000
set_option maxHeartbeats 8000000
/- Names that are to go: in order, and none that is set: plain. -/
namespace Go.Proofs.YtjgnnobccecpeaaGreatDoor
open Go.Lib (hid)
open Go.Op (bytesLess)
def leaseOf (l : List LeaseD) (s : ByteArray) : Option LeaseD := l.find? fun x => decide (x.job = s)
def goneFrom (has : ByteArray → Bool) : Option ByteArray → List ByteArray → Int
 | _, [] => 0
 | p, s :: l => if nameOk s = true then (if before p s = true then (if has s = true then 7 else goneFrom has (some s) l) else 8) else 4
def goneE (has : ByteArray → Bool) (l : List ByteArray) : Int := goneFrom has none l
def selfK (s : ByteArray) : ByteArray := s
section
variable {has : ByteArray → Bool} {l : List ByteArray} {k : Nat} {s : ByteArray}
theorem gone_form (h : l[k]? = some s) (hn : nameOk s = false) : goneFrom has (prevK selfK l k) (l.drop k) = 4 := by
 rw [drop_cons h, goneFrom, if_neg (by rw [hn]; simp)]
theorem gone_order {y : ByteArray} (h : l[k]? = some s) (hn : nameOk s = true) (hk : k ≠ 0) (hy : l[k - 1]? = some y) (hl : bytesLess y.toList s.toList = false) : goneFrom has (prevK selfK l k) (l.drop k) = 8 := by
 rw [drop_cons h, goneFrom, if_pos hn, if_neg]
 unfold prevK before
 rw [if_neg hk, hy]
 simp [selfK, hl]
theorem gone_before (hb : k = 0 ∨ ∃ y, l[k - 1]? = some y ∧ bytesLess y.toList s.toList = true) : before (prevK selfK l k) s = true := by
 unfold prevK before
 rcases hb with rfl | ⟨y, hy, hl⟩
 · rfl
 · by_cases hk : k = 0
   · rw [if_pos hk]
   · rw [if_neg hk, hy]; exact hl
theorem gone_twice (h : l[k]? = some s) (hn : nameOk s = true) (hb : k = 0 ∨ ∃ y, l[k - 1]? = some y ∧ bytesLess y.toList s.toList = true) (hh : has s = true) : goneFrom has (prevK selfK l k) (l.drop k) = 7 := by
 rw [drop_cons h, goneFrom, if_pos hn, if_pos (gone_before hb), if_pos hh]
theorem gone_next (h : l[k]? = some s) (hn : nameOk s = true) (hb : k = 0 ∨ ∃ y, l[k - 1]? = some y ∧ bytesLess y.toList s.toList = true) (hh : has s = false) :
 goneFrom has (prevK selfK l k) (l.drop k) = goneFrom has (prevK selfK l (k + 1)) (l.drop (k + 1)) := by
 have e1 : prevK selfK l (k + 1) = some s := by unfold prevK; rw [if_neg (by omega), Nat.add_sub_cancel, h]; rfl
 rw [drop_cons h, goneFrom, if_pos hn, if_pos (gone_before hb), if_neg (by rw [hh]; simp), e1]
theorem gone_end (h : l.length ≤ k) (p : Option ByteArray) : goneFrom has p (l.drop k) = 0 := by
 rw [List.drop_of_length_le h]; rfl
end
def strV (s : ByteArray) : List Value := [.string s]
theorem strV_len (s : ByteArray) : (strV s).length = 1 := rfl
def lsE (l : LeaseD) : Int := if nameOk l.job && nameOk l.node then (if ranged l.till 0 1099511627776 then 0 else 1) else 4
structure DeltaD where
 from_ : Int
 to_ : Int
 jobs : List JobD
 nodes : List NodeD
 leases : List LeaseD
 gj : List ByteArray
 gn : List ByteArray
 gl : List ByteArray
def dSizes (d : DeltaD) : Bool := decide (d.jobs.length ≤ 40) && decide (d.leases.length ≤ 40) && decide (d.gj.length ≤ 40) && decide (d.gl.length ≤ 40) && decide (d.nodes.length ≤ 20) && decide (d.gn.length ≤ 20)
def dTimes (d : DeltaD) : Bool := ranged d.from_ 0 1099511627776 && decide (d.from_ < d.to_) && decide (d.to_ ≤ 1099511627776)
def firstE : List Int → Int
 | [] => 0
 | e :: l => if e = 0 then firstE l else e
def dRows (d : DeltaD) : List Int :=
 [rowsE jobE JobD.name d.jobs, rowsE nodeE NodeD.name d.nodes, rowsE lsE LeaseD.job d.leases,
  goneE (fun s => (jobOf d.jobs s).isSome) d.gj, goneE (fun s => (nodeOf d.nodes s).isSome) d.gn, goneE (fun s => (leaseOf d.leases s).isSome) d.gl]
def deltaE (d : DeltaD) : Int := if dTimes d = false then 1 else if dSizes d = false then 2 else firstE (dRows d)
theorem firstE_zero {e : Int} {l : List Int} (h : e = 0) : firstE (e :: l) = firstE l := by unfold firstE; rw [if_pos h]; cases l <;> rfl
theorem firstE_stop {e : Int} {l : List Int} (h : e ≠ 0) : firstE (e :: l) = e := by unfold firstE; rw [if_neg h]
end Go.Proofs.YtjgnnobccecpeaaGreatDoor
/- The walk of the reference's TextRead. -/
namespace Go.Proofs.YtjgnnobccecpeaaGreatDoor
open Go.Lib (hid)
open Go.RowKit
open Go.Lib (validD)
theorem cut_two {s : ByteArray} {k n : Nat} (h : ¬ s.size < k + n) : (s.extract k s.size).extract 0 n = s.extract k (k + n) := by
 rw [ByteArray.extract_extract]
 congr 1
 omega
theorem rtextRead_any (s : ByteArray) (w : World) (hs : s.size ≤ 9223372036854775807) : Calls Tryz.prog 250 #[.string s] w (TrdPost s w) := by
 obtain ⟨n, k, e, hr⟩ : ∃ n k e, rdNum s = (n, k, e) := ⟨_, _, _, rfl⟩
 have h1 := hid (rread_eq hr w hs)
 obtain ⟨f1, f2, f3, f4⟩ := rdNum_facts hr
 have HR := hid hr
 clear hr
 by_cases he : e = 0
 · subst he
   have f5 := f4 rfl
   clear f4 f3
   by_cases hn : 16 < n
   · have fin := hid (TrdPost.mk' (w := w) (w' := w) (txtR_large HR.out hn) (Below.refl _ _))
     go_enter Tryz.func250, Tryz.ntmps250
     go_wp2_with fail
     refine Calls.mono h1.out ?_
     rintro x w' ⟨rfl, rfl⟩
     go_wp2
     refine bodyPost_ret (v := .tuple #[.string ⟨#[]⟩, .int .i64 0, .int .i64 2]) (by simp [results, Tryz.results250, go_sem]) rfl fin.out
   · by_cases hl : s.size < k + n
     · have fin := hid (TrdPost.mk' (w := w) (w' := w) (txtR_short HR.out hn hl) (Below.refl _ _))
       clear f1
       go_enter Tryz.func250, Tryz.ntmps250
       go_wp2_with fail
       refine Calls.mono h1.out ?_
       rintro x w' ⟨rfl, rfl⟩
       go_wp2
       refine bodyPost_ret (v := .tuple #[.string ⟨#[]⟩, .int .i64 0, .int .i64 3]) (by simp [results, Tryz.results250, go_sem]) rfl fin.out
     · clear f1
       have hV := hid (rutf_any (s.extract k (k + n)) w (by rw [ByteArray.size_extract]; omega))
       have hc := hid (cut_two hl)
       obtain ⟨t1, ht1⟩ : ∃ t1, s.extract k s.size = t1 := ⟨_, rfl⟩
       have hz1 : t1.size = s.size - k := by rw [← ht1, ByteArray.size_extract]; omega
       obtain ⟨t2, ht2⟩ : ∃ t2, t1.extract 0 n = t2 := ⟨_, rfl⟩
       have hz2 : t2.size = n := by rw [← ht2, ByteArray.size_extract]; omega
       have hc2 := hid (show t2 = s.extract k (k + n) by rw [← ht2, ← ht1]; exact hc.out)
       rw [← hc2.out] at hV
       cases hv : validD (s.extract k (k + n)).data.toList
       · have fin := hid (TrdPost.mk' (w := w) (w' := w) (txtR_form HR.out hn hl hv) (Below.refl _ _))
         rw [hc2.out, hv] at hV
         rw [← hc2.out] at hV
         go_enter Tryz.func250, Tryz.ntmps250
         go_wp2_with fail
         refine Calls.mono h1.out ?_
         rintro x w' ⟨rfl, rfl⟩
         go_wp2_with fail
         refine Calls.mono hV.out ?_
         rintro x w1 ⟨rfl, rfl⟩
         go_wp2
         refine bodyPost_ret (v := .tuple #[.string ⟨#[]⟩, .int .i64 0, .int .i64 4]) (by simp [results, Tryz.results250, go_sem]) rfl fin.out
       · have fin := hid (TrdPost.mk' (w := w) (w' := w) (txtR_ok HR.out hn hl hv) (Below.refl _ _))
         rw [← hc2.out] at fin
         rw [hc2.out, hv] at hV
         rw [← hc2.out] at hV
         go_enter Tryz.func250, Tryz.ntmps250
         go_wp2_with fail
         refine Calls.mono h1.out ?_
         rintro x w' ⟨rfl, rfl⟩
         go_wp2_with fail
         refine Calls.mono hV.out ?_
         rintro x w1 ⟨rfl, rfl⟩
         go_wp2
         refine bodyPost_ret (v := .tuple #[.string t2, .int .i64 ((k : Int) + n), .int .i64 0]) (by simp [results, Tryz.results250, go_sem, hz2]) rfl ?_
         have := fin.out
         rw [Int.natCast_add] at this
         exact this
 · have fin := hid (TrdPost.mk' (w := w) (w' := w) (txtR_num HR.out he) (Below.refl _ _))
   clear f4 f1
   go_enter Tryz.func250, Tryz.ntmps250
   go_wp2_with fail
   refine Calls.mono h1.out ?_
   rintro x w' ⟨rfl, rfl⟩
   go_wp2
   refine bodyPost_ret (v := .tuple #[.string ⟨#[]⟩, .int .i64 0, .int .i64 (e : Int)]) (by simp [results, Tryz.results250, go_sem]) rfl fin.out
end Go.Proofs.YtjgnnobccecpeaaGreatDoor
/- The law by phases, where the other operations may set the ghost, too. -/
namespace Go.Proofs.YtjgnnobccecpeaaGreatDoor
open Go.Lib (hid)
open Go.RowKit
section
variable {Γ : Type} {P : Program} {ops : Array Oper} {V : Γ → Nat → Value → Prop} {a0 : Act} {S : List Nat} {Ph : Nat → Γ → World → Prop}
def PhOkG {Γ : Type} (P : Program) (ops : Array Oper) (V : Γ → Nat → Value → Prop) (S : List Nat) (Ph : Nat → Γ → World → Prop) (a0 : Act) (Q : Exit → Act → World → Prop) (i : Nat) (o : Oper) : Prop :=
 o.guard = none ∧ ((∃ k, S[k]? = some i ∧ ∀ γ a w, Ph k γ w → Knows ops (V γ) a0 i o a → o.wp P a w (fun a' w' => ∃ u γ', a' = a.put o.dst u ∧ (∀ j v, j ≠ i → V γ j v → V γ' j v) ∧ V γ' i u ∧ Ph (k + 1) γ' w') Q) ∨
  (i ∉ S ∧ ∃ lo hi, loB S o lo = true ∧ hiB ops S i hi = true ∧ ∀ p γ a w, lo ≤ p → p ≤ hi → Ph p γ w → Knows ops (V γ) a0 i o a → o.wp P a w (fun a' w' => ∃ u γ', a' = a.put o.dst u ∧ (∀ j v, j ≠ i → V γ j v → V γ' j v) ∧ V γ' i u ∧ Ph p γ' w') Q))
theorem wpAny_of_phasesG {n : Nat} {Q : Exit → Act → World → Prop} (hB : tabB ops n = true) (hC : chainB ops S = true) (hn : a0.tmps.size = n)
 (hop : ∀ (i : Nat) (o : Oper), ops[i]? = some o → PhOkG P ops V S Ph a0 Q i o)
 (hQ : ∀ γ a w, (∀ listed, (∀ i, i < ops.size → listed.getD i false = true) → PInv ops V S Ph a0 γ listed a w) → Q .normal a w) :
 ∀ (fuel : Nat) (γ : Γ) (listed : Array Bool) (a : Act) (w : World), listed.size = ops.size → (listed.toList.filter (! ·)).length ≤ fuel → PInv ops V S Ph a0 γ listed a w → wpAny P .any ops Q fuel listed a w := by
 have all_of : ∀ {γ : Γ} {listed : Array Bool} {a : Act} {w : World}, PInv ops V S Ph a0 γ listed a w → (∀ i, i < ops.size → listed.getD i false = true) → ∀ l' : Array Bool, (∀ i, i < ops.size → l'.getD i false = true) → PInv ops V S Ph a0 γ l' a w := by
  intro γ listed a w h hl l' hl'
  refine ⟨?_, h.size, h.defers, fun t ht => h.keep t fun i o ho hd => absurd (ht i o ho hd) (by rw [hl' i (Array.getElem?_eq_some_iff.1 ho).1]; simp), fun i o t ho _ ht => h.done i o t ho (hl i (Array.getElem?_eq_some_iff.1 ho).1) ht, fun i o j ho _ hj => ?_⟩
  · obtain ⟨p, ⟨hp1, hp2⟩, hp3⟩ := h.at_
    refine ⟨p, ⟨hp1, fun k i hk => ?_⟩, hp3⟩
    have hi := (chain_spec hC hk).1
    rw [← hp2 k i hk, hl i hi, hl' i hi]
  · refine hl' j ?_
    have hj' := hj
    unfold waitsFor at hj
    obtain ⟨e, he, h2⟩ := Array.any_eq_true'.1 hj
    simp only [Bool.and_eq_true, beq_iff_eq] at h2
    have := (tabB_spec hB ho).2 e he
    have hi := (Array.getElem?_eq_some_iff.1 ho).1
    omega
 intro fuel
 induction fuel with
 | zero =>
  intro γ listed a w hs hf h
  have hr : Region.ready .any ops listed = [] := by
   cases hr : Region.ready .any ops listed with
   | nil => rfl
   | cons i r =>
    exfalso
    have hm : i ∈ Region.ready .any ops listed := by rw [hr]; exact List.mem_cons_self
    obtain ⟨h1, o, ho, _⟩ := mem_ready.1 hm
    have hi : i < ops.size := (Array.getElem?_eq_some_iff.1 ho).1
    have hx : listed[i]? = some listed[i] := Array.getElem?_eq_getElem (by omega)
    rw [Array.getD_eq_getD_getElem?, hx] at h1
    have h2 : false ∈ listed.toList.filter (! ·) := List.mem_filter.2 ⟨by rw [← show listed[i] = false from by simpa using h1]; exact Array.getElem_mem_toList (by omega), rfl⟩
    have := List.length_pos_of_mem h2
    omega
  exact ⟨hr, hQ γ a w (all_of h (listed_of_ready_nil hB hs hr))⟩
 | succ fuel ih =>
  intro γ listed a w hs hf h
  refine ⟨fun hr => hQ γ a w (all_of h (listed_of_ready_nil hB hs hr)), fun i hi => ?_⟩
  obtain ⟨h1, o, ho, hall⟩ := mem_ready.1 hi
  have hil : i < ops.size := (Array.getElem?_eq_some_iff.1 ho).1
  have hil' : i < listed.size := by omega
  have hno : listed.getD i false = false := by
   have hx : listed[i]? = some listed[i] := Array.getElem?_eq_getElem hil'
   rw [Array.getD_eq_getD_getElem?, hx] at h1 ⊢
   simpa using h1
  have hwait : ∀ j, waitsFor o j = true → listed.getD j false = true := by
   intro j hj
   unfold waitsFor at hj
   obtain ⟨e, he, h2⟩ := Array.any_eq_true'.1 hj
   simp only [Bool.and_eq_true, beq_iff_eq] at h2
   obtain ⟨h2, h3⟩ := h2
   subst h2
   exact hall e he h3
  have hknow : Knows ops (V γ) a0 i o a := ⟨fun t v hv hn => by rw [h.keep t (kept_spec hn hno h.closed)]; exact hv, fun j p t hp ht hj => h.done j p t hp (hwait j hj) ht, h.defers⟩
  obtain ⟨p, ⟨hp1, hp2⟩, hp3⟩ := h.at_
  obtain ⟨hgd, hk⟩ := hop i o ho
  unfold wpOp
  rw [ho]
  simp only [Region.wanted, hgd, if_true]
  refine .inl ?_
  have next : ∀ u γ' w', (∀ j v, j ≠ i → V γ j v → V γ' j v) → V γ' i u → (∃ p, AtPh S (listed.setIfInBounds i true) p ∧ Ph p γ' w') → wpAny P .any ops Q fuel (listed.setIfInBounds i true) (a.put o.dst u) w' := by
   intro u γ' w' hgg hu hp
   refine ih _ _ _ _ (by simpa using hs) ?_ (h.step hB hn hs ho hwait hgg hu hp)
   have hx : listed[i]? = some listed[i] := Array.getElem?_eq_getElem hil'
   have h2 : listed.toList[i]? = some false := by
    rw [Array.getElem?_toList, hx]
    rw [Array.getD_eq_getD_getElem?, hx] at hno
    simpa using hno
   have h3 := count_set listed.toList i h2
   simp only [Array.toList_setIfInBounds]
   omega
  rcases hk with ⟨k, hk, hw⟩ | ⟨hns, lo, hi', hlo, hhi, hw⟩
  · have hkp : p = k := by
     have e1 := hp2 k i hk
     rw [hno] at e1
     have h1 : ¬ k < p := by
      intro hlt; rw [decide_eq_true hlt] at e1; cases e1
     rcases (chain_spec hC hk).2.1 with h0 | ⟨o', j, ho', hj, hwj⟩
     · omega
     · rw [ho] at ho'; injection ho' with ho'; subst ho'
       have e2 := hp2 (k - 1) j hj
       rw [hwait j hwj] at e2
       have h2 : k - 1 < p := of_decide_eq_true e2.symm
       omega
    subst hkp
    refine Oper.wp_mono (fun a' w' hh => ?_) (hw γ a w hp3 hknow)
    obtain ⟨u, γ', rfl, hgg, hu, hph⟩ := hh
    refine next u γ' w' hgg hu ⟨p + 1, ⟨(List.getElem?_eq_some_iff.1 hk).1, fun m j hm => ?_⟩, hph⟩
    rw [getD_set hil']
    by_cases hij : i = j
    · rw [if_pos hij]
      subst hij
      have hmp : m = p := by
       rcases Nat.lt_trichotomy m p with hlt | heq | hgt
       · exact absurd rfl ((chain_spec hC hk).2.2 m i hlt hm)
       · exact heq
       · exact absurd rfl ((chain_spec hC hm).2.2 p i hgt hk)
      rw [decide_eq_true (by omega)]
    · rw [if_neg hij, hp2 m j hm]
      have hne : m ≠ p := fun e => by subst e; rw [hk] at hm; injection hm with hm; exact hij hm
      by_cases hlt : m < p
      · rw [decide_eq_true hlt, decide_eq_true (by omega)]
      · rw [decide_eq_false hlt, decide_eq_false (by omega)]
  · have hl : lo ≤ p := by
     unfold loB at hlo
     simp only [Bool.or_eq_true, Bool.and_eq_true, beq_iff_eq, decide_eq_true_eq] at hlo
     rcases hlo with h0 | ⟨h0, h2⟩
     · omega
     · rcases Nat.eq_zero_or_pos lo with h3 | h3
       · omega
       · have hj : S[lo - 1]? = some S[lo - 1] := List.getElem?_eq_getElem (by omega)
         rw [show S.getD (lo - 1) 0 = S[lo - 1] by rw [List.getD_eq_getElem?_getD, hj]; rfl] at h2
         have e := hp2 _ _ hj
         rw [hwait _ h2] at e
         have := of_decide_eq_true e.symm
         omega
    have hh' : p ≤ hi' := by
     unfold hiB at hhi
     simp only [Bool.or_eq_true, Bool.and_eq_true, beq_iff_eq, decide_eq_true_eq] at hhi
     rcases hhi with h0 | ⟨h0, h2⟩
     · omega
     · have hj : S[hi']? = some S[hi'] := List.getElem?_eq_getElem h0
       rw [show S.getD hi' 0 = S[hi'] by rw [List.getD_eq_getElem?_getD, hj]; rfl] at h2
       cases hoj : ops[S[hi']]? with
       | none => rw [hoj] at h2; cases h2
       | some o' =>
        rw [hoj] at h2
        have e := hp2 _ _ hj
        by_cases hlt : hi' < p
        · rw [decide_eq_true hlt] at e
          have := h.closed _ o' i hoj e h2
          rw [hno] at this; cases this
        · omega
    refine Oper.wp_mono (fun a' w' hh => ?_) (hw p γ a w hl hh' hp3 hknow)
    obtain ⟨u, γ', rfl, hgg, hu, hph⟩ := hh
    refine next u γ' w' hgg hu ⟨p, ⟨hp1, fun m j hm => ?_⟩, hph⟩
    rw [getD_set hil', if_neg (fun e => hns (by subst e; exact List.mem_of_getElem? hm))]
    exact hp2 m j hm
def PhsOkG {Γ : Type} (P : Program) (ops : Array Oper) (V : Γ → Nat → Value → Prop) (S : List Nat) (Ph : Nat → Γ → World → Prop) (a0 : Act) (Q : Exit → Act → World → Prop) : Nat → List Oper → Prop
 | _, [] => True
 | i, o :: l => PhOkG P ops V S Ph a0 Q i o ∧ PhsOkG P ops V S Ph a0 Q (i + 1) l
theorem PhsOkG.all {Q : Exit → Act → World → Prop} : ∀ {l : List Oper} {k : Nat}, PhsOkG P ops V S Ph a0 Q k l → ∀ (i : Nat) (o : Oper), l[i]? = some o → PhOkG P ops V S Ph a0 Q (k + i) o
 | [], _, _, i, o, h => by simp at h
 | x :: l, k, hh, 0, o, h => by
  have e : x = o := by simpa using h
  subst e; exact hh.1
 | x :: l, k, hh, i + 1, o, h => by
  have := hh.2.all i o (by simpa using h)
  rwa [show k + (i + 1) = k + 1 + i from by omega]
theorem wp_region_phasesG {id : Nat} {n : Nat} {l : List Oper} {w0 : World} {Q : Exit → Act → World → Prop} (hm : P.follows .mixedOrders = true) (V : Γ → Nat → Value → Prop) (S : List Nat) (Ph : Nat → Γ → World → Prop) (γ0 : Γ) (hB : tabB l.toArray n = true) (hC : chainB l.toArray S = true) (hn : a0.tmps.size = n)
 (h0 : Ph 0 γ0 w0.drew) (hop : PhsOkG P l.toArray V S Ph a0 Q 0 l) (hQ : ∀ γ a w, PhDone l.toArray V S Ph a0 γ a w → Q .normal a w) : (Code.region id l.toArray true).wp P Q a0 w0 := by
 refine wp_region_any hm (wpAny_of_phasesG hB hC hn (fun i o ho => by
  have := hop.all i o (by simpa using ho)
  rwa [Nat.zero_add] at this) (fun γ a w h => hQ γ a w ?_) l.toArray.size γ0 (Array.replicate l.toArray.size false) a0 _ (by simp) ?_ ?_)
 · have hh := h (Array.replicate l.toArray.size true) (fun i hi => by rw [Array.getD_eq_getD_getElem?, Array.getElem?_replicate, if_pos hi]; rfl)
   obtain ⟨p, ⟨hp1, hp2⟩, hp3⟩ := hh.at_
   have hpl : p = S.length := by
    rcases Nat.eq_zero_or_pos S.length with h0 | h0
    · omega
    · have hk : S[S.length - 1]? = some S[S.length - 1] := List.getElem?_eq_getElem (by omega)
      have e := hp2 _ _ hk
      rw [Array.getD_eq_getD_getElem?, Array.getElem?_replicate, if_pos (chain_spec hC hk).1] at e
      have := of_decide_eq_true e.symm
      omega
   subst hpl
   exact ⟨hp3, hh.size, hh.defers, fun t ht => hh.keep t fun i o ho hd => absurd hd (ht i o ho), fun i o t ho ht => hh.done i o t ho (by rw [Array.getD_eq_getD_getElem?, Array.getElem?_replicate, if_pos (Array.getElem?_eq_some_iff.1 ho).1]; rfl) ht⟩
 · exact Nat.le_trans (List.length_filter_le _ _) (by simp)
 · have hf : ∀ i, (Array.replicate l.toArray.size false).getD i false = false := by
    intro i
    rw [Array.getD_eq_getD_getElem?, Array.getElem?_replicate]
    split <;> rfl
   exact ⟨⟨0, ⟨Nat.zero_le _, fun k i _ => by rw [hf]; rfl⟩, h0⟩, rfl, rfl, fun _ _ => rfl, fun i o t ho hl _ => (by rw [hf] at hl; cases hl), fun i o j ho hl _ => (by rw [hf] at hl; cases hl)⟩
end
end Go.Proofs.YtjgnnobccecpeaaGreatDoor
