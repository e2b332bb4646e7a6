/- Of the proof of a statement: RPh. -/
import Derived.Test.YtcodhhabfacnjaaGreatDoorSRTab
set_option linter.unusedVariables false
set_option linter.unusedSimpArgs false
/- A region that draws its order, by phases: the operations that turn the world come in one forced order; the others may come up between them. Whatever order the tape picks; an operation may panic. -/
namespace Go.Proofs.YtcodhhabfacnjaaGreatDoor
open Go.RowKit
section
variable {Γ : Type} {P : Program} {ops : Array Oper} {V : Γ → Nat → Value → Prop} {a0 : Act} {S : List Nat} {Ph : Nat → Γ → World → Prop}
/-- How far the turning operations have come. -/
def AtPh (S : List Nat) (listed : Array Bool) (p : Nat) : Prop := p ≤ S.length ∧ ∀ k i, S[k]? = some i → listed.getD i false = decide (k < p)
structure PInv {Γ : Type} (ops : Array Oper) (V : Γ → Nat → Value → Prop) (S : List Nat) (Ph : Nat → Γ → World → Prop) (a0 : Act) (γ : Γ) (listed : Array Bool) (a : Act) (w : World) : Prop where
  at_ : ∃ p, AtPh S listed p ∧ Ph p γ w
  size : a.tmps.size = a0.tmps.size
  defers : a.defers = a0.defers
  keep : ∀ t, (∀ (i : Nat) (o : Oper), ops[i]? = some o → o.dst = some t → listed.getD i false = false) → a.tmps[t]? = a0.tmps[t]?
  done : ∀ (i : Nat) (o : Oper) t, ops[i]? = some o → listed.getD i false = true → o.dst = some t → ∃ u, a.tmps[t]? = some u ∧ V γ i u
  closed : ∀ (i : Nat) (o : Oper) j, ops[i]? = some o → listed.getD i false = true → waitsFor o j = true → listed.getD j false = true
/-- The turning operations: each waits for the one before it; each is an operation; no two are one. -/
def chainB (ops : Array Oper) (S : List Nat) : Bool :=
  (List.range S.length).all fun k => decide (S.getD k 0 < ops.size) && (k == 0 || match ops[S.getD k 0]? with | some o => waitsFor o (S.getD (k - 1) 0) | none => false) && (List.range k).all (fun j => S.getD j 0 != S.getD k 0)
/-- lo: behind that many turning operations; hi: not behind more. -/
def loB (S : List Nat) (o : Oper) (lo : Nat) : Bool := lo == 0 || (decide (lo ≤ S.length) && waitsFor o (S.getD (lo - 1) 0))
def hiB (ops : Array Oper) (S : List Nat) (i hi : Nat) : Bool := hi == S.length || (decide (hi < S.length) && match ops[S.getD hi 0]? with | some o => waitsFor o i | none => false)
/-- Whoever writes slot t waits for number i, directly or by one between. -/
def waitAllB (ops : Array Oper) (i t : Nat) : Bool := ops.all fun o => o.dst != some t || waitsFor o i || (List.range ops.size).any fun m => waitsFor o m && (match ops[m]? with | some p => waitsFor p i | none => false)
theorem kept_spec {ops : Array Oper} {i t : Nat} (h : waitAllB ops i t = true) {listed : Array Bool} (hno : listed.getD i false = false)
    (hcl : ∀ (i : Nat) (o : Oper) j, ops[i]? = some o → listed.getD i false = true → waitsFor o j = true → listed.getD j false = true) (j : Nat) (p : Oper) (hp : ops[j]? = some p) (hd : p.dst = some t) : listed.getD j false = false := by
  cases hl : listed.getD j false with
  | false => rfl
  | true =>
    exfalso
    have h1 := (Array.all_eq_true_iff_forall_mem.1 h) p (Array.mem_of_getElem? hp)
    simp only [hd, bne_self_eq_false, Bool.false_or, Bool.or_eq_true, List.any_eq_true, Bool.and_eq_true] at h1
    rcases h1 with h1 | ⟨m, _, h2, h3⟩
    · have := hcl j p i hp hl h1
      rw [hno] at this; cases this
    · have hm := hcl j p m hp hl h2
      cases hq : ops[m]? with
      | none => rw [hq] at h3; cases h3
      | some q =>
        rw [hq] at h3
        have := hcl m q i hq hm h3
        rw [hno] at this; cases this
/-- What is known of the frame where an operation comes up. -/
def Knows (ops : Array Oper) (V : Nat → Value → Prop) (a0 : Act) (i : Nat) (o : Oper) (a : Act) : Prop :=
  (∀ t v, a0.tmps[t]? = some v → waitAllB ops i t = true → a.tmps[t]? = some v) ∧
  (∀ (j : Nat) (p : Oper) t, ops[j]? = some p → p.dst = some t → waitsFor o j = true → ∃ u, a.tmps[t]? = some u ∧ V j u) ∧ a.defers = a0.defers
theorem Knows.g {ops : Array Oper} {a0 : Act} {V : Nat → Value → Prop} {i : Nat} {o : Oper} {a : Act} (hk : Knows ops V a0 i o a) (j t : Nat) {p : Oper} (h1 : ops[j]? = some p) (h2 : p.dst = some t) (h3 : waitsFor o j = true := by decide +kernel) : ∃ u, a.tmps[t]? = some u ∧ V j u := hk.2.1 j p t h1 h2 h3
theorem Knows.k {ops : Array Oper} {a0 : Act} {V : Nat → Value → Prop} {i : Nat} {o : Oper} {a : Act} (hk : Knows ops V a0 i o a) (t : Nat) {v : Value} (h : a0.tmps[t]? = some v) (h2 : waitAllB ops i t = true := by decide +kernel) : a.tmps[t]? = some v := hk.1 t v h h2
/-- What is asked of one operation. -/
def PhOk {Γ : Type} (P : Program) (ops : Array Oper) (V : Γ → Nat → Value → Prop) (S : List Nat) (Ph : Nat → Γ → World → Prop) (a0 : Act) (Q : Exit → Act → World → Prop) (i : Nat) (o : Oper) : Prop :=
  o.guard = none ∧ ((∃ k, S[k]? = some i ∧ ∀ γ a w, Ph k γ w → Knows ops (V γ) a0 i o a → o.wp P a w (fun a' w' => ∃ u γ', a' = a.put o.dst u ∧ (∀ j v, j ≠ i → V γ j v → V γ' j v) ∧ V γ' i u ∧ Ph (k + 1) γ' w') Q) ∨
    (i ∉ S ∧ ∃ lo hi, loB S o lo = true ∧ hiB ops S i hi = true ∧ ∀ p γ a w, lo ≤ p → p ≤ hi → Ph p γ w → Knows ops (V γ) a0 i o a → o.wp P a w (fun a' w' => ∃ u, a' = a.put o.dst u ∧ V γ i u ∧ Ph p γ w') Q))
theorem okP {Γ : Type} {P : Program} {ops : Array Oper} {V : Γ → Nat → Value → Prop} {S : List Nat} {Ph : Nat → Γ → World → Prop} {a0 : Act} {Q : Exit → Act → World → Prop} {i : Nat} {o : Oper} (lo hi : Nat) (h : ∀ p γ a w, lo ≤ p → p ≤ hi → Ph p γ w → Knows ops (V γ) a0 i o a → o.wp P a w (fun a' w' => ∃ u, a' = a.put o.dst u ∧ V γ i u ∧ Ph p γ w') Q)
    (hg : o.guard = none := by rfl) (h0 : i ∉ S := by decide) (h1 : loB S o lo = true := by decide +kernel) (h2 : hiB ops S i hi = true := by decide +kernel) : PhOk P ops V S Ph a0 Q i o := ⟨hg, .inr ⟨h0, lo, hi, h1, h2, h⟩⟩
theorem chain_spec (h : chainB ops S = true) {k i : Nat} (hk : S[k]? = some i) : i < ops.size ∧ (k = 0 ∨ ∃ o j, ops[i]? = some o ∧ S[k - 1]? = some j ∧ waitsFor o j = true) ∧ ∀ m j, m < k → S[m]? = some j → j ≠ i := by
  unfold chainB at h
  rw [List.all_eq_true] at h
  have hlt : k < S.length := (List.getElem?_eq_some_iff.1 hk).1
  have h1 := h k (List.mem_range.2 hlt)
  have e : S.getD k 0 = i := by rw [List.getD_eq_getElem?_getD, hk]; rfl
  rw [e] at h1
  simp only [Bool.and_eq_true, Bool.or_eq_true, decide_eq_true_eq, beq_iff_eq] at h1
  obtain ⟨⟨h1, h2⟩, h3⟩ := h1
  refine ⟨h1, ?_, fun m j hm hj => ?_⟩
  · rcases h2 with h2 | h2
    · exact .inl h2
    · rcases Nat.eq_zero_or_pos k with h0 | h0
      · exact .inl h0
      · have hj : S[k - 1]? = some S[k - 1] := List.getElem?_eq_getElem (by omega)
        rw [show S.getD (k - 1) 0 = S[k - 1] by rw [List.getD_eq_getElem?_getD, hj]; rfl] at h2
        cases ho : ops[i]? with
        | none => rw [ho] at h2; cases h2
        | some o => rw [ho] at h2; exact .inr ⟨o, _, rfl, hj, h2⟩
  · have := List.all_eq_true.1 h3 m (List.mem_range.2 hm)
    rw [show S.getD m 0 = j by rw [List.getD_eq_getElem?_getD, hj]; rfl] at this
    simpa using this
theorem getD_set {listed : Array Bool} {i j : Nat} (hi : i < listed.size) : (listed.setIfInBounds i true).getD j false = if i = j then true else listed.getD j false := by
  rw [Array.getD_eq_getD_getElem?, Array.getD_eq_getD_getElem?, Array.getElem?_setIfInBounds]
  by_cases h : i = j
  · rw [if_pos h, if_pos h, if_pos hi]; rfl
  · rw [if_neg h, if_neg h]
theorem PInv.step {n : Nat} (hB : tabB ops n = true) (hn : a0.tmps.size = n) {listed : Array Bool} {a : Act} {w : World} (hs : listed.size = ops.size)
    {γ γ' : Γ} (h : PInv ops V S Ph a0 γ listed a w) {i : Nat} {o : Oper} (ho : ops[i]? = some o) (hw : ∀ j, waitsFor o j = true → listed.getD j false = true) {u : Value} {w' : World} (hgg : ∀ j v, j ≠ i → V γ j v → V γ' j v) (hu : V γ' i u) (hp : ∃ p, AtPh S (listed.setIfInBounds i true) p ∧ Ph p γ' w') :
    PInv ops V S Ph a0 γ' (listed.setIfInBounds i true) (a.put o.dst u) w' := by
  have hi : i < ops.size := (Array.getElem?_eq_some_iff.1 ho).1
  have hput : ∀ t, o.dst ≠ some t → (a.put o.dst u).tmps[t]? = a.tmps[t]? := by
    intro t ht
    unfold Act.put
    cases hd : o.dst with
    | none => rfl
    | some d =>
      have hne : d ≠ t := fun e => ht (by rw [hd, e])
      simp [Array.getElem?_setIfInBounds, hne]
  refine ⟨hp, ?_, ?_, fun t ht => ?_, fun j p t hp hl ht => ?_, fun j p m hp hl hm => ?_⟩
  · unfold Act.put; split <;> simp [h.size]
  · unfold Act.put; split <;> simp [h.defers]
  · rw [hput t (fun hd => by
      have := ht i o ho hd
      rw [getD_set (by omega), if_pos rfl] at this; cases this)]
    exact h.keep t fun j p hp hd => by
      have := ht j p hp hd
      rw [getD_set (by omega)] at this
      split at this
      · cases this
      · exact this
  · rw [getD_set (by omega)] at hl
    by_cases hij : i = j
    · subst hij
      rw [ho] at hp; injection hp with hp; subst hp
      have hlt := ((tabB_spec hB ho).1 t ht).1
      refine ⟨u, ?_, hu⟩
      unfold Act.put
      rw [ht]
      simp only [Array.getElem?_setIfInBounds]
      rw [if_pos trivial, if_pos (by rw [h.size, hn]; exact hlt)]
    · rw [if_neg hij] at hl
      obtain ⟨u', h1, h2⟩ := h.done j p t hp hl ht
      refine ⟨u', ?_, hgg _ _ (fun e => hij e.symm) h2⟩
      rw [hput t ?_]; exact h1
      intro e
      rcases Nat.lt_or_gt_of_ne hij with hlt | hlt
      · exact ((tabB_spec hB hp).1 t ht).2 i o ho hlt e
      · exact ((tabB_spec hB ho).1 t e).2 j p hp hlt ht
  · rw [getD_set (by omega)] at hl ⊢
    by_cases him : i = m
    · rw [if_pos him]
    · rw [if_neg him]
      by_cases hij : i = j
      · subst hij
        rw [ho] at hp; injection hp with hp; subst hp
        exact hw m hm
      · rw [if_neg hij] at hl
        exact h.closed j p m hp hl hm
theorem wpAny_of_phases {n : Nat} {Q : Exit → Act → World → Prop} (hB : tabB ops n = true) (hC : chainB ops S = true) (hn : a0.tmps.size = n)
    (hop : ∀ (i : Nat) (o : Oper), ops[i]? = some o → PhOk P ops V S Ph a0 Q i o)
    (hQ : ∀ γ a w, (∀ listed, (∀ i, i < ops.size → listed.getD i false = true) → PInv ops V S Ph a0 γ listed a w) → Q .normal a w) :
    ∀ (fuel : Nat) (γ : Γ) (listed : Array Bool) (a : Act) (w : World), listed.size = ops.size → (listed.toList.filter (! ·)).length ≤ fuel → PInv ops V S Ph a0 γ listed a w → wpAny P .any ops Q fuel listed a w := by
  have all_of : ∀ {γ : Γ} {listed : Array Bool} {a : Act} {w : World}, PInv ops V S Ph a0 γ listed a w → (∀ i, i < ops.size → listed.getD i false = true) → ∀ l' : Array Bool, (∀ i, i < ops.size → l'.getD i false = true) → PInv ops V S Ph a0 γ l' a w := by
    intro γ listed a w h hl l' hl'
    refine ⟨?_, h.size, h.defers, fun t ht => h.keep t fun i o ho hd => absurd (ht i o ho hd) (by rw [hl' i (Array.getElem?_eq_some_iff.1 ho).1]; simp), fun i o t ho _ ht => h.done i o t ho (hl i (Array.getElem?_eq_some_iff.1 ho).1) ht, fun i o j ho _ hj => ?_⟩
    · obtain ⟨p, ⟨hp1, hp2⟩, hp3⟩ := h.at_
      refine ⟨p, ⟨hp1, fun k i hk => ?_⟩, hp3⟩
      have hi := (chain_spec hC hk).1
      rw [← hp2 k i hk, hl i hi, hl' i hi]
    · refine hl' j ?_
      have hj' := hj
      unfold waitsFor at hj
      obtain ⟨e, he, h2⟩ := Array.any_eq_true'.1 hj
      simp only [Bool.and_eq_true, beq_iff_eq] at h2
      have := (tabB_spec hB ho).2 e he
      have hi := (Array.getElem?_eq_some_iff.1 ho).1
      omega
  intro fuel
  induction fuel with
  | zero =>
    intro γ listed a w hs hf h
    have hr : Region.ready .any ops listed = [] := by
      cases hr : Region.ready .any ops listed with
      | nil => rfl
      | cons i r =>
        exfalso
        have hm : i ∈ Region.ready .any ops listed := by rw [hr]; exact List.mem_cons_self
        obtain ⟨h1, o, ho, _⟩ := mem_ready.1 hm
        have hi : i < ops.size := (Array.getElem?_eq_some_iff.1 ho).1
        have hx : listed[i]? = some listed[i] := Array.getElem?_eq_getElem (by omega)
        rw [Array.getD_eq_getD_getElem?, hx] at h1
        have h2 : false ∈ listed.toList.filter (! ·) := List.mem_filter.2 ⟨by rw [← show listed[i] = false from by simpa using h1]; exact Array.getElem_mem_toList (by omega), rfl⟩
        have := List.length_pos_of_mem h2
        omega
    exact ⟨hr, hQ γ a w (all_of h (listed_of_ready_nil hB hs hr))⟩
  | succ fuel ih =>
    intro γ listed a w hs hf h
    refine ⟨fun hr => hQ γ a w (all_of h (listed_of_ready_nil hB hs hr)), fun i hi => ?_⟩
    obtain ⟨h1, o, ho, hall⟩ := mem_ready.1 hi
    have hil : i < ops.size := (Array.getElem?_eq_some_iff.1 ho).1
    have hil' : i < listed.size := by omega
    have hno : listed.getD i false = false := by
      have hx : listed[i]? = some listed[i] := Array.getElem?_eq_getElem hil'
      rw [Array.getD_eq_getD_getElem?, hx] at h1 ⊢
      simpa using h1
    have hwait : ∀ j, waitsFor o j = true → listed.getD j false = true := by
      intro j hj
      unfold waitsFor at hj
      obtain ⟨e, he, h2⟩ := Array.any_eq_true'.1 hj
      simp only [Bool.and_eq_true, beq_iff_eq] at h2
      obtain ⟨h2, h3⟩ := h2
      subst h2
      exact hall e he h3
    have hknow : Knows ops (V γ) a0 i o a := ⟨fun t v hv hn => by rw [h.keep t (kept_spec hn hno h.closed)]; exact hv, fun j p t hp ht hj => h.done j p t hp (hwait j hj) ht, h.defers⟩
    obtain ⟨p, ⟨hp1, hp2⟩, hp3⟩ := h.at_
    obtain ⟨hgd, hk⟩ := hop i o ho
    unfold wpOp
    rw [ho]
    simp only [Region.wanted, hgd, if_true]
    refine .inl ?_
    have next : ∀ u γ' w', (∀ j v, j ≠ i → V γ j v → V γ' j v) → V γ' i u → (∃ p, AtPh S (listed.setIfInBounds i true) p ∧ Ph p γ' w') → wpAny P .any ops Q fuel (listed.setIfInBounds i true) (a.put o.dst u) w' := by
      intro u γ' w' hgg hu hp
      refine ih _ _ _ _ (by simpa using hs) ?_ (h.step hB hn hs ho hwait hgg hu hp)
      have hx : listed[i]? = some listed[i] := Array.getElem?_eq_getElem hil'
      have h2 : listed.toList[i]? = some false := by
        rw [Array.getElem?_toList, hx]
        rw [Array.getD_eq_getD_getElem?, hx] at hno
        simpa using hno
      have h3 := count_set listed.toList i h2
      simp only [Array.toList_setIfInBounds]
      omega
    rcases hk with ⟨k, hk, hw⟩ | ⟨hns, lo, hi', hlo, hhi, hw⟩
    · have hkp : p = k := by
        have e1 := hp2 k i hk
        rw [hno] at e1
        have h1 : ¬ k < p := by
          intro hlt; rw [decide_eq_true hlt] at e1; cases e1
        rcases (chain_spec hC hk).2.1 with h0 | ⟨o', j, ho', hj, hwj⟩
        · omega
        · rw [ho] at ho'; injection ho' with ho'; subst ho'
          have e2 := hp2 (k - 1) j hj
          rw [hwait j hwj] at e2
          have h2 : k - 1 < p := of_decide_eq_true e2.symm
          omega
      subst hkp
      refine Oper.wp_mono (fun a' w' hh => ?_) (hw γ a w hp3 hknow)
      obtain ⟨u, γ', rfl, hgg, hu, hph⟩ := hh
      refine next u γ' w' hgg hu ⟨p + 1, ⟨(List.getElem?_eq_some_iff.1 hk).1, fun m j hm => ?_⟩, hph⟩
      rw [getD_set hil']
      by_cases hij : i = j
      · rw [if_pos hij]
        subst hij
        have hmp : m = p := by
          rcases Nat.lt_trichotomy m p with hlt | heq | hgt
          · exact absurd rfl ((chain_spec hC hk).2.2 m i hlt hm)
          · exact heq
          · exact absurd rfl ((chain_spec hC hm).2.2 p i hgt hk)
        rw [decide_eq_true (by omega)]
      · rw [if_neg hij, hp2 m j hm]
        have hne : m ≠ p := fun e => by subst e; rw [hk] at hm; injection hm with hm; exact hij hm
        by_cases hlt : m < p
        · rw [decide_eq_true hlt, decide_eq_true (by omega)]
        · rw [decide_eq_false hlt, decide_eq_false (by omega)]
    · have hl : lo ≤ p := by
        unfold loB at hlo
        simp only [Bool.or_eq_true, Bool.and_eq_true, beq_iff_eq, decide_eq_true_eq] at hlo
        rcases hlo with h0 | ⟨h0, h2⟩
        · omega
        · rcases Nat.eq_zero_or_pos lo with h3 | h3
          · omega
          · have hj : S[lo - 1]? = some S[lo - 1] := List.getElem?_eq_getElem (by omega)
            rw [show S.getD (lo - 1) 0 = S[lo - 1] by rw [List.getD_eq_getElem?_getD, hj]; rfl] at h2
            have e := hp2 _ _ hj
            rw [hwait _ h2] at e
            have := of_decide_eq_true e.symm
            omega
      have hh' : p ≤ hi' := by
        unfold hiB at hhi
        simp only [Bool.or_eq_true, Bool.and_eq_true, beq_iff_eq, decide_eq_true_eq] at hhi
        rcases hhi with h0 | ⟨h0, h2⟩
        · omega
        · have hj : S[hi']? = some S[hi'] := List.getElem?_eq_getElem h0
          rw [show S.getD hi' 0 = S[hi'] by rw [List.getD_eq_getElem?_getD, hj]; rfl] at h2
          cases hoj : ops[S[hi']]? with
          | none => rw [hoj] at h2; cases h2
          | some o' =>
            rw [hoj] at h2
            have e := hp2 _ _ hj
            by_cases hlt : hi' < p
            · rw [decide_eq_true hlt] at e
              have := h.closed _ o' i hoj e h2
              rw [hno] at this; cases this
            · omega
      refine Oper.wp_mono (fun a' w' hh => ?_) (hw p γ a w hl hh' hp3 hknow)
      obtain ⟨u, rfl, hu, hph⟩ := hh
      refine next u γ w' (fun _ _ _ h => h) hu ⟨p, ⟨hp1, fun m j hm => ?_⟩, hph⟩
      rw [getD_set hil', if_neg (fun e => hns (by subst e; exact List.mem_of_getElem? hm))]
      exact hp2 m j hm
/-- What the region leaves: the frame and the world. -/
structure PhDone {Γ : Type} (ops : Array Oper) (V : Γ → Nat → Value → Prop) (S : List Nat) (Ph : Nat → Γ → World → Prop) (a0 : Act) (γ : Γ) (a : Act) (w : World) : Prop where
  ph : Ph S.length γ w
  size : a.tmps.size = a0.tmps.size
  defers : a.defers = a0.defers
  keep : ∀ t, (∀ (i : Nat) (o : Oper), ops[i]? = some o → o.dst ≠ some t) → a.tmps[t]? = a0.tmps[t]?
  done : ∀ (i : Nat) (o : Oper) t, ops[i]? = some o → o.dst = some t → ∃ u, a.tmps[t]? = some u ∧ V γ i u
def PhsOk {Γ : Type} (P : Program) (ops : Array Oper) (V : Γ → Nat → Value → Prop) (S : List Nat) (Ph : Nat → Γ → World → Prop) (a0 : Act) (Q : Exit → Act → World → Prop) : Nat → List Oper → Prop
  | _, [] => True
  | i, o :: l => PhOk P ops V S Ph a0 Q i o ∧ PhsOk P ops V S Ph a0 Q (i + 1) l
theorem PhsOk.all {Q : Exit → Act → World → Prop} : ∀ {l : List Oper} {k : Nat}, PhsOk P ops V S Ph a0 Q k l → ∀ (i : Nat) (o : Oper), l[i]? = some o → PhOk P ops V S Ph a0 Q (k + i) o
  | [], _, _, i, o, h => by simp at h
  | x :: l, k, hh, 0, o, h => by
    have e : x = o := by simpa using h
    subst e; exact hh.1
  | x :: l, k, hh, i + 1, o, h => by
    have := hh.2.all i o (by simpa using h)
    rwa [show k + (i + 1) = k + 1 + i from by omega]
theorem wp_region_phases {id : Nat} {n : Nat} {l : List Oper} {w0 : World} {Q : Exit → Act → World → Prop} (hm : P.follows .mixedOrders = true) (V : Γ → Nat → Value → Prop) (S : List Nat) (Ph : Nat → Γ → World → Prop) (γ0 : Γ) (hB : tabB l.toArray n = true) (hC : chainB l.toArray S = true) (hn : a0.tmps.size = n)
    (h0 : Ph 0 γ0 w0.drew) (hop : PhsOk P l.toArray V S Ph a0 Q 0 l) (hQ : ∀ γ a w, PhDone l.toArray V S Ph a0 γ a w → Q .normal a w) : (Code.region id l.toArray true).wp P Q a0 w0 := by
  refine wp_region_any hm (wpAny_of_phases hB hC hn (fun i o ho => by
    have := hop.all i o (by simpa using ho)
    rwa [Nat.zero_add] at this) (fun γ a w h => hQ γ a w ?_) l.toArray.size γ0 (Array.replicate l.toArray.size false) a0 _ (by simp) ?_ ?_)
  · have hh := h (Array.replicate l.toArray.size true) (fun i hi => by rw [Array.getD_eq_getD_getElem?, Array.getElem?_replicate, if_pos hi]; rfl)
    obtain ⟨p, ⟨hp1, hp2⟩, hp3⟩ := hh.at_
    have hpl : p = S.length := by
      rcases Nat.eq_zero_or_pos S.length with h0 | h0
      · omega
      · have hk : S[S.length - 1]? = some S[S.length - 1] := List.getElem?_eq_getElem (by omega)
        have e := hp2 _ _ hk
        rw [Array.getD_eq_getD_getElem?, Array.getElem?_replicate, if_pos (chain_spec hC hk).1] at e
        have := of_decide_eq_true e.symm
        omega
    subst hpl
    exact ⟨hp3, hh.size, hh.defers, fun t ht => hh.keep t fun i o ho hd => absurd hd (ht i o ho), fun i o t ho ht => hh.done i o t ho (by rw [Array.getD_eq_getD_getElem?, Array.getElem?_replicate, if_pos (Array.getElem?_eq_some_iff.1 ho).1]; rfl) ht⟩
  · exact Nat.le_trans (List.length_filter_le _ _) (by simp)
  · have hf : ∀ i, (Array.replicate l.toArray.size false).getD i false = false := by
      intro i
      rw [Array.getD_eq_getD_getElem?, Array.getElem?_replicate]
      split <;> rfl
    exact ⟨⟨0, ⟨Nat.zero_le _, fun k i _ => by rw [hf]; rfl⟩, h0⟩, rfl, rfl, fun _ _ => rfl, fun i o t ho hl _ => (by rw [hf] at hl; cases hl), fun i o j ho hl _ => (by rw [hf] at hl; cases hl)⟩
/-- The frame behind the region: what it was, each slot that is written holding what its operation leaves. -/
theorem PhDone.frame {γ : Γ} {a : Act} {w : World} (h : PhDone ops V S Ph a0 γ a w) (ds : List Nat) (hds : ops.toList.filterMap (·.dst) = ds) :
    ∃ f : Nat → Value, a = { tmps := ds.foldl (fun t d => t.setIfInBounds d (f d)) a0.tmps, defers := a0.defers } ∧ ∀ (i : Nat) (o : Oper) t, ops[i]? = some o → o.dst = some t → V γ i (f t) := by
  refine ⟨fun d => (a.tmps[d]?).getD undef, ?_, fun i o t ho ht => by
    obtain ⟨u, h1, h2⟩ := h.done i o t ho ht
    simp only [h1, Option.getD_some]
    exact h2⟩
  obtain ⟨t, d⟩ := a
  have h1 := h.size
  have h2 := h.defers
  have h3 := h.keep
  simp only at h1 h2 h3
  subst h2
  congr 1
  apply Array.ext_getElem?
  intro i
  rw [fold_set (fun d => (t[d]?).getD undef) ds a0.tmps i]
  by_cases hi : i < a0.tmps.size
  · by_cases hm : i ∈ ds
    · rw [if_pos ⟨hm, hi⟩, Array.getElem?_eq_getElem (by omega)]; rfl
    · rw [if_neg (fun h => hm h.1)]
      refine h3 i (fun j o ho hd => hm ?_)
      rw [← hds]
      exact List.mem_filterMap.2 ⟨o, Array.mem_toList_iff.2 (Array.mem_of_getElem? ho), hd⟩
  · rw [if_neg (fun h => hi h.2), Array.getElem?_eq_none (by omega), Array.getElem?_eq_none (by omega)]
end
end Go.Proofs.YtcodhhabfacnjaaGreatDoor
