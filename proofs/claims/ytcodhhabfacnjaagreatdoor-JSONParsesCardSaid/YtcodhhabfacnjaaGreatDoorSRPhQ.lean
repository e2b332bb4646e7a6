/- Of the proof of a statement: RPhQ. -/
import Derived.Test.YtcodhhabfacnjaaGreatDoorSRPh
set_option linter.unusedVariables false
set_option linter.unusedSimpArgs false
/- The law by phases, with guarded operations. -/
namespace Go.Proofs.YtcodhhabfacnjaaGreatDoor
open Go.RowKit
section
variable {Γ : Type} {P : Program} {ops : Array Oper} {V : Γ → Nat → Value → Prop} {a0 : Act} {S : List Nat} {Ph : Nat → Γ → World → Prop}
def tabQ (ops : Array Oper) (n : Nat) : Bool :=
  (List.range ops.size).all fun i => match ops[i]? with
    | some o => (match o.dst with | some t => decide (t < n) && (List.range i).all (fun j => match ops[j]? with | some p => p.dst != some t | none => true) | none => true) && o.after.all (fun e => !Region.binds .any e || decide (e.on < i))
    | none => true
theorem tabQ_spec {n : Nat} (h : tabQ ops n = true) {i : Nat} {o : Oper} (ho : ops[i]? = some o) :
    (∀ t, o.dst = some t → t < n ∧ ∀ (j : Nat) (p : Oper), ops[j]? = some p → j < i → p.dst ≠ some t) ∧ ∀ e ∈ o.after, Region.binds .any e = true → e.on < i := by
  unfold tabQ at h
  rw [List.all_eq_true] at h
  have hi : i < ops.size := (Array.getElem?_eq_some_iff.1 ho).1
  have h1 := h i (List.mem_range.2 hi)
  rw [ho] at h1
  simp only [Bool.and_eq_true] at h1
  obtain ⟨h1, h2⟩ := h1
  refine ⟨fun t ht => ?_, fun e he hb => ?_⟩
  · rw [ht] at h1
    simp only [Bool.and_eq_true, decide_eq_true_eq] at h1
    refine ⟨h1.1, fun j p hp hj => ?_⟩
    have h3 := List.all_eq_true.1 h1.2 j (List.mem_range.2 hj)
    rw [hp] at h3
    simpa using h3
  · have := (Array.all_eq_true_iff_forall_mem.1 h2) e he
    rw [hb] at this
    simpa using this
theorem listedQ_of_ready_nil {n : Nat} (hB : tabQ ops n = true) {listed : Array Bool} (hs : listed.size = ops.size) (hr : Region.ready .any ops listed = []) : ∀ i, i < ops.size → listed.getD i false = true := by
  intro i
  induction i using Nat.strongRecOn with
  | _ i ih =>
    intro hi
    have ho : ops[i]? = some ops[i] := Array.getElem?_eq_getElem hi
    by_cases hl : listed.getD i false = true
    · exact hl
    · exfalso
      have hm : i ∈ Region.ready .any ops listed := mem_ready.2 ⟨by
        have hx : listed[i]? = some listed[i] := Array.getElem?_eq_getElem (by omega)
        rw [Array.getD_eq_getD_getElem?, hx] at hl ⊢
        simpa using hl, _, ho, fun e he hb => ?_⟩
      · rw [hr] at hm; cases hm
      · have hlt := (tabQ_spec hB ho).2 e he hb
        exact ih e.on hlt (by omega)
theorem PInv.stepQ {n : Nat} (hB : tabQ ops n = true) (hn : a0.tmps.size = n) {listed : Array Bool} {a : Act} {w : World} (hs : listed.size = ops.size)
    {γ γ' : Γ} (h : PInv ops V S Ph a0 γ listed a w) {i : Nat} {o : Oper} (ho : ops[i]? = some o) (hw : ∀ j, waitsFor o j = true → listed.getD j false = true) {u : Value} {w' : World} (hgg : ∀ j v, j ≠ i → V γ j v → V γ' j v) (hu : V γ' i u) (hp : ∃ p, AtPh S (listed.setIfInBounds i true) p ∧ Ph p γ' w') :
    PInv ops V S Ph a0 γ' (listed.setIfInBounds i true) (a.put o.dst u) w' := by
  have hi : i < ops.size := (Array.getElem?_eq_some_iff.1 ho).1
  have hput : ∀ t, o.dst ≠ some t → (a.put o.dst u).tmps[t]? = a.tmps[t]? := by
    intro t ht
    unfold Act.put
    cases hd : o.dst with
    | none => rfl
    | some d =>
      have hne : d ≠ t := fun e => ht (by rw [hd, e])
      simp [Array.getElem?_setIfInBounds, hne]
  refine ⟨hp, ?_, ?_, fun t ht => ?_, fun j p t hp hl ht => ?_, fun j p m hp hl hm => ?_⟩
  · unfold Act.put; split <;> simp [h.size]
  · unfold Act.put; split <;> simp [h.defers]
  · rw [hput t (fun hd => by
      have := ht i o ho hd
      rw [getD_set (by omega), if_pos rfl] at this; cases this)]
    exact h.keep t fun j p hp hd => by
      have := ht j p hp hd
      rw [getD_set (by omega)] at this
      split at this
      · cases this
      · exact this
  · rw [getD_set (by omega)] at hl
    by_cases hij : i = j
    · subst hij
      rw [ho] at hp; injection hp with hp; subst hp
      have hlt := ((tabQ_spec hB ho).1 t ht).1
      refine ⟨u, ?_, hu⟩
      unfold Act.put
      rw [ht]
      simp only [Array.getElem?_setIfInBounds]
      rw [if_pos trivial, if_pos (by rw [h.size, hn]; exact hlt)]
    · rw [if_neg hij] at hl
      obtain ⟨u', h1, h2⟩ := h.done j p t hp hl ht
      refine ⟨u', ?_, hgg _ _ (fun e => hij e.symm) h2⟩
      rw [hput t ?_]; exact h1
      intro e
      rcases Nat.lt_or_gt_of_ne hij with hlt | hlt
      · exact ((tabQ_spec hB hp).1 t ht).2 i o ho hlt e
      · exact ((tabQ_spec hB ho).1 t e).2 j p hp hlt ht
  · rw [getD_set (by omega)] at hl ⊢
    by_cases him : i = m
    · rw [if_pos him]
    · rw [if_neg him]
      by_cases hij : i = j
      · subst hij
        rw [ho] at hp; injection hp with hp; subst hp
        exact hw m hm
      · rw [if_neg hij] at hl
        exact h.closed j p m hp hl hm
/-- An operation, if it is wanted; else its slot holds nothing. -/
def wantWp (P : Program) (ops : Array Oper) (o : Oper) (a : Act) (w : World) (K : Act → World → Prop) (Q : Exit → Act → World → Prop) : Prop :=
  if Region.wanted o (yielded ops a.tmps) = true then o.wp P a w K Q else K (a.put o.dst undef) w
theorem wantWp_mono {P : Program} {ops : Array Oper} {o : Oper} {a : Act} {w : World} {K K' : Act → World → Prop} {Q : Exit → Act → World → Prop} (h : ∀ a w, K a w → K' a w) (hh : wantWp P ops o a w K Q) :
    (if Region.wanted o (yielded ops a.tmps) = true then o.wp P a w K' Q ∨ (o.asks P a w ∧ LetsOut Q) else K' (a.put o.dst undef) w) := by
  unfold wantWp at hh
  split at hh
  · rename_i hw
    rw [if_pos hw]
    exact .inl (Oper.wp_mono h hh)
  · rename_i hw
    rw [if_neg hw]
    exact h _ _ hh
/-- What is asked of one operation. -/
def PhOkQ {Γ : Type} (P : Program) (ops : Array Oper) (V : Γ → Nat → Value → Prop) (S : List Nat) (Ph : Nat → Γ → World → Prop) (a0 : Act) (Q : Exit → Act → World → Prop) (i : Nat) (o : Oper) : Prop :=
  ((∃ k, S[k]? = some i ∧ ∀ γ a w, Ph k γ w → Knows ops (V γ) a0 i o a → wantWp P ops o a w (fun a' w' => ∃ u γ', a' = a.put o.dst u ∧ (∀ j v, j ≠ i → V γ j v → V γ' j v) ∧ V γ' i u ∧ Ph (k + 1) γ' w') Q) ∨
    (i ∉ S ∧ ∃ lo hi, loB S o lo = true ∧ hiB ops S i hi = true ∧ ∀ p γ a w, lo ≤ p → p ≤ hi → Ph p γ w → Knows ops (V γ) a0 i o a → wantWp P ops o a w (fun a' w' => ∃ u γ', a' = a.put o.dst u ∧ (∀ j v, j ≠ i → V γ j v → V γ' j v) ∧ V γ' i u ∧ Ph p γ' w') Q))
theorem wpAny_of_phasesQ {n : Nat} {Q : Exit → Act → World → Prop} (hB : tabQ ops n = true) (hC : chainB ops S = true) (hn : a0.tmps.size = n)
    (hop : ∀ (i : Nat) (o : Oper), ops[i]? = some o → PhOkQ P ops V S Ph a0 Q i o)
    (hQ : ∀ γ a w, (∀ listed, (∀ i, i < ops.size → listed.getD i false = true) → PInv ops V S Ph a0 γ listed a w) → Q .normal a w) :
    ∀ (fuel : Nat) (γ : Γ) (listed : Array Bool) (a : Act) (w : World), listed.size = ops.size → (listed.toList.filter (! ·)).length ≤ fuel → PInv ops V S Ph a0 γ listed a w → wpAny P .any ops Q fuel listed a w := by
  have all_of : ∀ {γ : Γ} {listed : Array Bool} {a : Act} {w : World}, PInv ops V S Ph a0 γ listed a w → (∀ i, i < ops.size → listed.getD i false = true) → ∀ l' : Array Bool, (∀ i, i < ops.size → l'.getD i false = true) → PInv ops V S Ph a0 γ l' a w := by
    intro γ listed a w h hl l' hl'
    refine ⟨?_, h.size, h.defers, fun t ht => h.keep t fun i o ho hd => absurd (ht i o ho hd) (by rw [hl' i (Array.getElem?_eq_some_iff.1 ho).1]; simp), fun i o t ho _ ht => h.done i o t ho (hl i (Array.getElem?_eq_some_iff.1 ho).1) ht, fun i o j ho _ hj => ?_⟩
    · obtain ⟨p, ⟨hp1, hp2⟩, hp3⟩ := h.at_
      refine ⟨p, ⟨hp1, fun k i hk => ?_⟩, hp3⟩
      have hi := (chain_spec hC hk).1
      rw [← hp2 k i hk, hl i hi, hl' i hi]
    · refine hl' j ?_
      have hj' := hj
      unfold waitsFor at hj
      obtain ⟨e, he, h2⟩ := Array.any_eq_true'.1 hj
      simp only [Bool.and_eq_true, beq_iff_eq] at h2
      have := (tabQ_spec hB ho).2 e he h2.2
      have hi := (Array.getElem?_eq_some_iff.1 ho).1
      omega
  intro fuel
  induction fuel with
  | zero =>
    intro γ listed a w hs hf h
    have hr : Region.ready .any ops listed = [] := by
      cases hr : Region.ready .any ops listed with
      | nil => rfl
      | cons i r =>
        exfalso
        have hm : i ∈ Region.ready .any ops listed := by rw [hr]; exact List.mem_cons_self
        obtain ⟨h1, o, ho, _⟩ := mem_ready.1 hm
        have hi : i < ops.size := (Array.getElem?_eq_some_iff.1 ho).1
        have hx : listed[i]? = some listed[i] := Array.getElem?_eq_getElem (by omega)
        rw [Array.getD_eq_getD_getElem?, hx] at h1
        have h2 : false ∈ listed.toList.filter (! ·) := List.mem_filter.2 ⟨by rw [← show listed[i] = false from by simpa using h1]; exact Array.getElem_mem_toList (by omega), rfl⟩
        have := List.length_pos_of_mem h2
        omega
    exact ⟨hr, hQ γ a w (all_of h (listedQ_of_ready_nil hB hs hr))⟩
  | succ fuel ih =>
    intro γ listed a w hs hf h
    refine ⟨fun hr => hQ γ a w (all_of h (listedQ_of_ready_nil hB hs hr)), fun i hi => ?_⟩
    obtain ⟨h1, o, ho, hall⟩ := mem_ready.1 hi
    have hil : i < ops.size := (Array.getElem?_eq_some_iff.1 ho).1
    have hil' : i < listed.size := by omega
    have hno : listed.getD i false = false := by
      have hx : listed[i]? = some listed[i] := Array.getElem?_eq_getElem hil'
      rw [Array.getD_eq_getD_getElem?, hx] at h1 ⊢
      simpa using h1
    have hwait : ∀ j, waitsFor o j = true → listed.getD j false = true := by
      intro j hj
      unfold waitsFor at hj
      obtain ⟨e, he, h2⟩ := Array.any_eq_true'.1 hj
      simp only [Bool.and_eq_true, beq_iff_eq] at h2
      obtain ⟨h2, h3⟩ := h2
      subst h2
      exact hall e he h3
    have hknow : Knows ops (V γ) a0 i o a := ⟨fun t v hv hn => by rw [h.keep t (kept_spec hn hno h.closed)]; exact hv, fun j p t hp ht hj => h.done j p t hp (hwait j hj) ht, h.defers⟩
    obtain ⟨p, ⟨hp1, hp2⟩, hp3⟩ := h.at_
    have hk := hop i o ho
    unfold wpOp
    rw [ho]
    dsimp only
    have next : ∀ u γ' w', (∀ j v, j ≠ i → V γ j v → V γ' j v) → V γ' i u → (∃ p, AtPh S (listed.setIfInBounds i true) p ∧ Ph p γ' w') → wpAny P .any ops Q fuel (listed.setIfInBounds i true) (a.put o.dst u) w' := by
      intro u γ' w' hgg hu hp
      refine ih _ _ _ _ (by simpa using hs) ?_ (h.stepQ hB hn hs ho hwait hgg hu hp)
      have hx : listed[i]? = some listed[i] := Array.getElem?_eq_getElem hil'
      have h2 : listed.toList[i]? = some false := by
        rw [Array.getElem?_toList, hx]
        rw [Array.getD_eq_getD_getElem?, hx] at hno
        simpa using hno
      have h3 := count_set listed.toList i h2
      simp only [Array.toList_setIfInBounds]
      omega
    rcases hk with ⟨k, hk, hw⟩ | ⟨hns, lo, hi', hlo, hhi, hw⟩
    · have hkp : p = k := by
        have e1 := hp2 k i hk
        rw [hno] at e1
        have h1 : ¬ k < p := by
          intro hlt; rw [decide_eq_true hlt] at e1; cases e1
        rcases (chain_spec hC hk).2.1 with h0 | ⟨o', j, ho', hj, hwj⟩
        · omega
        · rw [ho] at ho'; injection ho' with ho'; subst ho'
          have e2 := hp2 (k - 1) j hj
          rw [hwait j hwj] at e2
          have h2 : k - 1 < p := of_decide_eq_true e2.symm
          omega
      subst hkp
      refine wantWp_mono (fun a' w' hh => ?_) (hw γ a w hp3 hknow)
      obtain ⟨u, γ', rfl, hgg, hu, hph⟩ := hh
      refine next u γ' w' hgg hu ⟨p + 1, ⟨(List.getElem?_eq_some_iff.1 hk).1, fun m j hm => ?_⟩, hph⟩
      rw [getD_set hil']
      by_cases hij : i = j
      · rw [if_pos hij]
        subst hij
        have hmp : m = p := by
          rcases Nat.lt_trichotomy m p with hlt | heq | hgt
          · exact absurd rfl ((chain_spec hC hk).2.2 m i hlt hm)
          · exact heq
          · exact absurd rfl ((chain_spec hC hm).2.2 p i hgt hk)
        rw [decide_eq_true (by omega)]
      · rw [if_neg hij, hp2 m j hm]
        have hne : m ≠ p := fun e => by subst e; rw [hk] at hm; injection hm with hm; exact hij hm
        by_cases hlt : m < p
        · rw [decide_eq_true hlt, decide_eq_true (by omega)]
        · rw [decide_eq_false hlt, decide_eq_false (by omega)]
    · have hl : lo ≤ p := by
        unfold loB at hlo
        simp only [Bool.or_eq_true, Bool.and_eq_true, beq_iff_eq, decide_eq_true_eq] at hlo
        rcases hlo with h0 | ⟨h0, h2⟩
        · omega
        · rcases Nat.eq_zero_or_pos lo with h3 | h3
          · omega
          · have hj : S[lo - 1]? = some S[lo - 1] := List.getElem?_eq_getElem (by omega)
            rw [show S.getD (lo - 1) 0 = S[lo - 1] by rw [List.getD_eq_getElem?_getD, hj]; rfl] at h2
            have e := hp2 _ _ hj
            rw [hwait _ h2] at e
            have := of_decide_eq_true e.symm
            omega
      have hh' : p ≤ hi' := by
        unfold hiB at hhi
        simp only [Bool.or_eq_true, Bool.and_eq_true, beq_iff_eq, decide_eq_true_eq] at hhi
        rcases hhi with h0 | ⟨h0, h2⟩
        · omega
        · have hj : S[hi']? = some S[hi'] := List.getElem?_eq_getElem h0
          rw [show S.getD hi' 0 = S[hi'] by rw [List.getD_eq_getElem?_getD, hj]; rfl] at h2
          cases hoj : ops[S[hi']]? with
          | none => rw [hoj] at h2; cases h2
          | some o' =>
            rw [hoj] at h2
            have e := hp2 _ _ hj
            by_cases hlt : hi' < p
            · rw [decide_eq_true hlt] at e
              have := h.closed _ o' i hoj e h2
              rw [hno] at this; cases this
            · omega
      refine wantWp_mono (fun a' w' hh => ?_) (hw p γ a w hl hh' hp3 hknow)
      obtain ⟨u, γ', rfl, hgg, hu, hph⟩ := hh
      refine next u γ' w' hgg hu ⟨p, ⟨hp1, fun m j hm => ?_⟩, hph⟩
      rw [getD_set hil', if_neg (fun e => hns (by subst e; exact List.mem_of_getElem? hm))]
      exact hp2 m j hm
/-- An operation that stands free and does not turn the world. -/
theorem okQ {Q : Exit → Act → World → Prop} {i : Nat} {o : Oper} (lo hi : Nat) (h : ∀ p γ a w, lo ≤ p → p ≤ hi → Ph p γ w → Knows ops (V γ) a0 i o a → o.wp P a w (fun a' w' => ∃ u γ', a' = a.put o.dst u ∧ (∀ j v, j ≠ i → V γ j v → V γ' j v) ∧ V γ' i u ∧ Ph p γ' w') Q)
    (h0 : i ∉ S := by decide) (h1 : loB S o lo = true := by decide +kernel) (h2 : hiB ops S i hi = true := by decide +kernel) (hg : o.guard = none := by rfl) : PhOkQ P ops V S Ph a0 Q i o :=
  .inr ⟨h0, lo, hi, h1, h2, fun p γ a w hl hh hp hk => by
    unfold wantWp Region.wanted
    rw [hg, if_pos rfl]
    exact h p γ a w hl hh hp hk⟩
theorem ok1 {Q : Exit → Act → World → Prop} {i : Nat} {o : Oper} (lo hi j t : Nat) {p : Oper} {v u : Value} (h1 : ops[j]? = some p) (h2 : p.dst = some t) (hv : ∀ γ x, V γ j x → x = v) (hu : ∀ γ, V γ i u)
    (he : ∀ (a : Act) (w : World) (K : Act → World → Prop), a.tmps[t]? = some v → K (a.put o.dst u) w → o.wp P a w K Q := by intro a w K h hk; simp [go_sem, Oper.wp, execOp, Act.eval, h]; exact hk)
    (h0 : i ∉ S := by decide) (hl : loB S o lo = true := by decide +kernel) (hh : hiB ops S i hi = true := by decide +kernel) (h3 : waitsFor o j = true := by decide +kernel) (hg : o.guard = none := by rfl) : PhOkQ P ops V S Ph a0 Q i o :=
  okQ lo hi (fun p γ a w _ _ hp hk => he a w _ (by obtain ⟨x, hx, hV⟩ := hk.g j t h1 h2 h3; rw [hx, hv γ x hV]) ⟨u, γ, rfl, fun _ _ _ h => h, hu γ, hp⟩) h0 hl hh hg
theorem ok0 {Q : Exit → Act → World → Prop} {i : Nat} {o : Oper} (lo hi t : Nat) {v u : Value} (h1 : a0.tmps[t]? = some v) (hu : ∀ γ, V γ i u)
    (he : ∀ (a : Act) (w : World) (K : Act → World → Prop), a.tmps[t]? = some v → K (a.put o.dst u) w → o.wp P a w K Q := by intro a w K h hk; simp [go_sem, Oper.wp, execOp, Act.eval, h]; exact hk)
    (h0 : i ∉ S := by decide) (hl : loB S o lo = true := by decide +kernel) (hh : hiB ops S i hi = true := by decide +kernel) (h3 : waitAllB ops i t = true := by decide +kernel) (hg : o.guard = none := by rfl) : PhOkQ P ops V S Ph a0 Q i o :=
  okQ lo hi (fun p γ a w _ _ hp hk => he a w _ (hk.k t h1 h3) ⟨u, γ, rfl, fun _ _ _ h => h, hu γ, hp⟩) h0 hl hh hg
def PhsOkQ {Γ : Type} (P : Program) (ops : Array Oper) (V : Γ → Nat → Value → Prop) (S : List Nat) (Ph : Nat → Γ → World → Prop) (a0 : Act) (Q : Exit → Act → World → Prop) : Nat → List Oper → Prop
  | _, [] => True
  | i, o :: l => PhOkQ P ops V S Ph a0 Q i o ∧ PhsOkQ P ops V S Ph a0 Q (i + 1) l
theorem PhsOkQ.all {Q : Exit → Act → World → Prop} : ∀ {l : List Oper} {k : Nat}, PhsOkQ P ops V S Ph a0 Q k l → ∀ (i : Nat) (o : Oper), l[i]? = some o → PhOkQ P ops V S Ph a0 Q (k + i) o
  | [], _, _, i, o, h => by simp at h
  | x :: l, k, hh, 0, o, h => by
    have e : x = o := by simpa using h
    subst e; exact hh.1
  | x :: l, k, hh, i + 1, o, h => by
    have := hh.2.all i o (by simpa using h)
    rwa [show k + (i + 1) = k + 1 + i from by omega]
theorem wp_region_phasesQ {id : Nat} {n : Nat} {l : List Oper} {w0 : World} {Q : Exit → Act → World → Prop} (hm : P.follows .mixedOrders = true) (V : Γ → Nat → Value → Prop) (S : List Nat) (Ph : Nat → Γ → World → Prop) (γ0 : Γ) (hB : tabQ l.toArray n = true) (hC : chainB l.toArray S = true) (hn : a0.tmps.size = n)
    (h0 : Ph 0 γ0 w0.drew) (hop : PhsOkQ P l.toArray V S Ph a0 Q 0 l) (hQ : ∀ γ a w, PhDone l.toArray V S Ph a0 γ a w → Q .normal a w) : (Code.region id l.toArray true).wp P Q a0 w0 := by
  refine wp_region_any hm (wpAny_of_phasesQ hB hC hn (fun i o ho => by
    have := hop.all i o (by simpa using ho)
    rwa [Nat.zero_add] at this) (fun γ a w h => hQ γ a w ?_) l.toArray.size γ0 (Array.replicate l.toArray.size false) a0 _ (by simp) ?_ ?_)
  · have hh := h (Array.replicate l.toArray.size true) (fun i hi => by rw [Array.getD_eq_getD_getElem?, Array.getElem?_replicate, if_pos hi]; rfl)
    obtain ⟨p, ⟨hp1, hp2⟩, hp3⟩ := hh.at_
    have hpl : p = S.length := by
      rcases Nat.eq_zero_or_pos S.length with h0 | h0
      · omega
      · have hk : S[S.length - 1]? = some S[S.length - 1] := List.getElem?_eq_getElem (by omega)
        have e := hp2 _ _ hk
        rw [Array.getD_eq_getD_getElem?, Array.getElem?_replicate, if_pos (chain_spec hC hk).1] at e
        have := of_decide_eq_true e.symm
        omega
    subst hpl
    exact ⟨hp3, hh.size, hh.defers, fun t ht => hh.keep t fun i o ho hd => absurd hd (ht i o ho), fun i o t ho ht => hh.done i o t ho (by rw [Array.getD_eq_getD_getElem?, Array.getElem?_replicate, if_pos (Array.getElem?_eq_some_iff.1 ho).1]; rfl) ht⟩
  · exact Nat.le_trans (List.length_filter_le _ _) (by simp)
  · have hf : ∀ i, (Array.replicate l.toArray.size false).getD i false = false := by
      intro i
      rw [Array.getD_eq_getD_getElem?, Array.getElem?_replicate]
      split <;> rfl
    exact ⟨⟨0, ⟨Nat.zero_le _, fun k i _ => by rw [hf]; rfl⟩, h0⟩, rfl, rfl, fun _ _ => rfl, fun i o t ho hl _ => (by rw [hf] at hl; cases hl), fun i o j ho hl _ => (by rw [hf] at hl; cases hl)⟩
theorem rq {id : Nat} {l : List Oper} {w0 : World} {Q : Exit → Act → World → Prop} (n : Nat) (V : Γ → Nat → Value → Prop) (S : List Nat) (Ph : Nat → Γ → World → Prop) (γ0 : Γ)
    (h0 : Ph 0 γ0 w0.drew) (hop : PhsOkQ P l.toArray V S Ph a0 Q 0 l) (hQ : ∀ γ a w, PhDone l.toArray V S Ph a0 γ a w → Q .normal a w) (hm : P.follows .mixedOrders = true := by kernel_rfl) (hB : tabQ l.toArray n = true := by decide +kernel) (hC : chainB l.toArray S = true := by decide +kernel) (hn : a0.tmps.size = n := by rfl) : (Code.region id l.toArray true).wp P Q a0 w0 :=
  wp_region_phasesQ hm V S Ph γ0 hB hC hn h0 hop hQ
end
theorem wantWp_free {P : Program} {ops : Array Oper} {o : Oper} {a : Act} {w : World} {K : Act → World → Prop} {Q : Exit → Act → World → Prop} (h : o.guard = none) (ht : o.wp P a w K Q) : wantWp P ops o a w K Q := by
  unfold wantWp Region.wanted
  rw [h, if_pos rfl]
  exact ht
end Go.Proofs.YtcodhhabfacnjaaGreatDoor
