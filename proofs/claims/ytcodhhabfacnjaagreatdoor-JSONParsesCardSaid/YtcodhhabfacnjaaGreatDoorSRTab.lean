/- Of the proof of a statement: RTab. -/
import Derived.Orders
import Derived.Below
set_option linter.unusedVariables false
set_option linter.unusedSimpArgs false
/- A region that draws its order, by a table: what each operation leaves is said of its value and the world, and stays true while blocks are laid behind. Whatever order the tape picks. -/
namespace Go.Proofs.YtcodhhabfacnjaaGreatDoor
open Go.RowKit
/-- From w on nothing that was there has turned. -/
abbrev Ext (w w' : World) : Prop := Below w.heap.size w w'
theorem Ext.trans {a b c : World} (h : Ext a b) (k : Ext b c) : Ext a c := Below.trans h (k.mono h.size)
section
variable {P : Program} {ops : Array Oper} {V : Nat → Value → World → Prop} {a0 : Act} {w0 : World}
/-- Where the region stands: which operations have come up, the frame, the world. -/
structure RInv (ops : Array Oper) (V : Nat → Value → World → Prop) (a0 : Act) (w0 : World) (listed : Array Bool) (a : Act) (w : World) : Prop where
  le : Ext w0 w
  size : a.tmps.size = a0.tmps.size
  defers : a.defers = a0.defers
  keep : ∀ t, (∀ (i : Nat) (o : Oper), ops[i]? = some o → o.dst ≠ some t) → a.tmps[t]? = a0.tmps[t]?
  done : ∀ (i : Nat) (o : Oper) t, ops[i]? = some o → listed.getD i false = true → o.dst = some t → ∃ u, a.tmps[t]? = some u ∧ V i u w
/-- No two operations write one slot; each is a slot of the frame; each waits for earlier ones alone. -/
def tabB (ops : Array Oper) (n : Nat) : Bool :=
  (List.range ops.size).all fun i => match ops[i]? with
    | some o => (match o.dst with | some t => decide (t < n) && (List.range i).all (fun j => match ops[j]? with | some p => p.dst != some t | none => true) | none => true) && o.after.all (fun e => decide (e.on < i))
    | none => true
theorem tabB_spec {n : Nat} (h : tabB ops n = true) {i : Nat} {o : Oper} (ho : ops[i]? = some o) :
    (∀ t, o.dst = some t → t < n ∧ ∀ (j : Nat) (p : Oper), ops[j]? = some p → j < i → p.dst ≠ some t) ∧ ∀ e ∈ o.after, e.on < i := by
  unfold tabB at h
  rw [List.all_eq_true] at h
  have hi : i < ops.size := (Array.getElem?_eq_some_iff.1 ho).1
  have h1 := h i (List.mem_range.2 hi)
  rw [ho] at h1
  simp only [Bool.and_eq_true] at h1
  obtain ⟨h1, h2⟩ := h1
  refine ⟨fun t ht => ?_, fun e he => ?_⟩
  · rw [ht] at h1
    simp only [Bool.and_eq_true, decide_eq_true_eq] at h1
    refine ⟨h1.1, fun j p hp hj => ?_⟩
    have h3 := List.all_eq_true.1 h1.2 j (List.mem_range.2 hj)
    rw [hp] at h3
    simpa using h3
  · have := (Array.all_eq_true_iff_forall_mem.1 h2) e he
    simpa using this
/-- All have come up where none is ready. -/
theorem listed_of_ready_nil {n : Nat} (hB : tabB ops n = true) {listed : Array Bool} (hs : listed.size = ops.size) (hr : Region.ready .any ops listed = []) : ∀ i, i < ops.size → listed.getD i false = true := by
  intro i
  induction i using Nat.strongRecOn with
  | _ i ih =>
    intro hi
    have ho : ops[i]? = some ops[i] := Array.getElem?_eq_getElem hi
    by_cases hl : listed.getD i false = true
    · exact hl
    · exfalso
      have hm : i ∈ Region.ready .any ops listed := mem_ready.2 ⟨by
        have hx : listed[i]? = some listed[i] := Array.getElem?_eq_getElem (by omega)
        rw [Array.getD_eq_getD_getElem?, hx] at hl ⊢
        simpa using hl, _, ho, fun e he _ => ?_⟩
      · rw [hr] at hm; cases hm
      · have hlt := (tabB_spec hB ho).2 e he
        exact ih e.on hlt (by omega)
/-- No operation writes slot t. -/
def noDst (ops : Array Oper) (t : Tmp) : Bool := ops.all fun o => o.dst != some t
theorem noDst_spec {t : Tmp} (h : noDst ops t = true) (i : Nat) (o : Oper) (ho : ops[i]? = some o) : o.dst ≠ some t := by
  have := (Array.all_eq_true_iff_forall_mem.1 h) o (Array.mem_of_getElem? ho)
  simpa using this
/-- o waits for number j. -/
def waitsFor (o : Oper) (j : Nat) : Bool := o.after.any fun e => e.on == j && Region.binds .any e
/-- What is asked of one operation. -/
def OpOk (P : Program) (ops : Array Oper) (V : Nat → Value → World → Prop) (a0 : Act) (w0 : World) (Q : Exit → Act → World → Prop) (i : Nat) (o : Oper) : Prop :=
  ∀ (a : Act) (w : World), Ext w0 w → (∀ t v, a0.tmps[t]? = some v → noDst ops t = true → a.tmps[t]? = some v) →
    (∀ (j : Nat) (p : Oper) t, ops[j]? = some p → p.dst = some t → waitsFor o j = true → ∃ u, a.tmps[t]? = some u ∧ V j u w) →
    o.guard = none ∧ o.wp P a w (fun a' w' => ∃ u, a' = a.put o.dst u ∧ Ext w w' ∧ V i u w') Q
theorem RInv.step {n : Nat} (hB : tabB ops n = true) (hn : a0.tmps.size = n) (hV : ∀ i u w w', V i u w → Ext w w' → V i u w') {listed : Array Bool} {a : Act} {w : World} (hs : listed.size = ops.size)
    (h : RInv ops V a0 w0 listed a w) {i : Nat} {o : Oper} (ho : ops[i]? = some o) {u : Value} {w' : World} (hw : Ext w w') (hu : V i u w') : RInv ops V a0 w0 (listed.setIfInBounds i true) (a.put o.dst u) w' := by
  have hi : i < ops.size := (Array.getElem?_eq_some_iff.1 ho).1
  have hput : ∀ t, o.dst ≠ some t → (a.put o.dst u).tmps[t]? = a.tmps[t]? := by
    intro t ht
    unfold Act.put
    cases hd : o.dst with
    | none => rfl
    | some d =>
      have hne : d ≠ t := fun e => ht (by rw [hd, e])
      simp [Array.getElem?_setIfInBounds, hne]
  refine ⟨h.le.trans hw, ?_, ?_, fun t ht => ?_, fun j p t hp hl ht => ?_⟩
  · unfold Act.put; split <;> simp [h.size]
  · unfold Act.put; split <;> simp [h.defers]
  · rw [hput t (ht i o ho)]; exact h.keep t ht
  · by_cases hij : i = j
    · subst hij
      rw [ho] at hp; injection hp with hp; subst hp
      have hlt := ((tabB_spec hB ho).1 t ht).1
      refine ⟨u, ?_, hu⟩
      unfold Act.put
      rw [ht]
      simp only [Array.getElem?_setIfInBounds]
      rw [if_pos trivial, if_pos (by rw [h.size, hn]; exact hlt)]
    · have hl' : listed.getD j false = true := by
        rw [Array.getD_eq_getD_getElem?] at hl ⊢
        rw [Array.getElem?_setIfInBounds, if_neg hij] at hl
        exact hl
      obtain ⟨u', h1, h2⟩ := h.done j p t hp hl' ht
      refine ⟨u', ?_, hV _ _ _ _ h2 hw⟩
      rw [hput t ?_]; exact h1
      intro e
      rcases Nat.lt_or_gt_of_ne hij with hlt | hlt
      · exact ((tabB_spec hB hp).1 t ht).2 i o ho hlt e
      · exact ((tabB_spec hB ho).1 t e).2 j p hp hlt ht
theorem count_set : ∀ (l : List Bool) (i : Nat), l[i]? = some false → ((l.set i true).filter (! ·)).length + 1 = (l.filter (! ·)).length
  | [], i, h => by simp at h
  | x :: l, 0, h => by
    have hx : x = false := by simpa using h
    subst hx; simp
  | x :: l, i + 1, h => by
    have ih := count_set l i (by simpa using h)
    cases x <;> simp <;> omega
theorem wpAny_of_table {n : Nat} {Q : Exit → Act → World → Prop} (hB : tabB ops n = true) (hn : a0.tmps.size = n) (hV : ∀ i u w w', V i u w → Ext w w' → V i u w')
    (hop : ∀ (i : Nat) (o : Oper), ops[i]? = some o → OpOk P ops V a0 w0 Q i o)
    (hQ : ∀ a w, (∀ listed, (∀ i, i < ops.size → listed.getD i false = true) → RInv ops V a0 w0 listed a w → Q .normal a w)) :
    ∀ (fuel : Nat) (listed : Array Bool) (a : Act) (w : World), listed.size = ops.size → (listed.toList.filter (! ·)).length ≤ fuel → RInv ops V a0 w0 listed a w → wpAny P .any ops Q fuel listed a w
  | 0, listed, a, w, hs, hf, h => by
    have hr : Region.ready .any ops listed = [] := by
      cases hr : Region.ready .any ops listed with
      | nil => rfl
      | cons i r =>
        exfalso
        have hm : i ∈ Region.ready .any ops listed := by rw [hr]; exact List.mem_cons_self
        obtain ⟨h1, o, ho, _⟩ := mem_ready.1 hm
        have hi : i < ops.size := (Array.getElem?_eq_some_iff.1 ho).1
        have hx : listed[i]? = some listed[i] := Array.getElem?_eq_getElem (by omega)
        rw [Array.getD_eq_getD_getElem?, hx] at h1
        have h2 : false ∈ listed.toList.filter (! ·) := List.mem_filter.2 ⟨by rw [← show listed[i] = false from by simpa using h1]; exact Array.getElem_mem_toList (by omega), rfl⟩
        have := List.length_pos_of_mem h2
        omega
    exact ⟨hr, hQ a w listed (listed_of_ready_nil hB hs hr) h⟩
  | fuel + 1, listed, a, w, hs, hf, h => by
    refine ⟨fun hr => hQ a w listed (listed_of_ready_nil hB hs hr) h, fun i hi => ?_⟩
    obtain ⟨h1, o, ho, hall⟩ := mem_ready.1 hi
    have hil : i < ops.size := (Array.getElem?_eq_some_iff.1 ho).1
    have hk := hop i o ho a w h.le (fun t v hv hn => by rw [h.keep t (fun i o ho => noDst_spec hn i o ho)]; exact hv) (fun j p t hp ht hj => by
      unfold waitsFor at hj
      obtain ⟨e, he, h2⟩ := Array.any_eq_true'.1 hj
      simp only [Bool.and_eq_true, beq_iff_eq] at h2
      obtain ⟨h2, h3⟩ := h2
      subst h2
      exact h.done e.on p t hp (hall e he h3) ht)
    unfold wpOp
    rw [ho]
    simp only [Region.wanted, hk.1, if_true]
    refine .inl (Oper.wp_mono (fun a' w' hh => ?_) hk.2)
    obtain ⟨u, rfl, hw, hu⟩ := hh
    refine wpAny_of_table hB hn hV hop hQ fuel _ _ _ (by simpa using hs) ?_ (h.step hB hn hV hs ho hw hu)
    have hx : listed[i]? = some listed[i] := Array.getElem?_eq_getElem (by omega)
    rw [Array.getD_eq_getD_getElem?, hx] at h1
    have h2 : listed.toList[i]? = some false := by
      rw [Array.getElem?_toList, hx]
      simpa using h1
    have h3 := count_set listed.toList i h2
    simp only [Array.toList_setIfInBounds]
    omega
/-- What the region leaves: the frame and the world. -/
structure RDone (ops : Array Oper) (V : Nat → Value → World → Prop) (a0 : Act) (w0 : World) (a : Act) (w : World) : Prop where
  le : Ext w0 w
  size : a.tmps.size = a0.tmps.size
  defers : a.defers = a0.defers
  keep : ∀ t, (∀ (i : Nat) (o : Oper), ops[i]? = some o → o.dst ≠ some t) → a.tmps[t]? = a0.tmps[t]?
  done : ∀ (i : Nat) (o : Oper) t, ops[i]? = some o → o.dst = some t → ∃ u, a.tmps[t]? = some u ∧ V i u w
theorem wp_region_table {id : Nat} {n : Nat} {Q : Exit → Act → World → Prop} (hm : P.follows .mixedOrders = true) (V : Nat → Value → World → Prop) (hB : tabB ops n = true) (hn : a0.tmps.size = n) (hV : ∀ i u w w', V i u w → Ext w w' → V i u w')
    (hop : ∀ (i : Nat) (o : Oper), ops[i]? = some o → OpOk P ops V a0 w0 Q i o) (hQ : ∀ a w, RDone ops V a0 w0 a w → Q .normal a w) : (Code.region id ops true).wp P Q a0 w0 := by
  refine wp_region_any hm (wpAny_of_table hB hn hV hop (fun a w listed hl h => hQ a w ⟨h.le, h.size, h.defers, h.keep, fun i o t ho ht => h.done i o t ho (hl i (Array.getElem?_eq_some_iff.1 ho).1) ht⟩) ops.size (Array.replicate ops.size false) a0 _ (by simp) ?_ ?_)
  · exact Nat.le_trans (List.length_filter_le _ _) (by simp)
  · refine ⟨⟨rfl, rfl, rfl, Nat.le_refl _, fun _ _ => rfl⟩, rfl, rfl, fun _ _ => rfl, fun i o t ho hl _ => ?_⟩
    rw [Array.getD_eq_getD_getElem?, Array.getElem?_replicate] at hl
    split at hl <;> simp at hl
/-- The obligations, one by one. -/
def OpsOk (P : Program) (ops : Array Oper) (V : Nat → Value → World → Prop) (a0 : Act) (w0 : World) (Q : Exit → Act → World → Prop) : Nat → List Oper → Prop
  | _, [] => True
  | i, o :: l => OpOk P ops V a0 w0 Q i o ∧ OpsOk P ops V a0 w0 Q (i + 1) l
theorem OpsOk.all {Q : Exit → Act → World → Prop} : ∀ {l : List Oper} {k : Nat}, OpsOk P ops V a0 w0 Q k l → ∀ (i : Nat) (o : Oper), l[i]? = some o → OpOk P ops V a0 w0 Q (k + i) o
  | [], _, _, i, o, h => by simp at h
  | x :: l, k, hh, 0, o, h => by
    have e : x = o := by simpa using h
    subst e; exact hh.1
  | x :: l, k, hh, i + 1, o, h => by
    have := hh.2.all i o (by simpa using h)
    rwa [show k + (i + 1) = k + 1 + i from by omega]
/-- The same, for a region that is written out. -/
theorem wp_region_table_lit {id : Nat} {n : Nat} {l : List Oper} {Q : Exit → Act → World → Prop} (hm : P.follows .mixedOrders = true) (V : Nat → Value → World → Prop) (hB : tabB l.toArray n = true) (hn : a0.tmps.size = n) (hV : ∀ i u w w', V i u w → Ext w w' → V i u w')
    (hop : OpsOk P l.toArray V a0 w0 Q 0 l) (hQ : ∀ a w, RDone l.toArray V a0 w0 a w → Q .normal a w) : (Code.region id l.toArray true).wp P Q a0 w0 :=
  wp_region_table hm V hB hn hV (fun i o ho => by
    have := hop.all i o (by simpa using ho)
    rwa [Nat.zero_add] at this) hQ
theorem fold_set (f : Nat → Value) : ∀ (ds : List Nat) (t0 : Array Value) (i : Nat), (ds.foldl (fun t d => t.setIfInBounds d (f d)) t0)[i]? = if i ∈ ds ∧ i < t0.size then some (f i) else t0[i]?
  | [], t0, i => by simp
  | d :: ds, t0, i => by
    rw [List.foldl_cons, fold_set f ds, Array.getElem?_setIfInBounds, Array.size_setIfInBounds]
    by_cases hi : i < t0.size
    · by_cases h1 : i ∈ ds
      · simp [h1, hi]
      · by_cases h2 : d = i
        · subst h2; simp [h1, hi]
        · have h3 : ¬ i = d := fun e => h2 e.symm
          simp [h1, h2, h3]
    · by_cases h2 : d = i
      · subst h2
        simp [hi]
      · simp [hi, h2]
/-- The frame behind the region: what it was, each slot that is written holding something. -/
theorem RDone.frame {a : Act} {w : World} (h : RDone ops V a0 w0 a w) (ds : List Nat) (hds : ops.toList.filterMap (·.dst) = ds) : a = { tmps := ds.foldl (fun t d => t.setIfInBounds d ((a.tmps[d]?).getD undef)) a0.tmps, defers := a0.defers } := by
  obtain ⟨t, d⟩ := a
  have h1 := h.size
  have h2 := h.defers
  have h3 := h.keep
  simp only at h1 h2 h3
  subst h2
  congr 1
  apply Array.ext_getElem?
  intro i
  rw [fold_set (fun d => (t[d]?).getD undef) ds a0.tmps i]
  by_cases hi : i < a0.tmps.size
  · by_cases hm : i ∈ ds
    · rw [if_pos ⟨hm, hi⟩, Array.getElem?_eq_getElem (by omega)]; rfl
    · rw [if_neg (fun h => hm h.1)]
      refine h3 i (fun j o ho hd => hm ?_)
      rw [← hds]
      exact List.mem_filterMap.2 ⟨o, Array.mem_toList_iff.2 (Array.mem_of_getElem? ho), hd⟩
  · rw [if_neg (fun h => hi h.2), Array.getElem?_eq_none (by omega), Array.getElem?_eq_none (by omega)]
theorem RDone.frame' {a : Act} {w : World} (h : RDone ops V a0 w0 a w) (ds : List Nat) (hds : ops.toList.filterMap (·.dst) = ds) :
    ∃ f : Nat → Value, a = { tmps := ds.foldl (fun t d => t.setIfInBounds d (f d)) a0.tmps, defers := a0.defers } ∧ ∀ (i : Nat) (o : Oper) t, ops[i]? = some o → o.dst = some t → V i (f t) w :=
  ⟨fun d => (a.tmps[d]?).getD undef, h.frame ds hds, fun i o t ho ht => by
    obtain ⟨u, h1, h2⟩ := h.done i o t ho ht
    simp only [h1, Option.getD_some]
    exact h2⟩
end
end Go.Proofs.YtcodhhabfacnjaaGreatDoor
