/- Of the proof of a statement: Delete. -/
import Derived.Test.YtjgnnobccecpeaaGreatDoorPInsert
set_option linter.unusedVariables false
set_option linter.unusedSimpArgs false
set_option maxRecDepth 100000
set_option maxHeartbeats 8000000
/- slices.Delete of one row; serve.put and serve.take. -/
namespace Go.Proofs.YtjgnnobccecpeaaGreatDoor
open Go.Lib (hid)
open Go.RowKit
theorem Grew.after {w w1 w2 : World} {v v' : Value} (hb : Below w.heap.size w w1) (hg : Grew w1 w2 v v') : Grew w w2 v v' :=
 Grew.trans ⟨⟨hb.os, hb.tape, hb.output, hb.size, fun k hk _ => hb.block k hk⟩, .inl rfl⟩ hg
def setAll (L : List Value) (o : Nat) : List Value → List Value
 | [] => L
 | v :: r => setAll (L.set o v) (o + 1) r
theorem setAll_eq : ∀ (xs L : List Value) (o : Nat), o + xs.length ≤ L.length → setAll L o xs = L.take o ++ xs ++ L.drop (o + xs.length)
 | [], L, o, _ => by simp [setAll]
 | v :: r, L, o, h => by
  rw [List.length_cons] at h
  rw [setAll, setAll_eq r (L.set o v) (o + 1) (by rw [List.length_set]; omega), list_seg_step L o v r h, List.length_cons]
theorem OwnR.setCell {w : World} {base g cap sz : Nat} {e : TypeId} {cur : Array Value} (h : OwnR w base e sz g cap cur) (i : Nat) (v : Value) : OwnR (w.setCell ⟨g, i, none⟩ v) base e sz g cap (cur.setIfInBounds i v) := by
 rw [setCell_eq_setRow w g i cur e (0, 0) v h.blk]
 exact h.set _ (by rw [Array.size_setIfInBounds]; exact h.size)
theorem OwnR.cell {w : World} {base g cap sz : Nat} {e : TypeId} {cur : Array Value} (h : OwnR w base e sz g cap cur) {i : Nat} {v : Value} (hv : cur.toList[i]? = some v) : w.cell? ⟨g, i, none⟩ = some v := by
 rw [cell_of_row w g i cur e (0, 0) h.blk, ← Array.getElem?_toList]; exact hv
theorem OwnR.thaw {w : World} {base g cap sz : Nat} {e : TypeId} {cur : Array Value} (h : OwnR w base e sz g cap cur) (i : Nat) : w.frozen? ⟨g, i, none⟩ = false := by
 have := h.blk
 simp [World.frozen?, this]
theorem repl_take {L X R : List Value} {a b s : Nat} (hab : a + s ≤ b) (hb : b ≤ L.length) (hX : X.length = s) (hR : L.take b = R) :
 (L.take a ++ X ++ L.drop (a + s)).take b = R.take a ++ X ++ R.drop (a + s) := by
 have l1 : (L.take a).length = a := by rw [List.length_take]; omega
 rw [List.take_append, List.take_of_length_le (by rw [List.length_append, l1, hX]; omega), List.length_append, l1, hX, ← hR, List.drop_take, List.take_take, Nat.min_eq_left (by omega)]
theorem setCell_grew {w : World} (g i n n' c c' : Nat) (u : Value) : Grew w (w.setCell ⟨g, i, none⟩ u) (.slice (some ⟨g, 0, none⟩) n c) (.slice (some ⟨g, 0, none⟩) n' c') :=
 ⟨bes_set (World.grownBy.refl w (some g)) i u, .inl rfl⟩
def TkRow {α : Type} (enc : α → List Value) (base : Nat) (T : TypeId) (sz : Nat) (A : Option Addr) (n c : Nat) (l : List α) (is : Bool) (w : World) (e : Ending) (w' : World) : Prop :=
 ∃ A' m c', e = .returned (.tuple #[.slice A' m c', .bool is]) ∧ m = l.length ∧ w'.ownsRow base T sz (.slice A' m c') m (rowsV enc l) ∧ Grew w w' (.slice A n c) (.slice A' m c')
theorem delM_job (base g m c k : Nat) (l : List JobD) (w : World) (ho : w.ownsRow base 38 5 (.slice (some ⟨g, 0, none⟩) (m + 1) c) (m + 1) (rowsV jobV l)) (hl : l.length = m + 1) (hn : m + 1 ≤ 1000) (hk : k < m) :
 Calls Tryz.prog 188 #[.slice (some ⟨g, 0, none⟩) (m + 1) c, .int .i64 k, .int .i64 ((k : Int) + 1)] w (InsPost jobV base 38 5 (some ⟨g, 0, none⟩) (m + 1) c (l.take k ++ l.drop (k + 1)) w) := by
 obtain ⟨cur, hR, hnc, htk⟩ := OwnR.of ho
 have hc63 := hR.cap_
 unfold maxLen at hc63
 obtain ⟨i0, hi0, hz0, hz1, hzb⟩ := info_parts infoJobI
 have hinfo : (Tryz.prog.info? 38).map (·.size) = some 5 := by rw [hi0]; simp [hz1]
 have one : ∀ v ∈ rowsV jobV l, v.oneCell' = true := fun v hv' => by
  obtain ⟨a, _, ha⟩ := List.mem_flatMap.1 hv'
  exact jobV_oneI a v ha
 obtain ⟨L, hL⟩ : ∃ L, cur.toList = L := ⟨_, rfl⟩
 have hLl : L.length = c * 5 := by rw [← hL, Array.length_toList, hR.size]
 obtain ⟨C1, hC1⟩ : ∃ C1, (L.drop (k * 5 + 5)).take ((m + 1) * 5 - (k * 5 + 5)) = C1 := ⟨_, rfl⟩
 have lC1 : C1.length = (m - k) * 5 := by rw [← hC1, List.length_take, List.length_drop, hLl]; omega
 have m1C : ∀ v ∈ C1, v ∈ rowsV jobV l := fun v hv' => by
  rw [← hC1, ← List.drop_take, ← hL, htk] at hv'
  exact List.mem_of_mem_drop hv'
 obtain ⟨cur1, hcur1⟩ : ∃ cur1, (cur.toList.take (k * 5) ++ C1 ++ cur.toList.drop (k * 5 + C1.length)).toArray = cur1 := ⟨_, rfl⟩
 have hap : ∀ ty sc, (Builtin.append_ #[22, 22] ty #[.slice (some ⟨g, 0, none⟩) k c, .slice (some ⟨g, (k + 1) * 5, none⟩) (m - k) sc]).run Tryz.prog w.drew = .ok (.slice (some ⟨g, 0, none⟩) m c) (w.drew.setRow g cur1) := fun ty sc => by
  have h := run_append_rowK (P := Tryz.prog) w.drew 22 ty 38 5 Tryz.underlying22 hinfo g k c ⟨g, (k + 1) * 5, none⟩ (m - k) sc cur 38 C1 hR.blk lC1 (fun j v hj => by
   refine hR.cells ((k + 1) * 5) j v ?_
   rw [hL, show (k + 1) * 5 = k * 5 + 5 by omega]
   rw [← hC1, List.getElem?_take] at hj
   split at hj
   · exact hj
   · cases hj) (by omega) (by rw [lC1, hR.size]; omega) (fun v hv' => one v (m1C v hv'))
  rw [h, hcur1, show k + (m - k) = m by omega]
 have hs1 : cur1.size = c * 5 := by rw [← hcur1]; simp only [List.size_toArray, List.length_append, List.length_take, List.length_drop, hL, hLl, lC1]; omega
 have hR1 : OwnR (w.drew.setRow g cur1) base 38 5 g c cur1 := OwnR.set (w := w.drew) ⟨hR.ge, hR.blk, hR.cap_, hR.size⟩ cur1 hs1
 obtain ⟨W1, hW1⟩ : ∃ W1, w.drew.setRow g cur1 = W1 := ⟨_, rfl⟩
 rw [hW1] at hap hR1
 obtain ⟨Z, hZ⟩ : ∃ Z, (Builtin.zeroCells (Value.cells (.agg #[.string ⟨#[]⟩, .int .i64 0, .int .i64 0, .int .i64 0, .string ⟨#[]⟩])) 1).toList = Z := ⟨_, rfl⟩
 have lZ : Z.length = 5 := by rw [← hZ, zeroCells_list]; rfl
 obtain ⟨cur2, hcur2⟩ : ∃ cur2, (cur1.toList.take (m * 5) ++ Z ++ cur1.toList.drop (m * 5 + Z.length)).toArray = cur2 := ⟨_, rfl⟩
 have hcl : ∀ ty cc, (Builtin.clear_ #[22] ty #[.slice (some ⟨g, m * 5, none⟩) 1 cc]).run Tryz.prog W1 = .ok (.tuple #[]) (W1.setRow g cur2) := fun ty cc => by
  have h := run_clear_rowK (P := Tryz.prog) W1 22 38 ty (.agg #[.string ⟨#[]⟩, .int .i64 0, .int .i64 0, .int .i64 0, .string ⟨#[]⟩]) g (m * 5) 1 cc Tryz.underlying22 Tryz.zeroValue38 (zeroCells_one _ 1 (fun u hu => jobV_oneI ⟨⟨#[]⟩, 0, 0, 0, ⟨#[]⟩⟩ u hu)) (by decide) cur1 38 hR1.blk (by rw [hs1]; show m * 5 + 1 * 5 ≤ _; omega)
  rw [h, hZ, hcur2]
 have hs2 : cur2.size = c * 5 := by rw [← hcur2]; simp only [List.size_toArray, List.length_append, List.length_take, List.length_drop, Array.length_toList, hs1, lZ]; omega
 have hfin := (hR1.set cur2 hs2).own (n := m) (by omega) (xs := rowsV jobV (l.take k ++ l.drop (k + 1))) (by
  have h := close_take (L := L) (R := rowsV jobV l) (a := k * 5) (b := (m + 1) * 5) (s := 5) (by omega) (by omega) (by rw [← hL]; exact htk)
  have e1 : cur2.toList.take (m * 5) = cur1.toList.take (m * 5) := by
   have l1 : (cur1.toList.take (m * 5)).length = m * 5 := by
    have e : cur1.toList.length = cur1.size := Array.length_toList
    rw [List.length_take]; omega
   rw [← hcur2, List.append_assoc, List.take_append_of_le_length (by omega), List.take_of_length_le (by omega)]
  rw [rowsV_append, ← rowsV_take jobV_len, ← rowsV_drop jobV_len, show (k + 1) * 5 = k * 5 + 5 by omega, ← h, e1, ← hcur1]
  simp only [hL, lC1]
  rw [← hC1, show (m + 1) * 5 - 5 = m * 5 by omega, show (m - k) * 5 = (m + 1) * 5 - (k * 5 + 5) by omega])
 have hgr : Grew w (W1.setRow g cur2) (.slice (some ⟨g, 0, none⟩) (m + 1) c) (.slice (some ⟨g, 0, none⟩) m c) := by
  rw [← hW1]
  exact (setRow_grewD w g (m + 1) (m + 1) c c cur1).trans (setRow_grew _ g (m + 1) m c c cur2)
 have Hend := hid (show InsPost jobV base 38 5 (some ⟨g, 0, none⟩) (m + 1) c (l.take k ++ l.drop (k + 1)) w (.returned (.slice (some ⟨g, 0, none⟩) m c)) (W1.setRow g cur2) from ⟨_, m, c, rfl, by rw [List.length_append, List.length_take, List.length_drop]; omega, hfin, hgr⟩)
 have hkk : ((k : Int) == (k : Int) + 1) = false := by rw [beq_eq_false_iff_ne]; omega
 have hw1 : (0 : Int) ≤ (k : Int) + 1 := by omega
 have htn : ((k : Int) + 1).toNat = k + 1 := by omega
 have hb3 : (k : Int) + 1 ≤ (m : Int) + 1 := by omega
 have hb4 : (k : Int) ≤ (m : Int) + 1 := by omega
 have hb5 : (k : Int) ≤ (k : Int) + 1 := by omega
 have hcm : ¬ c = m := by omega
 have hkc : (k : Int) ≤ (c : Int) := by omega
 have hck : ¬ c = k := by omega
 have Hcl := hid hcl
 clear hl hR htk ho hinfo hL hLl hC1 lC1 m1C one hcur1 hs1 hR1 hW1 hZ lZ hcl hcur2 hs2 hfin hgr hi0 hz0 hz1 hzb
 have hck1 : ¬ c = k + 1 := by omega
 go_enter Tryz.func188, Tryz.ntmps188
 go_wp2
 go_region_law (refine step_append_runK rfl _ _ 22 22 rfl (.slice (some ⟨g, 0, none⟩) k c) (.slice (some ⟨g, (k + 1) * 5, none⟩) (m - k) (c - (k + 1))) rfl rfl (hap _ _) ?_)
 go_wp2_with (refine wpList_clear_runK _ rfl _ 22 rfl _ rfl (Hcl.out _ _) ?_)
 go_ret
 exact Hend.out
theorem delE_job (base g m c : Nat) (l : List JobD) (w : World) (ho : w.ownsRow base 38 5 (.slice (some ⟨g, 0, none⟩) (m + 1) c) (m + 1) (rowsV jobV l)) (hl : l.length = m + 1) (hn : m + 1 ≤ 1000) :
 Calls Tryz.prog 188 #[.slice (some ⟨g, 0, none⟩) (m + 1) c, .int .i64 m, .int .i64 ((m : Int) + 1)] w (InsPost jobV base 38 5 (some ⟨g, 0, none⟩) (m + 1) c (l.take m ++ l.drop (m + 1)) w) := by
 obtain ⟨cur, hR, hnc, htk⟩ := OwnR.of ho
 have hc63 := hR.cap_
 unfold maxLen at hc63
 obtain ⟨Z, hZ⟩ : ∃ Z, (Builtin.zeroCells (Value.cells (.agg #[.string ⟨#[]⟩, .int .i64 0, .int .i64 0, .int .i64 0, .string ⟨#[]⟩])) 1).toList = Z := ⟨_, rfl⟩
 have lZ : Z.length = 5 := by rw [← hZ, zeroCells_list]; rfl
 obtain ⟨cur2, hcur2⟩ : ∃ cur2, (cur.toList.take (m * 5) ++ Z ++ cur.toList.drop (m * 5 + Z.length)).toArray = cur2 := ⟨_, rfl⟩
 have lc : cur.toList.length = c * 5 := by rw [Array.length_toList, hR.size]
 have hcl : ∀ ty cc, (Builtin.clear_ #[22] ty #[.slice (some ⟨g, m * 5, none⟩) 1 cc]).run Tryz.prog w.drew = .ok (.tuple #[]) (w.drew.setRow g cur2) := fun ty cc => by
  have h := run_clear_rowK (P := Tryz.prog) w.drew 22 38 ty (.agg #[.string ⟨#[]⟩, .int .i64 0, .int .i64 0, .int .i64 0, .string ⟨#[]⟩]) g (m * 5) 1 cc Tryz.underlying22 Tryz.zeroValue38 (zeroCells_one _ 1 (fun u hu => jobV_oneI ⟨⟨#[]⟩, 0, 0, 0, ⟨#[]⟩⟩ u hu)) (by decide) cur 38 hR.blk (by rw [hR.size]; show m * 5 + 1 * 5 ≤ _; omega)
  rw [h, hZ, hcur2]
 have hs2 : cur2.size = c * 5 := by rw [← hcur2]; simp only [List.size_toArray, List.length_append, List.length_take, List.length_drop, lc, lZ]; omega
 have hR2 : OwnR (w.drew.setRow g cur2) base 38 5 g c cur2 := OwnR.set (w := w.drew) ⟨hR.ge, hR.blk, hR.cap_, hR.size⟩ cur2 hs2
 have hfin := hR2.own (n := m) (by omega) (xs := rowsV jobV (l.take m ++ l.drop (m + 1))) (by
  rw [List.drop_eq_nil_of_le (by omega), List.append_nil, ← rowsV_take jobV_len, ← htk, ← hcur2, List.append_assoc, List.take_append_of_le_length (by rw [List.length_take]; omega), List.take_take, List.take_take, Nat.min_self, Nat.min_eq_left (by omega)])
 have Hend := hid (show InsPost jobV base 38 5 (some ⟨g, 0, none⟩) (m + 1) c (l.take m ++ l.drop (m + 1)) w (.returned (.slice (some ⟨g, 0, none⟩) m c)) (w.drew.setRow g cur2) from ⟨_, m, c, rfl, by rw [List.length_append, List.length_take, List.length_drop]; omega, hfin, setRow_grewD w g (m + 1) m c c cur2⟩)
 have hkk : ((m : Int) == (m : Int) + 1) = false := by rw [beq_eq_false_iff_ne]; omega
 have hw1 : (0 : Int) ≤ (m : Int) + 1 := by omega
 have htn : ((m : Int) + 1).toNat = m + 1 := by omega
 have hb3 : (m : Int) + 1 ≤ (m : Int) + 1 := by omega
 have hb4 : (m : Int) ≤ (m : Int) + 1 := by omega
 have hcm : ¬ c = m := by omega
 have hkc : (m : Int) ≤ (c : Int) := by omega
 have Hcl := hid hcl
 clear hl hR htk ho hZ lZ hcl hcur2 hs2 hR2 hfin lc
 by_cases hck1 : c = m + 1
 · subst hck1
   go_enter Tryz.func188, Tryz.ntmps188
   go_wp2
   go_region
   go_wp2_with (refine wpList_clear_runK _ rfl _ 22 rfl _ rfl (Hcl.out _ _) ?_)
   go_ret
   exact Hend.out
 · go_enter Tryz.func188, Tryz.ntmps188
   go_wp2
   go_region
   go_wp2_with (refine wpList_clear_runK _ rfl _ 22 rfl _ rfl (Hcl.out _ _) ?_)
   go_ret
   exact Hend.out
theorem del_job (base g m c k : Nat) (l : List JobD) (w : World) (ho : w.ownsRow base 38 5 (.slice (some ⟨g, 0, none⟩) (m + 1) c) (m + 1) (rowsV jobV l)) (hl : l.length = m + 1) (hn : m + 1 ≤ 1000) (hk : k ≤ m) :
 Calls Tryz.prog 188 #[.slice (some ⟨g, 0, none⟩) (m + 1) c, .int .i64 k, .int .i64 ((k : Int) + 1)] w (InsPost jobV base 38 5 (some ⟨g, 0, none⟩) (m + 1) c (l.take k ++ l.drop (k + 1)) w) := by
 by_cases h : k = m
 · subst h; exact delE_job base g k c l w ho hl hn
 · exact delM_job base g m c k l w ho hl hn (by omega)
theorem setrow_job (base g n c k : Nat) (l : List JobD) (x : JobD) (w W : World) (ho : w.ownsRow base 38 5 (.slice (some ⟨g, 0, none⟩) n c) n (rowsV jobV l)) (hl : l.length = n) (hk : k < n) (hb : Below w.heap.size w W) :
 (∀ j, W.frozen? ⟨g, j, none⟩ = false) ∧ (∀ j, j < n * 5 → ∃ u, W.cell? ⟨g, j, none⟩ = some u) ∧ InsPost jobV base 38 5 (some ⟨g, 0, none⟩) n c (l.take k ++ x :: l.drop (k + 1)) w (.returned (.slice (some ⟨g, 0, none⟩) n c)) (((((W.setCell ⟨g, k * 5, none⟩ (.string x.name)).setCell ⟨g, k * 5 + 1, none⟩ (.int .i64 x.prio)).setCell ⟨g, k * 5 + 2, none⟩ (.int .i64 x.need)).setCell ⟨g, k * 5 + 3, none⟩ (.int .i64 x.tries)).setCell ⟨g, k * 5 + 4, none⟩ (.string x.tag)) := by
 obtain ⟨cur, hR, hnc, htk⟩ := OwnR.of (ownU_below ho hb)
 have lc : cur.toList.length = c * 5 := by rw [Array.length_toList, hR.size]
 have hR' := (((((hR.setCell (k * 5) (.string x.name)).setCell (k * 5 + 1) (.int .i64 x.prio)).setCell (k * 5 + 2) (.int .i64 x.need)).setCell (k * 5 + 3) (.int .i64 x.tries)).setCell (k * 5 + 4) (.string x.tag))
 have e0 : (((((cur.setIfInBounds (k * 5) (.string x.name)).setIfInBounds (k * 5 + 1) (.int .i64 x.prio)).setIfInBounds (k * 5 + 2) (.int .i64 x.need)).setIfInBounds (k * 5 + 3) (.int .i64 x.tries)).setIfInBounds (k * 5 + 4) (.string x.tag)).toList = cur.toList.take (k * 5) ++ jobV x ++ cur.toList.drop (k * 5 + 5) := by
  have h := setAll_eq (jobV x) cur.toList (k * 5) (by rw [jobV_len, lc]; omega)
  rw [jobV_len] at h
  rw [← h]
  simp only [Array.toList_setIfInBounds]
  rfl
 refine ⟨hR.thaw, fun j hj => ⟨_, hR.cell (List.getElem?_eq_getElem (by rw [lc]; omega))⟩, _, n, c, rfl, by rw [List.length_append, List.length_cons, List.length_take, List.length_drop, hl]; omega, hR'.own hnc ?_, Grew.after hb ((((((setCell_grew g (k * 5) n n c c (.string x.name)).trans (setCell_grew g (k * 5 + 1) n n c c (.int .i64 x.prio))).trans (setCell_grew g (k * 5 + 2) n n c c (.int .i64 x.need))).trans (setCell_grew g (k * 5 + 3) n n c c (.int .i64 x.tries))).trans (setCell_grew g (k * 5 + 4) n n c c (.string x.tag))))⟩
 have h := repl_take (L := cur.toList) (X := jobV x) (R := rowsV jobV l) (a := k * 5) (b := n * 5) (s := 5) (by omega) (by rw [lc]; omega) (jobV_len x) htk
 rw [rowsV_append, show rowsV jobV (x :: l.drop (k + 1)) = jobV x ++ rowsV jobV (l.drop (k + 1)) from rfl, ← rowsV_take jobV_len, ← rowsV_drop jobV_len, ← List.append_assoc, show (k + 1) * 5 = k * 5 + 5 by omega, ← h, e0]
theorem sput_job (base : Nat) (A : Option Addr) (n c : Nat) (l : List JobD) (x : JobD) (w : World) (ho : w.ownsRow base 38 5 (.slice A n c) n (rowsV jobV l)) (hl : l.length = n) (hn : n ≤ 999) (hs : KSorted JobD.name l) (hbase : base ≤ w.heap.size) :
 Calls Tryz.prog 107 #[.slice A n c, .agg (jobV x).toArray, .func (.func 46) #[] #[]] w (InsPost jobV base 38 5 A n c (putK JobD.name l x) w) := by
 have hput := putK_pos (x := x) hs
 have hple := posL_le (key := JobD.name) l (JobD.name x)
 have heg := enters_of Tryz.func46 (by kernel_rfl) rfl
 obtain ⟨k, hk⟩ : ∃ k, posL JobD.name l (JobD.name x) = k := ⟨_, rfl⟩
 have hb1 : Below w.heap.size w (w.alloc (.cells (jobV x).toArray 38)) := (Below.refl _ _).alloc (Nat.le_refl _) _
 have hB1 : Blk (w.alloc (.cells (jobV x).toArray 38)) w.heap.size 38 (jobV x).toArray := heap_alloc_new w _
 have HP := hid (fun W (hb : Below w.heap.size w W) => place_job (JobD.name x) l A n c W (own_slAt (ownU_below ho hb)) hl (by omega) hs)
 have Ho := hid ho
 have Hb1 := hid hb1
 have HB1 := hid hB1
 unfold BsPost at HP
 rw [hk] at hput hple
 simp only [hk] at HP
 cases his : isL JobD.name l (JobD.name x) with
 | true =>
  rw [his] at hput
  simp only [his] at HP
  obtain ⟨y, hy, hky⟩ := isL_at his
  rw [hk] at hy
  have hkn : k < n := by have := (List.getElem?_eq_some_iff.1 hy).1; omega
  obtain ⟨g, cap, hA, hcap⟩ := ho.form (by omega)
  injection hA with hA _ hc
  subst hA; subst hc
  rw [if_pos rfl] at hput
  have HS := hid (fun W hb => setrow_job base g n c k l x w W ho hl hkn hb)
  rw [hput]
  clear hput hb1 hB1 his hy hky hk hl ho hple hs
  obtain ⟨name, prio, need, tries, tag⟩ := x
  have HB1' := hid (show Blk (w.alloc (.cells #[.string name, .int .i64 prio, .int .i64 need, .int .i64 tries, .string tag] 38)) w.heap.size 38 #[.string name, .int .i64 prio, .int .i64 need, .int .i64 tries, .string tag] from HB1.out)
  obtain ⟨b0, b1, b2, b3, b4⟩ := Blk.c5 (HB1'.out)
  show Calls Tryz.prog 107 #[.slice (some ⟨g, 0, none⟩) n c, .agg #[.string name, .int .i64 prio, .int .i64 need, .int .i64 tries, .string tag], .func (.func 46) #[] #[]] w _
  have Hb1 := hid (show Below w.heap.size w (w.alloc (.cells #[.string name, .int .i64 prio, .int .i64 need, .int .i64 tries, .string tag] 38)) from Hb1.out)
  clear HB1
  go_enter Tryz.func107, Tryz.ntmps107
  go_wp2_with fail
  refine Calls.mono (jobKey_any name prio need tries tag _) ?_
  rintro e w2 ⟨rfl, hb2⟩
  have Hb2 := hid (Hb1.out.trans (hb2.mono Hb1.out.size))
  have HB2 := hid (HB1'.out.below hb2 HB1'.out.lt)
  clear hb2 b0 b1 b2 b3 b4
  go_wp2_with fail
  refine Calls.mono (HP.out _ Hb2.out) ?_
  rintro e w3 ⟨rfl, hb3⟩
  have Hb3 := hid (Hb2.out.trans (hb3.mono Hb2.out.size))
  have HB3 := hid (HB2.out.below hb3 HB2.out.lt)
  clear hb3 HB2
  obtain ⟨hfz, hce, hend⟩ := HS.out w3 Hb3.out
  obtain ⟨d0, d1, d2, d3, d4⟩ := Blk.c5 (HB3.out)
  have f0 := hfz (k * 5)
  obtain ⟨u0, p0⟩ := hce (k * 5) (by omega)
  have f1 := hfz (k * 5 + 1)
  obtain ⟨u1, p1⟩ := hce (k * 5 + 1) (by omega)
  have f2 := hfz (k * 5 + 2)
  obtain ⟨u2, p2⟩ := hce (k * 5 + 2) (by omega)
  have f3 := hfz (k * 5 + 3)
  obtain ⟨u3, p3⟩ := hce (k * 5 + 3) (by omega)
  have f4 := hfz (k * 5 + 4)
  obtain ⟨u4, p4⟩ := hce (k * 5 + 4) (by omega)
  have Hend := hid hend
  clear hfz hce hend
  go_wp2
  go_ret
  exact Hend.out
 | false =>
  rw [his] at hput
  simp only [his] at HP
  rw [if_neg (by decide)] at hput
  rw [hput]
  have Hl := hid hl
  clear hput hb1 hB1 his hk hl ho hs
  obtain ⟨name, prio, need, tries, tag⟩ := x
  have HB1' := hid (show Blk (w.alloc (.cells #[.string name, .int .i64 prio, .int .i64 need, .int .i64 tries, .string tag] 38)) w.heap.size 38 #[.string name, .int .i64 prio, .int .i64 need, .int .i64 tries, .string tag] from HB1.out)
  obtain ⟨b0, b1, b2, b3, b4⟩ := Blk.c5 (HB1'.out)
  show Calls Tryz.prog 107 #[.slice A n c, .agg #[.string name, .int .i64 prio, .int .i64 need, .int .i64 tries, .string tag], .func (.func 46) #[] #[]] w _
  have Hb1 := hid (show Below w.heap.size w (w.alloc (.cells #[.string name, .int .i64 prio, .int .i64 need, .int .i64 tries, .string tag] 38)) from Hb1.out)
  clear HB1
  go_enter Tryz.func107, Tryz.ntmps107
  go_wp2_with fail
  refine Calls.mono (jobKey_any name prio need tries tag _) ?_
  rintro e w2 ⟨rfl, hb2⟩
  have Hb2 := hid (Hb1.out.trans (hb2.mono Hb1.out.size))
  have HB2 := hid (HB1'.out.below hb2 HB1'.out.lt)
  clear hb2 b0 b1 b2 b3 b4
  go_wp2_with fail
  refine Calls.mono (HP.out _ Hb2.out) ?_
  rintro e w3 ⟨rfl, hb3⟩
  have Hb3 := hid (Hb2.out.trans (hb3.mono Hb2.out.size))
  have HB3 := hid (HB2.out.below hb3 HB2.out.lt)
  clear hb3 HB2
  obtain ⟨d0, d1, d2, d3, d4⟩ := Blk.c5 (HB3.out)
  have hb4 : Below w.heap.size w (w3.alloc (.cells #[.string name, .int .i64 prio, .int .i64 need, .int .i64 tries, .string tag] 38)) := Hb3.out.alloc Hb3.out.size _
  have hB4 : Blk (w3.alloc (.cells #[.string name, .int .i64 prio, .int .i64 need, .int .i64 tries, .string tag] 38)) w3.heap.size 38 (jobV ⟨name, prio, need, tries, tag⟩).toArray := heap_alloc_new w3 _
  have HI := hid (ins_job base A n c w3.heap.size k l ⟨name, prio, need, tries, tag⟩ (w3.alloc (.cells #[.string name, .int .i64 prio, .int .i64 need, .int .i64 tries, .string tag] 38)) (ownU_below Ho.out hb4) Hl.out (by omega) (by have := Hl.out; omega) hB4 (fun q hq => by have := (Ho.out.lt q hq).2; have := Hb3.out.size; omega) (Nat.le_trans hbase hb4.size))
  have Hb4 := hid hb4
  clear hb4 hB4
  go_wp2_with fail
  refine Calls.mono HI.out ?_
  rintro e w5 ⟨A', m, c', rfl, hm, ho', hg'⟩
  have Hend := hid (show InsPost jobV base 38 5 A n c (l.take k ++ ⟨name, prio, need, tries, tag⟩ :: l.drop k) w (.returned (.slice A' m c')) w5 from ⟨A', m, c', rfl, hm, ho', Grew.after Hb4.out hg'⟩)
  clear hm ho' hg' d0 d1 d2 d3 d4
  go_wp2
  go_ret
  exact Hend.out
theorem stake_job (base : Nat) (A : Option Addr) (n c : Nat) (l : List JobD) (s : ByteArray) (w : World) (ho : w.ownsRow base 38 5 (.slice A n c) n (rowsV jobV l)) (hl : l.length = n) (hn : n ≤ 999) (hs : KSorted JobD.name l) :
 Calls Tryz.prog 109 #[.slice A n c, .string s, .func (.func 46) #[] #[]] w (TkRow jobV base 38 5 A n c (l.filter fun a => !decide (JobD.name a = s)) (isL JobD.name l s) w) := by
 have htp := take_pos (s := s) hs
 obtain ⟨k, hk⟩ : ∃ k, posL JobD.name l s = k := ⟨_, rfl⟩
 have HP := hid (place_job s l A n c w (own_slAt ho) hl (by omega) hs)
 have Ho := hid ho
 have Hl := hid hl
 unfold BsPost at HP
 rw [hk] at htp
 simp only [hk] at HP
 cases his : isL JobD.name l s with
 | true =>
  rw [his] at htp
  simp only [his] at HP
  obtain ⟨y, hy, hky⟩ := isL_at his
  rw [hk] at hy
  have hkn : k < n := by have := (List.getElem?_eq_some_iff.1 hy).1; omega
  obtain ⟨g, cap, hA, hcap⟩ := ho.form (by omega)
  injection hA with hA _ hc
  subst hA; subst hc
  rw [if_pos rfl] at htp
  rw [htp]
  obtain ⟨m, rfl⟩ : ∃ m, n = m + 1 := ⟨n - 1, by omega⟩
  have HD := hid (fun W (hb : Below w.heap.size w W) => del_job base g m c k l W (ownU_below ho hb) hl (by omega) (by omega))
  have hw1 : IntKind.i64.wrap ((k : Int) + 1) = (k : Int) + 1 := by rw [IntKind.wrap_i64]; omega
  clear htp his hy hky hk hl ho hs
  go_enter Tryz.func109, Tryz.ntmps109
  go_wp2_with fail
  refine Calls.mono HP.out ?_
  rintro e w3 ⟨rfl, hb3⟩
  have Hb3 := hid hb3
  clear hb3
  go_wp2_with fail
  refine Calls.mono (HD.out _ Hb3.out) ?_
  rintro e w5 ⟨A', m', c', rfl, hm, ho', hg'⟩
  have Hend := hid (show TkRow jobV base 38 5 (some ⟨g, 0, none⟩) (m + 1) c (l.take k ++ l.drop (k + 1)) true w (.returned (.tuple #[.slice A' m' c', .bool true])) w5 from ⟨A', m', c', rfl, hm, ho', Grew.after Hb3.out hg'⟩)
  clear hm ho' hg'
  go_wp2
  go_ret2
  exact Hend.out
 | false =>
  rw [his] at htp
  simp only [his] at HP
  rw [if_neg (by decide)] at htp
  rw [htp]
  clear htp his hk hl ho hs
  go_enter Tryz.func109, Tryz.ntmps109
  go_wp2_with fail
  refine Calls.mono HP.out ?_
  rintro e w3 ⟨rfl, hb3⟩
  have Hend := hid (show TkRow jobV base 38 5 A n c l false w (.returned (.tuple #[.slice A n c, .bool false])) w3 from ⟨A, n, c, rfl, Hl.out.symm, ownU_below Ho.out hb3, Grew.after hb3 (Grew.refl _ _)⟩)
  clear hb3
  go_wp2
  go_ret2
  exact Hend.out
theorem delM_node (base g m c k : Nat) (l : List NodeD) (w : World) (ho : w.ownsRow base 40 3 (.slice (some ⟨g, 0, none⟩) (m + 1) c) (m + 1) (rowsV nodeV l)) (hl : l.length = m + 1) (hn : m + 1 ≤ 1000) (hk : k < m) :
 Calls Tryz.prog 190 #[.slice (some ⟨g, 0, none⟩) (m + 1) c, .int .i64 k, .int .i64 ((k : Int) + 1)] w (InsPost nodeV base 40 3 (some ⟨g, 0, none⟩) (m + 1) c (l.take k ++ l.drop (k + 1)) w) := by
 obtain ⟨cur, hR, hnc, htk⟩ := OwnR.of ho
 have hc63 := hR.cap_
 unfold maxLen at hc63
 obtain ⟨i0, hi0, hz0, hz1, hzb⟩ := info_parts infoNodeI
 have hinfo : (Tryz.prog.info? 40).map (·.size) = some 3 := by rw [hi0]; simp [hz1]
 have one : ∀ v ∈ rowsV nodeV l, v.oneCell' = true := fun v hv' => by
  obtain ⟨a, _, ha⟩ := List.mem_flatMap.1 hv'
  exact nodeV_oneI a v ha
 obtain ⟨L, hL⟩ : ∃ L, cur.toList = L := ⟨_, rfl⟩
 have hLl : L.length = c * 3 := by rw [← hL, Array.length_toList, hR.size]
 obtain ⟨C1, hC1⟩ : ∃ C1, (L.drop (k * 3 + 3)).take ((m + 1) * 3 - (k * 3 + 3)) = C1 := ⟨_, rfl⟩
 have lC1 : C1.length = (m - k) * 3 := by rw [← hC1, List.length_take, List.length_drop, hLl]; omega
 have m1C : ∀ v ∈ C1, v ∈ rowsV nodeV l := fun v hv' => by
  rw [← hC1, ← List.drop_take, ← hL, htk] at hv'
  exact List.mem_of_mem_drop hv'
 obtain ⟨cur1, hcur1⟩ : ∃ cur1, (cur.toList.take (k * 3) ++ C1 ++ cur.toList.drop (k * 3 + C1.length)).toArray = cur1 := ⟨_, rfl⟩
 have hap : ∀ ty sc, (Builtin.append_ #[23, 23] ty #[.slice (some ⟨g, 0, none⟩) k c, .slice (some ⟨g, (k + 1) * 3, none⟩) (m - k) sc]).run Tryz.prog w.drew = .ok (.slice (some ⟨g, 0, none⟩) m c) (w.drew.setRow g cur1) := fun ty sc => by
  have h := run_append_rowK (P := Tryz.prog) w.drew 23 ty 40 3 Tryz.underlying23 hinfo g k c ⟨g, (k + 1) * 3, none⟩ (m - k) sc cur 40 C1 hR.blk lC1 (fun j v hj => by
   refine hR.cells ((k + 1) * 3) j v ?_
   rw [hL, show (k + 1) * 3 = k * 3 + 3 by omega]
   rw [← hC1, List.getElem?_take] at hj
   split at hj
   · exact hj
   · cases hj) (by omega) (by rw [lC1, hR.size]; omega) (fun v hv' => one v (m1C v hv'))
  rw [h, hcur1, show k + (m - k) = m by omega]
 have hs1 : cur1.size = c * 3 := by rw [← hcur1]; simp only [List.size_toArray, List.length_append, List.length_take, List.length_drop, hL, hLl, lC1]; omega
 have hR1 : OwnR (w.drew.setRow g cur1) base 40 3 g c cur1 := OwnR.set (w := w.drew) ⟨hR.ge, hR.blk, hR.cap_, hR.size⟩ cur1 hs1
 obtain ⟨W1, hW1⟩ : ∃ W1, w.drew.setRow g cur1 = W1 := ⟨_, rfl⟩
 rw [hW1] at hap hR1
 obtain ⟨Z, hZ⟩ : ∃ Z, (Builtin.zeroCells (Value.cells (.agg #[.string ⟨#[]⟩, .int .i64 0, .string ⟨#[]⟩])) 1).toList = Z := ⟨_, rfl⟩
 have lZ : Z.length = 3 := by rw [← hZ, zeroCells_list]; rfl
 obtain ⟨cur2, hcur2⟩ : ∃ cur2, (cur1.toList.take (m * 3) ++ Z ++ cur1.toList.drop (m * 3 + Z.length)).toArray = cur2 := ⟨_, rfl⟩
 have hcl : ∀ ty cc, (Builtin.clear_ #[23] ty #[.slice (some ⟨g, m * 3, none⟩) 1 cc]).run Tryz.prog W1 = .ok (.tuple #[]) (W1.setRow g cur2) := fun ty cc => by
  have h := run_clear_rowK (P := Tryz.prog) W1 23 40 ty (.agg #[.string ⟨#[]⟩, .int .i64 0, .string ⟨#[]⟩]) g (m * 3) 1 cc Tryz.underlying23 Tryz.zeroValue40 (zeroCells_one _ 1 (fun u hu => nodeV_oneI ⟨⟨#[]⟩, 0, ⟨#[]⟩⟩ u hu)) (by decide) cur1 40 hR1.blk (by rw [hs1]; show m * 3 + 1 * 3 ≤ _; omega)
  rw [h, hZ, hcur2]
 have hs2 : cur2.size = c * 3 := by rw [← hcur2]; simp only [List.size_toArray, List.length_append, List.length_take, List.length_drop, Array.length_toList, hs1, lZ]; omega
 have hfin := (hR1.set cur2 hs2).own (n := m) (by omega) (xs := rowsV nodeV (l.take k ++ l.drop (k + 1))) (by
  have h := close_take (L := L) (R := rowsV nodeV l) (a := k * 3) (b := (m + 1) * 3) (s := 3) (by omega) (by omega) (by rw [← hL]; exact htk)
  have e1 : cur2.toList.take (m * 3) = cur1.toList.take (m * 3) := by
   have l1 : (cur1.toList.take (m * 3)).length = m * 3 := by
    have e : cur1.toList.length = cur1.size := Array.length_toList
    rw [List.length_take]; omega
   rw [← hcur2, List.append_assoc, List.take_append_of_le_length (by omega), List.take_of_length_le (by omega)]
  rw [rowsV_append, ← rowsV_take nodeV_len, ← rowsV_drop nodeV_len, show (k + 1) * 3 = k * 3 + 3 by omega, ← h, e1, ← hcur1]
  simp only [hL, lC1]
  rw [← hC1, show (m + 1) * 3 - 3 = m * 3 by omega, show (m - k) * 3 = (m + 1) * 3 - (k * 3 + 3) by omega])
 have hgr : Grew w (W1.setRow g cur2) (.slice (some ⟨g, 0, none⟩) (m + 1) c) (.slice (some ⟨g, 0, none⟩) m c) := by
  rw [← hW1]
  exact (setRow_grewD w g (m + 1) (m + 1) c c cur1).trans (setRow_grew _ g (m + 1) m c c cur2)
 have Hend := hid (show InsPost nodeV base 40 3 (some ⟨g, 0, none⟩) (m + 1) c (l.take k ++ l.drop (k + 1)) w (.returned (.slice (some ⟨g, 0, none⟩) m c)) (W1.setRow g cur2) from ⟨_, m, c, rfl, by rw [List.length_append, List.length_take, List.length_drop]; omega, hfin, hgr⟩)
 have hkk : ((k : Int) == (k : Int) + 1) = false := by rw [beq_eq_false_iff_ne]; omega
 have hw1 : (0 : Int) ≤ (k : Int) + 1 := by omega
 have htn : ((k : Int) + 1).toNat = k + 1 := by omega
 have hb3 : (k : Int) + 1 ≤ (m : Int) + 1 := by omega
 have hb4 : (k : Int) ≤ (m : Int) + 1 := by omega
 have hb5 : (k : Int) ≤ (k : Int) + 1 := by omega
 have hcm : ¬ c = m := by omega
 have hkc : (k : Int) ≤ (c : Int) := by omega
 have hck : ¬ c = k := by omega
 have Hcl := hid hcl
 clear hl hR htk ho hinfo hL hLl hC1 lC1 m1C one hcur1 hs1 hR1 hW1 hZ lZ hcl hcur2 hs2 hfin hgr hi0 hz0 hz1 hzb
 have hck1 : ¬ c = k + 1 := by omega
 go_enter Tryz.func190, Tryz.ntmps190
 go_wp2
 go_region_law (refine step_append_runK rfl _ _ 23 23 rfl (.slice (some ⟨g, 0, none⟩) k c) (.slice (some ⟨g, (k + 1) * 3, none⟩) (m - k) (c - (k + 1))) rfl rfl (hap _ _) ?_)
 go_wp2_with (refine wpList_clear_runK _ rfl _ 23 rfl _ rfl (Hcl.out _ _) ?_)
 go_ret
 exact Hend.out
theorem delE_node (base g m c : Nat) (l : List NodeD) (w : World) (ho : w.ownsRow base 40 3 (.slice (some ⟨g, 0, none⟩) (m + 1) c) (m + 1) (rowsV nodeV l)) (hl : l.length = m + 1) (hn : m + 1 ≤ 1000) :
 Calls Tryz.prog 190 #[.slice (some ⟨g, 0, none⟩) (m + 1) c, .int .i64 m, .int .i64 ((m : Int) + 1)] w (InsPost nodeV base 40 3 (some ⟨g, 0, none⟩) (m + 1) c (l.take m ++ l.drop (m + 1)) w) := by
 obtain ⟨cur, hR, hnc, htk⟩ := OwnR.of ho
 have hc63 := hR.cap_
 unfold maxLen at hc63
 obtain ⟨Z, hZ⟩ : ∃ Z, (Builtin.zeroCells (Value.cells (.agg #[.string ⟨#[]⟩, .int .i64 0, .string ⟨#[]⟩])) 1).toList = Z := ⟨_, rfl⟩
 have lZ : Z.length = 3 := by rw [← hZ, zeroCells_list]; rfl
 obtain ⟨cur2, hcur2⟩ : ∃ cur2, (cur.toList.take (m * 3) ++ Z ++ cur.toList.drop (m * 3 + Z.length)).toArray = cur2 := ⟨_, rfl⟩
 have lc : cur.toList.length = c * 3 := by rw [Array.length_toList, hR.size]
 have hcl : ∀ ty cc, (Builtin.clear_ #[23] ty #[.slice (some ⟨g, m * 3, none⟩) 1 cc]).run Tryz.prog w.drew = .ok (.tuple #[]) (w.drew.setRow g cur2) := fun ty cc => by
  have h := run_clear_rowK (P := Tryz.prog) w.drew 23 40 ty (.agg #[.string ⟨#[]⟩, .int .i64 0, .string ⟨#[]⟩]) g (m * 3) 1 cc Tryz.underlying23 Tryz.zeroValue40 (zeroCells_one _ 1 (fun u hu => nodeV_oneI ⟨⟨#[]⟩, 0, ⟨#[]⟩⟩ u hu)) (by decide) cur 40 hR.blk (by rw [hR.size]; show m * 3 + 1 * 3 ≤ _; omega)
  rw [h, hZ, hcur2]
 have hs2 : cur2.size = c * 3 := by rw [← hcur2]; simp only [List.size_toArray, List.length_append, List.length_take, List.length_drop, lc, lZ]; omega
 have hR2 : OwnR (w.drew.setRow g cur2) base 40 3 g c cur2 := OwnR.set (w := w.drew) ⟨hR.ge, hR.blk, hR.cap_, hR.size⟩ cur2 hs2
 have hfin := hR2.own (n := m) (by omega) (xs := rowsV nodeV (l.take m ++ l.drop (m + 1))) (by
  rw [List.drop_eq_nil_of_le (by omega), List.append_nil, ← rowsV_take nodeV_len, ← htk, ← hcur2, List.append_assoc, List.take_append_of_le_length (by rw [List.length_take]; omega), List.take_take, List.take_take, Nat.min_self, Nat.min_eq_left (by omega)])
 have Hend := hid (show InsPost nodeV base 40 3 (some ⟨g, 0, none⟩) (m + 1) c (l.take m ++ l.drop (m + 1)) w (.returned (.slice (some ⟨g, 0, none⟩) m c)) (w.drew.setRow g cur2) from ⟨_, m, c, rfl, by rw [List.length_append, List.length_take, List.length_drop]; omega, hfin, setRow_grewD w g (m + 1) m c c cur2⟩)
 have hkk : ((m : Int) == (m : Int) + 1) = false := by rw [beq_eq_false_iff_ne]; omega
 have hw1 : (0 : Int) ≤ (m : Int) + 1 := by omega
 have htn : ((m : Int) + 1).toNat = m + 1 := by omega
 have hb3 : (m : Int) + 1 ≤ (m : Int) + 1 := by omega
 have hb4 : (m : Int) ≤ (m : Int) + 1 := by omega
 have hcm : ¬ c = m := by omega
 have hkc : (m : Int) ≤ (c : Int) := by omega
 have Hcl := hid hcl
 clear hl hR htk ho hZ lZ hcl hcur2 hs2 hR2 hfin lc
 by_cases hck1 : c = m + 1
 · subst hck1
   go_enter Tryz.func190, Tryz.ntmps190
   go_wp2
   go_region
   go_wp2_with (refine wpList_clear_runK _ rfl _ 23 rfl _ rfl (Hcl.out _ _) ?_)
   go_ret
   exact Hend.out
 · go_enter Tryz.func190, Tryz.ntmps190
   go_wp2
   go_region
   go_wp2_with (refine wpList_clear_runK _ rfl _ 23 rfl _ rfl (Hcl.out _ _) ?_)
   go_ret
   exact Hend.out
theorem del_node (base g m c k : Nat) (l : List NodeD) (w : World) (ho : w.ownsRow base 40 3 (.slice (some ⟨g, 0, none⟩) (m + 1) c) (m + 1) (rowsV nodeV l)) (hl : l.length = m + 1) (hn : m + 1 ≤ 1000) (hk : k ≤ m) :
 Calls Tryz.prog 190 #[.slice (some ⟨g, 0, none⟩) (m + 1) c, .int .i64 k, .int .i64 ((k : Int) + 1)] w (InsPost nodeV base 40 3 (some ⟨g, 0, none⟩) (m + 1) c (l.take k ++ l.drop (k + 1)) w) := by
 by_cases h : k = m
 · subst h; exact delE_node base g k c l w ho hl hn
 · exact delM_node base g m c k l w ho hl hn (by omega)
theorem setrow_node (base g n c k : Nat) (l : List NodeD) (x : NodeD) (w W : World) (ho : w.ownsRow base 40 3 (.slice (some ⟨g, 0, none⟩) n c) n (rowsV nodeV l)) (hl : l.length = n) (hk : k < n) (hb : Below w.heap.size w W) :
 (∀ j, W.frozen? ⟨g, j, none⟩ = false) ∧ (∀ j, j < n * 3 → ∃ u, W.cell? ⟨g, j, none⟩ = some u) ∧ InsPost nodeV base 40 3 (some ⟨g, 0, none⟩) n c (l.take k ++ x :: l.drop (k + 1)) w (.returned (.slice (some ⟨g, 0, none⟩) n c)) (((W.setCell ⟨g, k * 3, none⟩ (.string x.name)).setCell ⟨g, k * 3 + 1, none⟩ (.int .i64 x.room)).setCell ⟨g, k * 3 + 2, none⟩ (.string x.zone)) := by
 obtain ⟨cur, hR, hnc, htk⟩ := OwnR.of (ownU_below ho hb)
 have lc : cur.toList.length = c * 3 := by rw [Array.length_toList, hR.size]
 have hR' := (((hR.setCell (k * 3) (.string x.name)).setCell (k * 3 + 1) (.int .i64 x.room)).setCell (k * 3 + 2) (.string x.zone))
 have e0 : (((cur.setIfInBounds (k * 3) (.string x.name)).setIfInBounds (k * 3 + 1) (.int .i64 x.room)).setIfInBounds (k * 3 + 2) (.string x.zone)).toList = cur.toList.take (k * 3) ++ nodeV x ++ cur.toList.drop (k * 3 + 3) := by
  have h := setAll_eq (nodeV x) cur.toList (k * 3) (by rw [nodeV_len, lc]; omega)
  rw [nodeV_len] at h
  rw [← h]
  simp only [Array.toList_setIfInBounds]
  rfl
 refine ⟨hR.thaw, fun j hj => ⟨_, hR.cell (List.getElem?_eq_getElem (by rw [lc]; omega))⟩, _, n, c, rfl, by rw [List.length_append, List.length_cons, List.length_take, List.length_drop, hl]; omega, hR'.own hnc ?_, Grew.after hb ((((setCell_grew g (k * 3) n n c c (.string x.name)).trans (setCell_grew g (k * 3 + 1) n n c c (.int .i64 x.room))).trans (setCell_grew g (k * 3 + 2) n n c c (.string x.zone))))⟩
 have h := repl_take (L := cur.toList) (X := nodeV x) (R := rowsV nodeV l) (a := k * 3) (b := n * 3) (s := 3) (by omega) (by rw [lc]; omega) (nodeV_len x) htk
 rw [rowsV_append, show rowsV nodeV (x :: l.drop (k + 1)) = nodeV x ++ rowsV nodeV (l.drop (k + 1)) from rfl, ← rowsV_take nodeV_len, ← rowsV_drop nodeV_len, ← List.append_assoc, show (k + 1) * 3 = k * 3 + 3 by omega, ← h, e0]
theorem sput_node (base : Nat) (A : Option Addr) (n c : Nat) (l : List NodeD) (x : NodeD) (w : World) (ho : w.ownsRow base 40 3 (.slice A n c) n (rowsV nodeV l)) (hl : l.length = n) (hn : n ≤ 999) (hs : KSorted NodeD.name l) (hbase : base ≤ w.heap.size) :
 Calls Tryz.prog 108 #[.slice A n c, .agg (nodeV x).toArray, .func (.func 48) #[] #[]] w (InsPost nodeV base 40 3 A n c (putK NodeD.name l x) w) := by
 have hput := putK_pos (x := x) hs
 have hple := posL_le (key := NodeD.name) l (NodeD.name x)
 have heg := enters_of Tryz.func48 (by kernel_rfl) rfl
 obtain ⟨k, hk⟩ : ∃ k, posL NodeD.name l (NodeD.name x) = k := ⟨_, rfl⟩
 have hb1 : Below w.heap.size w (w.alloc (.cells (nodeV x).toArray 40)) := (Below.refl _ _).alloc (Nat.le_refl _) _
 have hB1 : Blk (w.alloc (.cells (nodeV x).toArray 40)) w.heap.size 40 (nodeV x).toArray := heap_alloc_new w _
 have HP := hid (fun W (hb : Below w.heap.size w W) => place_node (NodeD.name x) l A n c W (own_slAt (ownU_below ho hb)) hl (by omega) hs)
 have Ho := hid ho
 have Hb1 := hid hb1
 have HB1 := hid hB1
 unfold BsPost at HP
 rw [hk] at hput hple
 simp only [hk] at HP
 cases his : isL NodeD.name l (NodeD.name x) with
 | true =>
  rw [his] at hput
  simp only [his] at HP
  obtain ⟨y, hy, hky⟩ := isL_at his
  rw [hk] at hy
  have hkn : k < n := by have := (List.getElem?_eq_some_iff.1 hy).1; omega
  obtain ⟨g, cap, hA, hcap⟩ := ho.form (by omega)
  injection hA with hA _ hc
  subst hA; subst hc
  rw [if_pos rfl] at hput
  have HS := hid (fun W hb => setrow_node base g n c k l x w W ho hl hkn hb)
  rw [hput]
  clear hput hb1 hB1 his hy hky hk hl ho hple hs
  obtain ⟨name, room, zone⟩ := x
  have HB1' := hid (show Blk (w.alloc (.cells #[.string name, .int .i64 room, .string zone] 40)) w.heap.size 40 #[.string name, .int .i64 room, .string zone] from HB1.out)
  have b0 : (w.alloc (.cells #[.string name, .int .i64 room, .string zone] 40)).cell? ⟨w.heap.size, 0, none⟩ = some (.string name) := HB1'.out.cell 0
  have b1 : (w.alloc (.cells #[.string name, .int .i64 room, .string zone] 40)).cell? ⟨w.heap.size, 1, none⟩ = some (.int .i64 room) := HB1'.out.cell 1
  have b2 : (w.alloc (.cells #[.string name, .int .i64 room, .string zone] 40)).cell? ⟨w.heap.size, 2, none⟩ = some (.string zone) := HB1'.out.cell 2
  show Calls Tryz.prog 108 #[.slice (some ⟨g, 0, none⟩) n c, .agg #[.string name, .int .i64 room, .string zone], .func (.func 48) #[] #[]] w _
  have Hb1 := hid (show Below w.heap.size w (w.alloc (.cells #[.string name, .int .i64 room, .string zone] 40)) from Hb1.out)
  clear HB1
  go_enter Tryz.func108, Tryz.ntmps108
  go_wp2_with fail
  refine Calls.mono (nodeKey_any name room zone _) ?_
  rintro e w2 ⟨rfl, hb2⟩
  have Hb2 := hid (Hb1.out.trans (hb2.mono Hb1.out.size))
  have HB2 := hid (HB1'.out.below hb2 HB1'.out.lt)
  clear hb2 b0 b1 b2
  go_wp2_with fail
  refine Calls.mono (HP.out _ Hb2.out) ?_
  rintro e w3 ⟨rfl, hb3⟩
  have Hb3 := hid (Hb2.out.trans (hb3.mono Hb2.out.size))
  have HB3 := hid (HB2.out.below hb3 HB2.out.lt)
  clear hb3 HB2
  obtain ⟨hfz, hce, hend⟩ := HS.out w3 Hb3.out
  have d0 : w3.cell? ⟨w.heap.size, 0, none⟩ = some (.string name) := HB3.out.cell 0
  have d1 : w3.cell? ⟨w.heap.size, 1, none⟩ = some (.int .i64 room) := HB3.out.cell 1
  have d2 : w3.cell? ⟨w.heap.size, 2, none⟩ = some (.string zone) := HB3.out.cell 2
  have f0 := hfz (k * 3)
  obtain ⟨u0, p0⟩ := hce (k * 3) (by omega)
  have f1 := hfz (k * 3 + 1)
  obtain ⟨u1, p1⟩ := hce (k * 3 + 1) (by omega)
  have f2 := hfz (k * 3 + 2)
  obtain ⟨u2, p2⟩ := hce (k * 3 + 2) (by omega)
  have Hend := hid hend
  clear hfz hce hend
  go_wp2
  go_ret
  exact Hend.out
 | false =>
  rw [his] at hput
  simp only [his] at HP
  rw [if_neg (by decide)] at hput
  rw [hput]
  have Hl := hid hl
  clear hput hb1 hB1 his hk hl ho hs
  obtain ⟨name, room, zone⟩ := x
  have HB1' := hid (show Blk (w.alloc (.cells #[.string name, .int .i64 room, .string zone] 40)) w.heap.size 40 #[.string name, .int .i64 room, .string zone] from HB1.out)
  have b0 : (w.alloc (.cells #[.string name, .int .i64 room, .string zone] 40)).cell? ⟨w.heap.size, 0, none⟩ = some (.string name) := HB1'.out.cell 0
  have b1 : (w.alloc (.cells #[.string name, .int .i64 room, .string zone] 40)).cell? ⟨w.heap.size, 1, none⟩ = some (.int .i64 room) := HB1'.out.cell 1
  have b2 : (w.alloc (.cells #[.string name, .int .i64 room, .string zone] 40)).cell? ⟨w.heap.size, 2, none⟩ = some (.string zone) := HB1'.out.cell 2
  show Calls Tryz.prog 108 #[.slice A n c, .agg #[.string name, .int .i64 room, .string zone], .func (.func 48) #[] #[]] w _
  have Hb1 := hid (show Below w.heap.size w (w.alloc (.cells #[.string name, .int .i64 room, .string zone] 40)) from Hb1.out)
  clear HB1
  go_enter Tryz.func108, Tryz.ntmps108
  go_wp2_with fail
  refine Calls.mono (nodeKey_any name room zone _) ?_
  rintro e w2 ⟨rfl, hb2⟩
  have Hb2 := hid (Hb1.out.trans (hb2.mono Hb1.out.size))
  have HB2 := hid (HB1'.out.below hb2 HB1'.out.lt)
  clear hb2 b0 b1 b2
  go_wp2_with fail
  refine Calls.mono (HP.out _ Hb2.out) ?_
  rintro e w3 ⟨rfl, hb3⟩
  have Hb3 := hid (Hb2.out.trans (hb3.mono Hb2.out.size))
  have HB3 := hid (HB2.out.below hb3 HB2.out.lt)
  clear hb3 HB2
  have d0 : w3.cell? ⟨w.heap.size, 0, none⟩ = some (.string name) := HB3.out.cell 0
  have d1 : w3.cell? ⟨w.heap.size, 1, none⟩ = some (.int .i64 room) := HB3.out.cell 1
  have d2 : w3.cell? ⟨w.heap.size, 2, none⟩ = some (.string zone) := HB3.out.cell 2
  have hb4 : Below w.heap.size w (w3.alloc (.cells #[.string name, .int .i64 room, .string zone] 40)) := Hb3.out.alloc Hb3.out.size _
  have hB4 : Blk (w3.alloc (.cells #[.string name, .int .i64 room, .string zone] 40)) w3.heap.size 40 (nodeV ⟨name, room, zone⟩).toArray := heap_alloc_new w3 _
  have HI := hid (ins_node base A n c w3.heap.size k l ⟨name, room, zone⟩ (w3.alloc (.cells #[.string name, .int .i64 room, .string zone] 40)) (ownU_below Ho.out hb4) Hl.out (by omega) (by have := Hl.out; omega) hB4 (fun q hq => by have := (Ho.out.lt q hq).2; have := Hb3.out.size; omega) (Nat.le_trans hbase hb4.size))
  have Hb4 := hid hb4
  clear hb4 hB4
  go_wp2_with fail
  refine Calls.mono HI.out ?_
  rintro e w5 ⟨A', m, c', rfl, hm, ho', hg'⟩
  have Hend := hid (show InsPost nodeV base 40 3 A n c (l.take k ++ ⟨name, room, zone⟩ :: l.drop k) w (.returned (.slice A' m c')) w5 from ⟨A', m, c', rfl, hm, ho', Grew.after Hb4.out hg'⟩)
  clear hm ho' hg' d0 d1 d2
  go_wp2
  go_ret
  exact Hend.out
theorem stake_node (base : Nat) (A : Option Addr) (n c : Nat) (l : List NodeD) (s : ByteArray) (w : World) (ho : w.ownsRow base 40 3 (.slice A n c) n (rowsV nodeV l)) (hl : l.length = n) (hn : n ≤ 999) (hs : KSorted NodeD.name l) :
 Calls Tryz.prog 112 #[.slice A n c, .string s, .func (.func 48) #[] #[]] w (TkRow nodeV base 40 3 A n c (l.filter fun a => !decide (NodeD.name a = s)) (isL NodeD.name l s) w) := by
 have htp := take_pos (s := s) hs
 obtain ⟨k, hk⟩ : ∃ k, posL NodeD.name l s = k := ⟨_, rfl⟩
 have HP := hid (place_node s l A n c w (own_slAt ho) hl (by omega) hs)
 have Ho := hid ho
 have Hl := hid hl
 unfold BsPost at HP
 rw [hk] at htp
 simp only [hk] at HP
 cases his : isL NodeD.name l s with
 | true =>
  rw [his] at htp
  simp only [his] at HP
  obtain ⟨y, hy, hky⟩ := isL_at his
  rw [hk] at hy
  have hkn : k < n := by have := (List.getElem?_eq_some_iff.1 hy).1; omega
  obtain ⟨g, cap, hA, hcap⟩ := ho.form (by omega)
  injection hA with hA _ hc
  subst hA; subst hc
  rw [if_pos rfl] at htp
  rw [htp]
  obtain ⟨m, rfl⟩ : ∃ m, n = m + 1 := ⟨n - 1, by omega⟩
  have HD := hid (fun W (hb : Below w.heap.size w W) => del_node base g m c k l W (ownU_below ho hb) hl (by omega) (by omega))
  have hw1 : IntKind.i64.wrap ((k : Int) + 1) = (k : Int) + 1 := by rw [IntKind.wrap_i64]; omega
  clear htp his hy hky hk hl ho hs
  go_enter Tryz.func112, Tryz.ntmps112
  go_wp2_with fail
  refine Calls.mono HP.out ?_
  rintro e w3 ⟨rfl, hb3⟩
  have Hb3 := hid hb3
  clear hb3
  go_wp2_with fail
  refine Calls.mono (HD.out _ Hb3.out) ?_
  rintro e w5 ⟨A', m', c', rfl, hm, ho', hg'⟩
  have Hend := hid (show TkRow nodeV base 40 3 (some ⟨g, 0, none⟩) (m + 1) c (l.take k ++ l.drop (k + 1)) true w (.returned (.tuple #[.slice A' m' c', .bool true])) w5 from ⟨A', m', c', rfl, hm, ho', Grew.after Hb3.out hg'⟩)
  clear hm ho' hg'
  go_wp2
  go_ret2
  exact Hend.out
 | false =>
  rw [his] at htp
  simp only [his] at HP
  rw [if_neg (by decide)] at htp
  rw [htp]
  clear htp his hk hl ho hs
  go_enter Tryz.func112, Tryz.ntmps112
  go_wp2_with fail
  refine Calls.mono HP.out ?_
  rintro e w3 ⟨rfl, hb3⟩
  have Hend := hid (show TkRow nodeV base 40 3 A n c l false w (.returned (.tuple #[.slice A n c, .bool false])) w3 from ⟨A, n, c, rfl, Hl.out.symm, ownU_below Ho.out hb3, Grew.after hb3 (Grew.refl _ _)⟩)
  clear hb3
  go_wp2
  go_ret2
  exact Hend.out
theorem delM_lease (base g m c k : Nat) (l : List LeaseD) (w : World) (ho : w.ownsRow base 42 3 (.slice (some ⟨g, 0, none⟩) (m + 1) c) (m + 1) (rowsV leaseV l)) (hl : l.length = m + 1) (hn : m + 1 ≤ 1000) (hk : k < m) :
 Calls Tryz.prog 193 #[.slice (some ⟨g, 0, none⟩) (m + 1) c, .int .i64 k, .int .i64 ((k : Int) + 1)] w (InsPost leaseV base 42 3 (some ⟨g, 0, none⟩) (m + 1) c (l.take k ++ l.drop (k + 1)) w) := by
 obtain ⟨cur, hR, hnc, htk⟩ := OwnR.of ho
 have hc63 := hR.cap_
 unfold maxLen at hc63
 obtain ⟨i0, hi0, hz0, hz1, hzb⟩ := info_parts infoLeaseI
 have hinfo : (Tryz.prog.info? 42).map (·.size) = some 3 := by rw [hi0]; simp [hz1]
 have one : ∀ v ∈ rowsV leaseV l, v.oneCell' = true := fun v hv' => by
  obtain ⟨a, _, ha⟩ := List.mem_flatMap.1 hv'
  exact leaseV_oneI a v ha
 obtain ⟨L, hL⟩ : ∃ L, cur.toList = L := ⟨_, rfl⟩
 have hLl : L.length = c * 3 := by rw [← hL, Array.length_toList, hR.size]
 obtain ⟨C1, hC1⟩ : ∃ C1, (L.drop (k * 3 + 3)).take ((m + 1) * 3 - (k * 3 + 3)) = C1 := ⟨_, rfl⟩
 have lC1 : C1.length = (m - k) * 3 := by rw [← hC1, List.length_take, List.length_drop, hLl]; omega
 have m1C : ∀ v ∈ C1, v ∈ rowsV leaseV l := fun v hv' => by
  rw [← hC1, ← List.drop_take, ← hL, htk] at hv'
  exact List.mem_of_mem_drop hv'
 obtain ⟨cur1, hcur1⟩ : ∃ cur1, (cur.toList.take (k * 3) ++ C1 ++ cur.toList.drop (k * 3 + C1.length)).toArray = cur1 := ⟨_, rfl⟩
 have hap : ∀ ty sc, (Builtin.append_ #[24, 24] ty #[.slice (some ⟨g, 0, none⟩) k c, .slice (some ⟨g, (k + 1) * 3, none⟩) (m - k) sc]).run Tryz.prog w.drew = .ok (.slice (some ⟨g, 0, none⟩) m c) (w.drew.setRow g cur1) := fun ty sc => by
  have h := run_append_rowK (P := Tryz.prog) w.drew 24 ty 42 3 Tryz.underlying24 hinfo g k c ⟨g, (k + 1) * 3, none⟩ (m - k) sc cur 42 C1 hR.blk lC1 (fun j v hj => by
   refine hR.cells ((k + 1) * 3) j v ?_
   rw [hL, show (k + 1) * 3 = k * 3 + 3 by omega]
   rw [← hC1, List.getElem?_take] at hj
   split at hj
   · exact hj
   · cases hj) (by omega) (by rw [lC1, hR.size]; omega) (fun v hv' => one v (m1C v hv'))
  rw [h, hcur1, show k + (m - k) = m by omega]
 have hs1 : cur1.size = c * 3 := by rw [← hcur1]; simp only [List.size_toArray, List.length_append, List.length_take, List.length_drop, hL, hLl, lC1]; omega
 have hR1 : OwnR (w.drew.setRow g cur1) base 42 3 g c cur1 := OwnR.set (w := w.drew) ⟨hR.ge, hR.blk, hR.cap_, hR.size⟩ cur1 hs1
 obtain ⟨W1, hW1⟩ : ∃ W1, w.drew.setRow g cur1 = W1 := ⟨_, rfl⟩
 rw [hW1] at hap hR1
 obtain ⟨Z, hZ⟩ : ∃ Z, (Builtin.zeroCells (Value.cells (.agg #[.string ⟨#[]⟩, .string ⟨#[]⟩, .int .i64 0])) 1).toList = Z := ⟨_, rfl⟩
 have lZ : Z.length = 3 := by rw [← hZ, zeroCells_list]; rfl
 obtain ⟨cur2, hcur2⟩ : ∃ cur2, (cur1.toList.take (m * 3) ++ Z ++ cur1.toList.drop (m * 3 + Z.length)).toArray = cur2 := ⟨_, rfl⟩
 have hcl : ∀ ty cc, (Builtin.clear_ #[24] ty #[.slice (some ⟨g, m * 3, none⟩) 1 cc]).run Tryz.prog W1 = .ok (.tuple #[]) (W1.setRow g cur2) := fun ty cc => by
  have h := run_clear_rowK (P := Tryz.prog) W1 24 42 ty (.agg #[.string ⟨#[]⟩, .string ⟨#[]⟩, .int .i64 0]) g (m * 3) 1 cc Tryz.underlying24 Tryz.zeroValue42 (zeroCells_one _ 1 (fun u hu => leaseV_oneI ⟨⟨#[]⟩, ⟨#[]⟩, 0⟩ u hu)) (by decide) cur1 42 hR1.blk (by rw [hs1]; show m * 3 + 1 * 3 ≤ _; omega)
  rw [h, hZ, hcur2]
 have hs2 : cur2.size = c * 3 := by rw [← hcur2]; simp only [List.size_toArray, List.length_append, List.length_take, List.length_drop, Array.length_toList, hs1, lZ]; omega
 have hfin := (hR1.set cur2 hs2).own (n := m) (by omega) (xs := rowsV leaseV (l.take k ++ l.drop (k + 1))) (by
  have h := close_take (L := L) (R := rowsV leaseV l) (a := k * 3) (b := (m + 1) * 3) (s := 3) (by omega) (by omega) (by rw [← hL]; exact htk)
  have e1 : cur2.toList.take (m * 3) = cur1.toList.take (m * 3) := by
   have l1 : (cur1.toList.take (m * 3)).length = m * 3 := by
    have e : cur1.toList.length = cur1.size := Array.length_toList
    rw [List.length_take]; omega
   rw [← hcur2, List.append_assoc, List.take_append_of_le_length (by omega), List.take_of_length_le (by omega)]
  rw [rowsV_append, ← rowsV_take leaseV_len, ← rowsV_drop leaseV_len, show (k + 1) * 3 = k * 3 + 3 by omega, ← h, e1, ← hcur1]
  simp only [hL, lC1]
  rw [← hC1, show (m + 1) * 3 - 3 = m * 3 by omega, show (m - k) * 3 = (m + 1) * 3 - (k * 3 + 3) by omega])
 have hgr : Grew w (W1.setRow g cur2) (.slice (some ⟨g, 0, none⟩) (m + 1) c) (.slice (some ⟨g, 0, none⟩) m c) := by
  rw [← hW1]
  exact (setRow_grewD w g (m + 1) (m + 1) c c cur1).trans (setRow_grew _ g (m + 1) m c c cur2)
 have Hend := hid (show InsPost leaseV base 42 3 (some ⟨g, 0, none⟩) (m + 1) c (l.take k ++ l.drop (k + 1)) w (.returned (.slice (some ⟨g, 0, none⟩) m c)) (W1.setRow g cur2) from ⟨_, m, c, rfl, by rw [List.length_append, List.length_take, List.length_drop]; omega, hfin, hgr⟩)
 have hkk : ((k : Int) == (k : Int) + 1) = false := by rw [beq_eq_false_iff_ne]; omega
 have hw1 : (0 : Int) ≤ (k : Int) + 1 := by omega
 have htn : ((k : Int) + 1).toNat = k + 1 := by omega
 have hb3 : (k : Int) + 1 ≤ (m : Int) + 1 := by omega
 have hb4 : (k : Int) ≤ (m : Int) + 1 := by omega
 have hb5 : (k : Int) ≤ (k : Int) + 1 := by omega
 have hcm : ¬ c = m := by omega
 have hkc : (k : Int) ≤ (c : Int) := by omega
 have hck : ¬ c = k := by omega
 have Hcl := hid hcl
 clear hl hR htk ho hinfo hL hLl hC1 lC1 m1C one hcur1 hs1 hR1 hW1 hZ lZ hcl hcur2 hs2 hfin hgr hi0 hz0 hz1 hzb
 have hck1 : ¬ c = k + 1 := by omega
 go_enter Tryz.func193, Tryz.ntmps193
 go_wp2
 go_region_law (refine step_append_runK rfl _ _ 24 24 rfl (.slice (some ⟨g, 0, none⟩) k c) (.slice (some ⟨g, (k + 1) * 3, none⟩) (m - k) (c - (k + 1))) rfl rfl (hap _ _) ?_)
 go_wp2_with (refine wpList_clear_runK _ rfl _ 24 rfl _ rfl (Hcl.out _ _) ?_)
 go_ret
 exact Hend.out
theorem delE_lease (base g m c : Nat) (l : List LeaseD) (w : World) (ho : w.ownsRow base 42 3 (.slice (some ⟨g, 0, none⟩) (m + 1) c) (m + 1) (rowsV leaseV l)) (hl : l.length = m + 1) (hn : m + 1 ≤ 1000) :
 Calls Tryz.prog 193 #[.slice (some ⟨g, 0, none⟩) (m + 1) c, .int .i64 m, .int .i64 ((m : Int) + 1)] w (InsPost leaseV base 42 3 (some ⟨g, 0, none⟩) (m + 1) c (l.take m ++ l.drop (m + 1)) w) := by
 obtain ⟨cur, hR, hnc, htk⟩ := OwnR.of ho
 have hc63 := hR.cap_
 unfold maxLen at hc63
 obtain ⟨Z, hZ⟩ : ∃ Z, (Builtin.zeroCells (Value.cells (.agg #[.string ⟨#[]⟩, .string ⟨#[]⟩, .int .i64 0])) 1).toList = Z := ⟨_, rfl⟩
 have lZ : Z.length = 3 := by rw [← hZ, zeroCells_list]; rfl
 obtain ⟨cur2, hcur2⟩ : ∃ cur2, (cur.toList.take (m * 3) ++ Z ++ cur.toList.drop (m * 3 + Z.length)).toArray = cur2 := ⟨_, rfl⟩
 have lc : cur.toList.length = c * 3 := by rw [Array.length_toList, hR.size]
 have hcl : ∀ ty cc, (Builtin.clear_ #[24] ty #[.slice (some ⟨g, m * 3, none⟩) 1 cc]).run Tryz.prog w.drew = .ok (.tuple #[]) (w.drew.setRow g cur2) := fun ty cc => by
  have h := run_clear_rowK (P := Tryz.prog) w.drew 24 42 ty (.agg #[.string ⟨#[]⟩, .string ⟨#[]⟩, .int .i64 0]) g (m * 3) 1 cc Tryz.underlying24 Tryz.zeroValue42 (zeroCells_one _ 1 (fun u hu => leaseV_oneI ⟨⟨#[]⟩, ⟨#[]⟩, 0⟩ u hu)) (by decide) cur 42 hR.blk (by rw [hR.size]; show m * 3 + 1 * 3 ≤ _; omega)
  rw [h, hZ, hcur2]
 have hs2 : cur2.size = c * 3 := by rw [← hcur2]; simp only [List.size_toArray, List.length_append, List.length_take, List.length_drop, lc, lZ]; omega
 have hR2 : OwnR (w.drew.setRow g cur2) base 42 3 g c cur2 := OwnR.set (w := w.drew) ⟨hR.ge, hR.blk, hR.cap_, hR.size⟩ cur2 hs2
 have hfin := hR2.own (n := m) (by omega) (xs := rowsV leaseV (l.take m ++ l.drop (m + 1))) (by
  rw [List.drop_eq_nil_of_le (by omega), List.append_nil, ← rowsV_take leaseV_len, ← htk, ← hcur2, List.append_assoc, List.take_append_of_le_length (by rw [List.length_take]; omega), List.take_take, List.take_take, Nat.min_self, Nat.min_eq_left (by omega)])
 have Hend := hid (show InsPost leaseV base 42 3 (some ⟨g, 0, none⟩) (m + 1) c (l.take m ++ l.drop (m + 1)) w (.returned (.slice (some ⟨g, 0, none⟩) m c)) (w.drew.setRow g cur2) from ⟨_, m, c, rfl, by rw [List.length_append, List.length_take, List.length_drop]; omega, hfin, setRow_grewD w g (m + 1) m c c cur2⟩)
 have hkk : ((m : Int) == (m : Int) + 1) = false := by rw [beq_eq_false_iff_ne]; omega
 have hw1 : (0 : Int) ≤ (m : Int) + 1 := by omega
 have htn : ((m : Int) + 1).toNat = m + 1 := by omega
 have hb3 : (m : Int) + 1 ≤ (m : Int) + 1 := by omega
 have hb4 : (m : Int) ≤ (m : Int) + 1 := by omega
 have hcm : ¬ c = m := by omega
 have hkc : (m : Int) ≤ (c : Int) := by omega
 have Hcl := hid hcl
 clear hl hR htk ho hZ lZ hcl hcur2 hs2 hR2 hfin lc
 by_cases hck1 : c = m + 1
 · subst hck1
   go_enter Tryz.func193, Tryz.ntmps193
   go_wp2
   go_region
   go_wp2_with (refine wpList_clear_runK _ rfl _ 24 rfl _ rfl (Hcl.out _ _) ?_)
   go_ret
   exact Hend.out
 · go_enter Tryz.func193, Tryz.ntmps193
   go_wp2
   go_region
   go_wp2_with (refine wpList_clear_runK _ rfl _ 24 rfl _ rfl (Hcl.out _ _) ?_)
   go_ret
   exact Hend.out
theorem del_lease (base g m c k : Nat) (l : List LeaseD) (w : World) (ho : w.ownsRow base 42 3 (.slice (some ⟨g, 0, none⟩) (m + 1) c) (m + 1) (rowsV leaseV l)) (hl : l.length = m + 1) (hn : m + 1 ≤ 1000) (hk : k ≤ m) :
 Calls Tryz.prog 193 #[.slice (some ⟨g, 0, none⟩) (m + 1) c, .int .i64 k, .int .i64 ((k : Int) + 1)] w (InsPost leaseV base 42 3 (some ⟨g, 0, none⟩) (m + 1) c (l.take k ++ l.drop (k + 1)) w) := by
 by_cases h : k = m
 · subst h; exact delE_lease base g k c l w ho hl hn
 · exact delM_lease base g m c k l w ho hl hn (by omega)
theorem setrow_lease (base g n c k : Nat) (l : List LeaseD) (x : LeaseD) (w W : World) (ho : w.ownsRow base 42 3 (.slice (some ⟨g, 0, none⟩) n c) n (rowsV leaseV l)) (hl : l.length = n) (hk : k < n) (hb : Below w.heap.size w W) :
 (∀ j, W.frozen? ⟨g, j, none⟩ = false) ∧ (∀ j, j < n * 3 → ∃ u, W.cell? ⟨g, j, none⟩ = some u) ∧ InsPost leaseV base 42 3 (some ⟨g, 0, none⟩) n c (l.take k ++ x :: l.drop (k + 1)) w (.returned (.slice (some ⟨g, 0, none⟩) n c)) (((W.setCell ⟨g, k * 3, none⟩ (.string x.job)).setCell ⟨g, k * 3 + 1, none⟩ (.string x.node)).setCell ⟨g, k * 3 + 2, none⟩ (.int .i64 x.till)) := by
 obtain ⟨cur, hR, hnc, htk⟩ := OwnR.of (ownU_below ho hb)
 have lc : cur.toList.length = c * 3 := by rw [Array.length_toList, hR.size]
 have hR' := (((hR.setCell (k * 3) (.string x.job)).setCell (k * 3 + 1) (.string x.node)).setCell (k * 3 + 2) (.int .i64 x.till))
 have e0 : (((cur.setIfInBounds (k * 3) (.string x.job)).setIfInBounds (k * 3 + 1) (.string x.node)).setIfInBounds (k * 3 + 2) (.int .i64 x.till)).toList = cur.toList.take (k * 3) ++ leaseV x ++ cur.toList.drop (k * 3 + 3) := by
  have h := setAll_eq (leaseV x) cur.toList (k * 3) (by rw [leaseV_len, lc]; omega)
  rw [leaseV_len] at h
  rw [← h]
  simp only [Array.toList_setIfInBounds]
  rfl
 refine ⟨hR.thaw, fun j hj => ⟨_, hR.cell (List.getElem?_eq_getElem (by rw [lc]; omega))⟩, _, n, c, rfl, by rw [List.length_append, List.length_cons, List.length_take, List.length_drop, hl]; omega, hR'.own hnc ?_, Grew.after hb ((((setCell_grew g (k * 3) n n c c (.string x.job)).trans (setCell_grew g (k * 3 + 1) n n c c (.string x.node))).trans (setCell_grew g (k * 3 + 2) n n c c (.int .i64 x.till))))⟩
 have h := repl_take (L := cur.toList) (X := leaseV x) (R := rowsV leaseV l) (a := k * 3) (b := n * 3) (s := 3) (by omega) (by rw [lc]; omega) (leaseV_len x) htk
 rw [rowsV_append, show rowsV leaseV (x :: l.drop (k + 1)) = leaseV x ++ rowsV leaseV (l.drop (k + 1)) from rfl, ← rowsV_take leaseV_len, ← rowsV_drop leaseV_len, ← List.append_assoc, show (k + 1) * 3 = k * 3 + 3 by omega, ← h, e0]
theorem sput_lease (base : Nat) (A : Option Addr) (n c : Nat) (l : List LeaseD) (x : LeaseD) (w : World) (ho : w.ownsRow base 42 3 (.slice A n c) n (rowsV leaseV l)) (hl : l.length = n) (hn : n ≤ 999) (hs : KSorted LeaseD.job l) (hbase : base ≤ w.heap.size) :
 Calls Tryz.prog 192 #[.slice A n c, .agg (leaseV x).toArray, .func (.func 50) #[] #[]] w (InsPost leaseV base 42 3 A n c (putK LeaseD.job l x) w) := by
 have hput := putK_pos (x := x) hs
 have hple := posL_le (key := LeaseD.job) l (LeaseD.job x)
 have heg := enters_of Tryz.func50 (by kernel_rfl) rfl
 obtain ⟨k, hk⟩ : ∃ k, posL LeaseD.job l (LeaseD.job x) = k := ⟨_, rfl⟩
 have hb1 : Below w.heap.size w (w.alloc (.cells (leaseV x).toArray 42)) := (Below.refl _ _).alloc (Nat.le_refl _) _
 have hB1 : Blk (w.alloc (.cells (leaseV x).toArray 42)) w.heap.size 42 (leaseV x).toArray := heap_alloc_new w _
 have HP := hid (fun W (hb : Below w.heap.size w W) => place_lease (LeaseD.job x) l A n c W (own_slAt (ownU_below ho hb)) hl (by omega) hs)
 have Ho := hid ho
 have Hb1 := hid hb1
 have HB1 := hid hB1
 unfold BsPost at HP
 rw [hk] at hput hple
 simp only [hk] at HP
 cases his : isL LeaseD.job l (LeaseD.job x) with
 | true =>
  rw [his] at hput
  simp only [his] at HP
  obtain ⟨y, hy, hky⟩ := isL_at his
  rw [hk] at hy
  have hkn : k < n := by have := (List.getElem?_eq_some_iff.1 hy).1; omega
  obtain ⟨g, cap, hA, hcap⟩ := ho.form (by omega)
  injection hA with hA _ hc
  subst hA; subst hc
  rw [if_pos rfl] at hput
  have HS := hid (fun W hb => setrow_lease base g n c k l x w W ho hl hkn hb)
  rw [hput]
  clear hput hb1 hB1 his hy hky hk hl ho hple hs
  obtain ⟨job, node, till⟩ := x
  have HB1' := hid (show Blk (w.alloc (.cells #[.string job, .string node, .int .i64 till] 42)) w.heap.size 42 #[.string job, .string node, .int .i64 till] from HB1.out)
  have b0 : (w.alloc (.cells #[.string job, .string node, .int .i64 till] 42)).cell? ⟨w.heap.size, 0, none⟩ = some (.string job) := HB1'.out.cell 0
  have b1 : (w.alloc (.cells #[.string job, .string node, .int .i64 till] 42)).cell? ⟨w.heap.size, 1, none⟩ = some (.string node) := HB1'.out.cell 1
  have b2 : (w.alloc (.cells #[.string job, .string node, .int .i64 till] 42)).cell? ⟨w.heap.size, 2, none⟩ = some (.int .i64 till) := HB1'.out.cell 2
  show Calls Tryz.prog 192 #[.slice (some ⟨g, 0, none⟩) n c, .agg #[.string job, .string node, .int .i64 till], .func (.func 50) #[] #[]] w _
  have Hb1 := hid (show Below w.heap.size w (w.alloc (.cells #[.string job, .string node, .int .i64 till] 42)) from Hb1.out)
  clear HB1
  go_enter Tryz.func192, Tryz.ntmps192
  go_wp2_with fail
  refine Calls.mono (leaseKey_any job node till _) ?_
  rintro e w2 ⟨rfl, hb2⟩
  have Hb2 := hid (Hb1.out.trans (hb2.mono Hb1.out.size))
  have HB2 := hid (HB1'.out.below hb2 HB1'.out.lt)
  clear hb2 b0 b1 b2
  go_wp2_with fail
  refine Calls.mono (HP.out _ Hb2.out) ?_
  rintro e w3 ⟨rfl, hb3⟩
  have Hb3 := hid (Hb2.out.trans (hb3.mono Hb2.out.size))
  have HB3 := hid (HB2.out.below hb3 HB2.out.lt)
  clear hb3 HB2
  obtain ⟨hfz, hce, hend⟩ := HS.out w3 Hb3.out
  have d0 : w3.cell? ⟨w.heap.size, 0, none⟩ = some (.string job) := HB3.out.cell 0
  have d1 : w3.cell? ⟨w.heap.size, 1, none⟩ = some (.string node) := HB3.out.cell 1
  have d2 : w3.cell? ⟨w.heap.size, 2, none⟩ = some (.int .i64 till) := HB3.out.cell 2
  have f0 := hfz (k * 3)
  obtain ⟨u0, p0⟩ := hce (k * 3) (by omega)
  have f1 := hfz (k * 3 + 1)
  obtain ⟨u1, p1⟩ := hce (k * 3 + 1) (by omega)
  have f2 := hfz (k * 3 + 2)
  obtain ⟨u2, p2⟩ := hce (k * 3 + 2) (by omega)
  have Hend := hid hend
  clear hfz hce hend
  go_wp2
  go_ret
  exact Hend.out
 | false =>
  rw [his] at hput
  simp only [his] at HP
  rw [if_neg (by decide)] at hput
  rw [hput]
  have Hl := hid hl
  clear hput hb1 hB1 his hk hl ho hs
  obtain ⟨job, node, till⟩ := x
  have HB1' := hid (show Blk (w.alloc (.cells #[.string job, .string node, .int .i64 till] 42)) w.heap.size 42 #[.string job, .string node, .int .i64 till] from HB1.out)
  have b0 : (w.alloc (.cells #[.string job, .string node, .int .i64 till] 42)).cell? ⟨w.heap.size, 0, none⟩ = some (.string job) := HB1'.out.cell 0
  have b1 : (w.alloc (.cells #[.string job, .string node, .int .i64 till] 42)).cell? ⟨w.heap.size, 1, none⟩ = some (.string node) := HB1'.out.cell 1
  have b2 : (w.alloc (.cells #[.string job, .string node, .int .i64 till] 42)).cell? ⟨w.heap.size, 2, none⟩ = some (.int .i64 till) := HB1'.out.cell 2
  show Calls Tryz.prog 192 #[.slice A n c, .agg #[.string job, .string node, .int .i64 till], .func (.func 50) #[] #[]] w _
  have Hb1 := hid (show Below w.heap.size w (w.alloc (.cells #[.string job, .string node, .int .i64 till] 42)) from Hb1.out)
  clear HB1
  go_enter Tryz.func192, Tryz.ntmps192
  go_wp2_with fail
  refine Calls.mono (leaseKey_any job node till _) ?_
  rintro e w2 ⟨rfl, hb2⟩
  have Hb2 := hid (Hb1.out.trans (hb2.mono Hb1.out.size))
  have HB2 := hid (HB1'.out.below hb2 HB1'.out.lt)
  clear hb2 b0 b1 b2
  go_wp2_with fail
  refine Calls.mono (HP.out _ Hb2.out) ?_
  rintro e w3 ⟨rfl, hb3⟩
  have Hb3 := hid (Hb2.out.trans (hb3.mono Hb2.out.size))
  have HB3 := hid (HB2.out.below hb3 HB2.out.lt)
  clear hb3 HB2
  have d0 : w3.cell? ⟨w.heap.size, 0, none⟩ = some (.string job) := HB3.out.cell 0
  have d1 : w3.cell? ⟨w.heap.size, 1, none⟩ = some (.string node) := HB3.out.cell 1
  have d2 : w3.cell? ⟨w.heap.size, 2, none⟩ = some (.int .i64 till) := HB3.out.cell 2
  have hb4 : Below w.heap.size w (w3.alloc (.cells #[.string job, .string node, .int .i64 till] 42)) := Hb3.out.alloc Hb3.out.size _
  have hB4 : Blk (w3.alloc (.cells #[.string job, .string node, .int .i64 till] 42)) w3.heap.size 42 (leaseV ⟨job, node, till⟩).toArray := heap_alloc_new w3 _
  have HI := hid (ins_lease base A n c w3.heap.size k l ⟨job, node, till⟩ (w3.alloc (.cells #[.string job, .string node, .int .i64 till] 42)) (ownU_below Ho.out hb4) Hl.out (by omega) (by have := Hl.out; omega) hB4 (fun q hq => by have := (Ho.out.lt q hq).2; have := Hb3.out.size; omega) (Nat.le_trans hbase hb4.size))
  have Hb4 := hid hb4
  clear hb4 hB4
  go_wp2_with fail
  refine Calls.mono HI.out ?_
  rintro e w5 ⟨A', m, c', rfl, hm, ho', hg'⟩
  have Hend := hid (show InsPost leaseV base 42 3 A n c (l.take k ++ ⟨job, node, till⟩ :: l.drop k) w (.returned (.slice A' m c')) w5 from ⟨A', m, c', rfl, hm, ho', Grew.after Hb4.out hg'⟩)
  clear hm ho' hg' d0 d1 d2
  go_wp2
  go_ret
  exact Hend.out
theorem stake_lease (base : Nat) (A : Option Addr) (n c : Nat) (l : List LeaseD) (s : ByteArray) (w : World) (ho : w.ownsRow base 42 3 (.slice A n c) n (rowsV leaseV l)) (hl : l.length = n) (hn : n ≤ 999) (hs : KSorted LeaseD.job l) :
 Calls Tryz.prog 115 #[.slice A n c, .string s, .func (.func 50) #[] #[]] w (TkRow leaseV base 42 3 A n c (l.filter fun a => !decide (LeaseD.job a = s)) (isL LeaseD.job l s) w) := by
 have htp := take_pos (s := s) hs
 obtain ⟨k, hk⟩ : ∃ k, posL LeaseD.job l s = k := ⟨_, rfl⟩
 have HP := hid (place_lease s l A n c w (own_slAt ho) hl (by omega) hs)
 have Ho := hid ho
 have Hl := hid hl
 unfold BsPost at HP
 rw [hk] at htp
 simp only [hk] at HP
 cases his : isL LeaseD.job l s with
 | true =>
  rw [his] at htp
  simp only [his] at HP
  obtain ⟨y, hy, hky⟩ := isL_at his
  rw [hk] at hy
  have hkn : k < n := by have := (List.getElem?_eq_some_iff.1 hy).1; omega
  obtain ⟨g, cap, hA, hcap⟩ := ho.form (by omega)
  injection hA with hA _ hc
  subst hA; subst hc
  rw [if_pos rfl] at htp
  rw [htp]
  obtain ⟨m, rfl⟩ : ∃ m, n = m + 1 := ⟨n - 1, by omega⟩
  have HD := hid (fun W (hb : Below w.heap.size w W) => del_lease base g m c k l W (ownU_below ho hb) hl (by omega) (by omega))
  have hw1 : IntKind.i64.wrap ((k : Int) + 1) = (k : Int) + 1 := by rw [IntKind.wrap_i64]; omega
  clear htp his hy hky hk hl ho hs
  go_enter Tryz.func115, Tryz.ntmps115
  go_wp2_with fail
  refine Calls.mono HP.out ?_
  rintro e w3 ⟨rfl, hb3⟩
  have Hb3 := hid hb3
  clear hb3
  go_wp2_with fail
  refine Calls.mono (HD.out _ Hb3.out) ?_
  rintro e w5 ⟨A', m', c', rfl, hm, ho', hg'⟩
  have Hend := hid (show TkRow leaseV base 42 3 (some ⟨g, 0, none⟩) (m + 1) c (l.take k ++ l.drop (k + 1)) true w (.returned (.tuple #[.slice A' m' c', .bool true])) w5 from ⟨A', m', c', rfl, hm, ho', Grew.after Hb3.out hg'⟩)
  clear hm ho' hg'
  go_wp2
  go_ret2
  exact Hend.out
 | false =>
  rw [his] at htp
  simp only [his] at HP
  rw [if_neg (by decide)] at htp
  rw [htp]
  clear htp his hk hl ho hs
  go_enter Tryz.func115, Tryz.ntmps115
  go_wp2_with fail
  refine Calls.mono HP.out ?_
  rintro e w3 ⟨rfl, hb3⟩
  have Hend := hid (show TkRow leaseV base 42 3 A n c l false w (.returned (.tuple #[.slice A n c, .bool false])) w3 from ⟨A, n, c, rfl, Hl.out.symm, ownU_below Ho.out hb3, Grew.after hb3 (Grew.refl _ _)⟩)
  clear hb3
  go_wp2
  go_ret2
  exact Hend.out
end Go.Proofs.YtjgnnobccecpeaaGreatDoor
