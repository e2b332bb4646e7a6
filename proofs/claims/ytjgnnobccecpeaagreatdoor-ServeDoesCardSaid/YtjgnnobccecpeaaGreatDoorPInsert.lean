/- Of the proof of a statement: Insert. -/
import Derived.Lib.Overlaps
import Derived.Laws.Externs
import Derived.Test.YtjgnnobccecpeaaGreatDoorPBSearch
import Derived.Test.YtjgnnobccecpeaaGreatDoorPCopyK
import Derived.Test.YtjgnnobccecpeaaGreatDoorPStOwn
set_option linter.unusedVariables false
set_option linter.unusedSimpArgs false
set_option maxRecDepth 100000
set_option maxHeartbeats 8000000
/- slices.Insert of one row into a row of the call's own. -/
namespace Go.Proofs.YtjgnnobccecpeaaGreatDoor
open Go.Lib (hid)
open Go.RowKit
theorem push_recR {P : Program} {w : World} {ops : Array Oper} {rest : List Oper} {o : Oper} {a : Act} {Q : Exit → Act → World → Prop} {α : Type} (enc : α → List Value) (hgd : o.guard = none) (s x : Operand) (t e : TypeId) (z : Value) (sz bytes : Nat) (ho : o.op = .call { callee := .builtin .append, args := #[s, x], argTypes := #[t, t] })
 (ht : P.underlying t = some (.slice e)) (hinfo : (P.info? e).map (fun i => (i.zero, i.size, i.bytes)) = some (some z, sz, bytes)) (hzs : z.cells.size = sz) (hsz : 0 < sz)
 (henc : ∀ a, (enc a).length = sz) (h1 : ∀ a, ∀ u ∈ enc a, u.oneCell' = true)
 (base : Nat) (A : Option Addr) (m c : Nat) (l : List α) (hs : a.eval s = .slice A m c) (hown : w.ownsRow base e sz (.slice A m c) m (rowsV enc l))
 (b : α) (g c2 : Nat) (hr : RowAt w g 0 (enc b)) (hx : a.eval x = .slice (some ⟨g, 0, none⟩) 1 c2) (hm : (m + 1) * bytes ≤ 140737488355328) (h63 : m + 1 ≤ maxLen) (hbase : base ≤ w.heap.size)
 (h : ∀ A' c' w', w'.ownsRow base e sz (.slice A' (m + 1) c') (m + 1) (rowsV enc (l ++ [b])) → Grew w w' (.slice A m c) (.slice A' (m + 1) c') → wpList P ops Q rest (a.put o.dst (.slice A' (m + 1) c')) w') :
 wpList P ops Q (o :: rest) a w := by
 obtain ⟨i0, hi, hz0, hz1, hz2⟩ := info_parts hinfo
 refine wpList_append_own_at _ hgd s x t ho base e i0 z sz bytes ht hi hz0 hz1 hz2 hzs hsz _ m _ hs hown ⟨g, 0, none⟩ 1 c2 (enc b) hx (by rw [henc, Nat.one_mul]) (fun j u hu => by
  have ea : (⟨g, 0, none⟩ : Addr).add j = ⟨g, 0 + j, none⟩ := by unfold Addr.add; split <;> simp_all
  rw [ea]; exact hr j u hu) (fun u hu => h1 _ _ hu) h63 hm hbase (fun v' w' o' g' hnil hb => ?_)
 have e1 : rowsV enc l ++ enc b = rowsV enc (l ++ [b]) := by rw [rowsV_append, rowsV_one]
 rw [e1] at o'
 obtain ⟨g, cap, hv, _⟩ := o'.form (by omega)
 subst hv
 refine h _ _ _ o' ⟨g', ?_⟩
 rcases hb with hb | hb
 · exact .inl hb
 · exact .inr ⟨_, hb, Nat.le_refl _⟩
def InsPost {α : Type} (enc : α → List Value) (base : Nat) (T : TypeId) (sz : Nat) (A : Option Addr) (n c : Nat) (l : List α) (w : World) (e : Ending) (w' : World) : Prop :=
 ∃ A' m c', e = .returned (.slice A' m c') ∧ m = l.length ∧ w'.ownsRow base T sz (.slice A' m c') m (rowsV enc l) ∧ Grew w w' (.slice A n c) (.slice A' m c')
theorem infoJobI : (Tryz.prog.info? 38).map (fun i => (i.zero, i.size, i.bytes)) = some (some (.agg #[.string ⟨#[]⟩, .int .i64 0, .int .i64 0, .int .i64 0, .string ⟨#[]⟩]), 5, 56) := by kernel_rfl
theorem jobV_oneI (a : JobD) (u : Value) (h : u ∈ jobV a) : u.oneCell' = true := by
 simp only [jobV, List.mem_cons, List.not_mem_nil, or_false] at h
 rcases h with rfl | rfl | rfl | rfl | rfl <;> rfl
theorem insE_job (base : Nat) (A : Option Addr) (n c vb : Nat) (l : List JobD) (x : JobD) (w : World) (ho : w.ownsRow base 38 5 (.slice A n c) n (rowsV jobV l)) (hl : l.length = n) (hn : n ≤ 1000) (hv : RowAt w vb 0 (jobV x)) (hbase : base ≤ w.heap.size) :
 Calls Tryz.prog 185 #[.slice A n c, .int .i64 n, .slice (some ⟨vb, 0, none⟩) 1 1] w (InsPost jobV base 38 5 A n c (l ++ [x]) w) := by
 have Ho := hid ho
 have Hv := hid hv
 have Hl := hid (show n + 1 = (l ++ [x]).length by simp [hl])
 clear ho hv hl
 by_cases hcn : c = n
 · subst hcn
   go_enter Tryz.func185, Tryz.ntmps185
   go_wp2_with (at_builtin; refine push_recR jobV rfl _ _ 22 38 (.agg #[.string ⟨#[]⟩, .int .i64 0, .int .i64 0, .int .i64 0, .string ⟨#[]⟩]) 5 56 rfl Tryz.underlying22 infoJobI rfl (by decide) jobV_len jobV_oneI base A c c l rfl Ho.out x vb 1 Hv.out rfl (by omega) (by unfold maxLen; omega) hbase ?_; intro A' c' w' ho' hg')
   go_ret
   exact ⟨A', c + 1, c', rfl, Hl.out, ho', hg'⟩
 · go_enter Tryz.func185, Tryz.ntmps185
   go_wp2_with (at_builtin; refine push_recR jobV rfl _ _ 22 38 (.agg #[.string ⟨#[]⟩, .int .i64 0, .int .i64 0, .int .i64 0, .string ⟨#[]⟩]) 5 56 rfl Tryz.underlying22 infoJobI rfl (by decide) jobV_len jobV_oneI base A n c l rfl Ho.out x vb 1 Hv.out rfl (by omega) (by unfold maxLen; omega) hbase ?_; intro A' c' w' ho' hg')
   go_ret
   exact ⟨A', n + 1, c', rfl, Hl.out, ho', hg'⟩
theorem insS_job (base g n c vb k : Nat) (l : List JobD) (x : JobD) (w : World) (ho : w.ownsRow base 38 5 (.slice (some ⟨g, 0, none⟩) n c) n (rowsV jobV l)) (hl : l.length = n) (hn : n ≤ 1000) (hk : k < n) (hroom : n + 1 ≤ c) (hv : Blk w vb 38 (jobV x).toArray) (hvg : vb ≠ g) (hbase : base ≤ w.heap.size) :
 Calls Tryz.prog 185 #[.slice (some ⟨g, 0, none⟩) n c, .int .i64 k, .slice (some ⟨vb, 0, none⟩) 1 1] w (InsPost jobV base 38 5 (some ⟨g, 0, none⟩) n c (l.take k ++ x :: l.drop k) w) := by
 obtain ⟨cur, hR, hnc, htk⟩ := OwnR.of ho
 have hc63 := hR.cap_
 unfold maxLen at hc63
 have Hl := hid hl
 have HR := hid hR
 have Htk := hid htk
 have Hv := hid hv
 have hb2 : ¬ (c = k + 1) := by omega
 have hb4 : ¬ (c = k) := by omega
 have hz2 : ¬ ((k : Int) = (n : Int)) := by omega
 have hw1 : IntKind.i64.wrap ((k : Int) + 1) = (k : Int) + 1 := by rw [IntKind.wrap_i64]; omega
 have hb1 : (0 : Int) ≤ (k : Int) + 1 := by omega
 have htn : ((k : Int) + 1).toNat = k + 1 := by omega
 have hb3 : (k : Int) ≤ (n : Int) + 1 := by omega
 have hb5 : (k : Int) + 1 ≤ (n : Int) + 1 := by omega
 have hinfo : (Tryz.prog.info? 38).map (·.size) = some 5 := by
  obtain ⟨i0, hi, hz0, hz1, hz2⟩ := info_parts infoJobI
  rw [hi]; simp [hz1]
 have hsa : w.shape? vb = some (38, 5) := by unfold World.shape?; rw [show w.heap[vb]? = some (.cells (jobV x).toArray 38 (0, 0)) from hv]; rfl
 have hsb : w.shape? g = some (38, cur.size) := by unfold World.shape?; rw [hR.blk]
 have hov : ∀ lb cb, (callFunc 254 #[.slice (some ⟨vb, 0, none⟩) 1 1, .slice (some ⟨g, (k + 1) * 5, none⟩) lb cb]).run Tryz.prog w = .ok (.value (.bool false)) w := fun lb cb => by
  rw [run_callFunc_extern Tryz.func254 (by kernel_rfl) (by kernel_rfl) (by kernel_rfl) (e := Extern.SlicesOverlaps.overlaps #[22, 22] #[4]) (by kernel_rfl),
   Lib.run_overlaps_apart w 22 4 38 Tryz.underlying22 5 Tryz.sizeOf38 ⟨vb, 0, none⟩ ⟨g, (k + 1) * 5, none⟩ 1 1 lb cb hvg 38 38 5 cur.size hsa hsb (by rw [hR.size]; omega) (hv.thaw 0) (hv.thaw 5)]
  rfl
 obtain ⟨L, hL⟩ : ∃ L, cur.toList = L := ⟨_, rfl⟩
 have hLl : L.length = c * 5 := by rw [← hL, Array.length_toList, hR.size]
 obtain ⟨C1, hC1⟩ : ∃ C1, (L.drop (k * 5)).take (n * 5 - k * 5) = C1 := ⟨_, rfl⟩
 have lC1 : C1.length = (n - k) * 5 := by rw [← hC1, List.length_take, List.length_drop, hLl]; omega
 have m1C : ∀ v ∈ C1, v ∈ rowsV jobV l := fun v hv' => by
  rw [← hC1, ← List.drop_take, ← hL, htk] at hv'
  exact List.mem_of_mem_drop hv'
 have one : ∀ v ∈ rowsV jobV l, v.oneCell' = true := fun v hv' => by
  obtain ⟨a, _, ha⟩ := List.mem_flatMap.1 hv'
  exact jobV_oneI a v ha
 have hcp1 : ∀ ty dc sc, (Builtin.copy_ #[22, 22] ty #[.slice (some ⟨g, (k + 1) * 5, none⟩) (n - k) dc, .slice (some ⟨g, k * 5, none⟩) (n + 1 - k) sc]).run Tryz.prog w.drew = .ok (.int .i64 ((n - k : Nat) : Int)) (w.drew.setRow g (cur.toList.take ((k + 1) * 5) ++ C1 ++ cur.toList.drop ((k + 1) * 5 + C1.length)).toArray) := fun ty dc sc => by
  have h := run_copy_rowK (P := Tryz.prog) w.drew 22 22 ty 38 5 g ((k + 1) * 5) (n - k) dc ⟨g, k * 5, none⟩ (n + 1 - k) sc cur 38 C1 Tryz.underlying22 hinfo hR.blk (by rw [lC1]; congr 1; show _ = min _ _; omega)
   (fun j v hj => (hR.cells (k * 5)) j v (by
    rw [hL]
    rw [← hC1, List.getElem?_take] at hj
    split at hj
    · exact hj
    · cases hj)) (by rw [lC1, hR.size]; omega) (fun v hv' => one v (m1C v hv'))
  rw [h]
  congr 2
  congr 1
  show min _ _ = _
  omega
 obtain ⟨cur1, hcur1⟩ : ∃ cur1, (cur.toList.take ((k + 1) * 5) ++ C1 ++ cur.toList.drop ((k + 1) * 5 + C1.length)).toArray = cur1 := ⟨_, rfl⟩
 rw [hcur1] at hcp1
 have hs1 : cur1.size = c * 5 := by rw [← hcur1]; simp only [List.size_toArray, List.length_append, List.length_take, List.length_drop, hL, hLl, lC1]; omega
 have hR1 : OwnR (w.drew.setRow g cur1) base 38 5 g c cur1 := OwnR.set (w := w.drew) ⟨hR.ge, hR.blk, hR.cap_, hR.size⟩ cur1 hs1
 have hv1 : Blk (w.drew.setRow g cur1) vb 38 (jobV x).toArray := (setRow_other w.drew g vb cur1 hvg).trans hv
 obtain ⟨W1, hW1⟩ : ∃ W1, w.drew.setRow g cur1 = W1 := ⟨_, rfl⟩
 rw [hW1] at hcp1 hR1 hv1
 obtain ⟨cur2, hcur2⟩ : ∃ cur2, (cur1.toList.take (k * 5) ++ jobV x ++ cur1.toList.drop (k * 5 + (jobV x).length)).toArray = cur2 := ⟨_, rfl⟩
 have hcp2 : ∀ ty dc, (Builtin.copy_ #[22, 22] ty #[.slice (some ⟨g, k * 5, none⟩) (n + 1 - k) dc, .slice (some ⟨vb, 0, none⟩) 1 1]).run Tryz.prog W1 = .ok (.int .i64 ((1 : Nat) : Int)) (W1.setRow g cur2) := fun ty dc => by
  have h := run_copy_rowK (P := Tryz.prog) W1 22 22 ty 38 5 g (k * 5) (n + 1 - k) dc ⟨vb, 0, none⟩ 1 1 cur1 38 (jobV x) Tryz.underlying22 hinfo hR1.blk (by rw [jobV_len]; show _ = min _ _ * _; rw [Nat.min_eq_left (by omega)])
   (fun j v hj => by
    have ea : (⟨vb, 0, none⟩ : Addr).add j = ⟨vb, j, none⟩ := by unfold Addr.add; split <;> simp_all
    rw [ea, hv1.cell j, List.getElem?_toArray]; exact hj) (by rw [jobV_len, hs1]; omega) (fun v hv' => jobV_oneI x v hv')
  rw [h, hcur2]
  congr 2
  congr 1
  show min _ _ = _
  omega
 have hs2 : cur2.size = c * 5 := by rw [← hcur2]; simp only [List.size_toArray, List.length_append, List.length_take, List.length_drop, Array.length_toList, hs1, jobV_len]; omega
 have hfin := (hR1.set cur2 hs2).own (n := n + 1) (by omega) (xs := rowsV jobV (l.take k ++ x :: l.drop k)) (by
  have h := shift_take (L := L) (R := rowsV jobV l) (X := jobV x) (a := k * 5) (b := n * 5) (s := 5) (Nat.mul_le_mul_right _ (by omega)) (by omega) (jobV_len x) (by rw [← hL]; exact htk)
  rw [rowsV_append, show rowsV jobV (x :: l.drop k) = jobV x ++ rowsV jobV (l.drop k) from rfl, ← rowsV_take jobV_len, ← rowsV_drop jobV_len, ← List.append_assoc, ← h, ← hcur2, ← hcur1]
  simp only [hL, lC1, jobV_len]
  rw [← hC1, show (k + 1) * 5 = k * 5 + 5 by omega, show (n + 1) * 5 = n * 5 + 5 by omega, show (n - k) * 5 = n * 5 - k * 5 by omega])
 have hgr : Grew w (W1.setRow g cur2) (.slice (some ⟨g, 0, none⟩) n c) (.slice (some ⟨g, 0, none⟩) (n + 1) c) := by
  rw [← hW1]
  exact (show Grew w (w.drew.setRow g cur1) (.slice (some ⟨g, 0, none⟩) n c) (.slice (some ⟨g, 0, none⟩) n c) from setRow_grewD w g n n c c cur1).trans (setRow_grew _ g n (n + 1) c c cur2)
 have Hend := hid (show InsPost jobV base 38 5 (some ⟨g, 0, none⟩) n c (l.take k ++ x :: l.drop k) w (.returned (.slice (some ⟨g, 0, none⟩) (n + 1) c)) (W1.setRow g cur2) from ⟨_, n + 1, c, rfl, by rw [List.length_append, List.length_cons, List.length_take, List.length_drop]; omega, hfin, hgr⟩)
 clear hl hR htk hv hvg ho Hl HR Htk Hv hsa hsb hinfo hL hLl hC1 lC1 m1C one hcur1 hs1 hR1 hv1 hW1 hcur2 hs2 hfin hgr
 go_enter Tryz.func185, Tryz.ntmps185
 go_wp2_with (simp only [hov])
 go_region_law (refine step_copy_runK rfl _ _ 22 22 rfl _ _ (by simp [Act.eval, Act.put]) (by simp [Act.eval, Act.put]) (hcp1 _ _ _) ?_)
 go_wp2_with (refine wpList_copy_runK _ rfl _ _ 22 22 rfl _ _ rfl rfl (hcp2 _ _) ?_)
 go_ret
 exact Hend.out
theorem insG_job (base g n vb k : Nat) (l : List JobD) (x : JobD) (w : World) (ho : w.ownsRow base 38 5 (.slice (some ⟨g, 0, none⟩) n n) n (rowsV jobV l)) (hl : l.length = n) (hn : n ≤ 1000) (hk : k < n) (hv : Blk w vb 38 (jobV x).toArray) (hbase : base ≤ w.heap.size) :
 Calls Tryz.prog 185 #[.slice (some ⟨g, 0, none⟩) n n, .int .i64 k, .slice (some ⟨vb, 0, none⟩) 1 1] w (InsPost jobV base 38 5 (some ⟨g, 0, none⟩) n n (l.take k ++ x :: l.drop k) w) := by
 obtain ⟨cur, hR, hnc, htk⟩ := OwnR.of ho
 have hz2 : ¬ ((k : Int) = (n : Int)) := by omega
 have hb4 : ¬ (n = k) := by omega
 have hw1 : IntKind.i64.wrap ((k : Int) + 1) = (k : Int) + 1 := by rw [IntKind.wrap_i64]; omega
 have hb1 : (0 : Int) ≤ (k : Int) + 1 := by omega
 have htn : ((k : Int) + 1).toNat = k + 1 := by omega
 have hb5 : (k : Int) + 1 ≤ (n : Int) + 1 := by omega
 have hb3 : (k : Int) ≤ (n : Int) := by omega
 obtain ⟨i0, hi0, hz0, hz1, hzb⟩ := info_parts infoJobI
 have hinfo : (Tryz.prog.info? 38).map (·.size) = some 5 := by rw [hi0]; simp [hz1]
 obtain ⟨L, hL⟩ : ∃ L, cur.toList = L := ⟨_, rfl⟩
 have hLl : L.length = n * 5 := by rw [← hL, Array.length_toList, hR.size]
 have hLr : L = rowsV jobV l := by rw [← htk, hL, List.take_of_length_le (by omega)]
 have one : ∀ v ∈ rowsV jobV l, v.oneCell' = true := fun v hv' => by
  obtain ⟨a, _, ha⟩ := List.mem_flatMap.1 hv'
  exact jobV_oneI a v ha
 have hold : (Builtin.firstCells i0.size k (.slice (some ⟨g, 0, none⟩) k n)).run Tryz.prog w.drew = .ok (L.take (k * 5)).toArray w.drew := by
  refine run_firstCells_some (P := Tryz.prog) w.drew i0.size k ⟨g, 0, none⟩ k n _ (by rw [List.length_take, hz1]; omega) (fun j v hj => ?_)
  have h := hR.cells 0 j v (by
   rw [List.drop_zero, hL]
   rw [List.getElem?_take] at hj
   split at hj
   · exact hj
   · cases hj)
  exact h
 obtain ⟨C, hC⟩ : ∃ C, grownCap w (n + 1) n 38 = C := ⟨_, rfl⟩
 have hCn : n + 1 ≤ C := by rw [← hC]; exact grownCap_ge w _ _ _
 have hCm : C ≤ maxLen := by rw [← hC]; exact grownCap_le_maxLen w _ _ _ (by unfold maxLen; omega)
 have hCm' := hCm
 unfold maxLen at hCm'
 obtain ⟨cur0, hcur0⟩ : ∃ cur0, (L.take (k * 5)).toArray ++ Builtin.zeroCells (Value.cells (.agg #[.string ⟨#[]⟩, .int .i64 0, .int .i64 0, .int .i64 0, .string ⟨#[]⟩])) (n + 1 - k) ++ Builtin.zeroCells (Value.cells (.agg #[.string ⟨#[]⟩, .int .i64 0, .int .i64 0, .int .i64 0, .string ⟨#[]⟩])) (C - (n + 1)) = cur0 := ⟨_, rfl⟩
 have happ : ∀ ty, (Builtin.append_ #[22, 3] ty #[.slice (some ⟨g, 0, none⟩) k n, .int .i64 ((n : Int) + 1 - (k : Int))]).run Tryz.prog w = .ok (.slice (some ⟨w.heap.size, 0, none⟩) (n + 1) C) (w.drew.alloc (.cells cur0 38)) := fun ty => by
  have h := Lib.run_append_grow_zeros w 22 3 ty 38 i0 _ .i64 .i64 Tryz.underlying22 Tryz.underlying3 hi0 hz0 (some ⟨g, 0, none⟩) k n (L.take (k * 5)) hold (n + 1 - k) (by omega) (by omega) (by omega) (by omega) (by rw [hzb]; omega) (by rw [hzb, show k + (n + 1 - k) = n + 1 by omega]; exact growslice_fits (by omega) (by omega))
  rw [show k + (n + 1 - k) = n + 1 by omega, hC, hcur0, show ((n + 1 - k : Nat) : Int) = (n : Int) + 1 - k by omega] at h
  exact h
 have hs0 : cur0.size = C * 5 := by rw [← hcur0]; simp only [Array.size_append, List.size_toArray, size_zeroCells, List.length_take, hLl]; show min _ _ + _ * 5 + _ * 5 = _; omega
 have h0t : cur0.toList.take (k * 5) = L.take (k * 5) := by
  rw [← hcur0, Array.toList_append, Array.toList_append, List.append_assoc, List.take_append_of_le_length (by rw [List.length_take]; omega), List.take_of_length_le (by rw [List.length_take]; omega)]
 obtain ⟨W1, hW1⟩ : ∃ W1, w.drew.alloc (.cells cur0 38) = W1 := ⟨_, rfl⟩
 have hb1W : Below w.heap.size w W1 := by rw [← hW1]; exact (Below.refl w.heap.size w).drew.alloc (Nat.le_refl _) _
 have hR1 : OwnR W1 base 38 5 w.heap.size C cur0 := by rw [← hW1]; exact ⟨hbase, heap_alloc_new w.drew _, hCm, hs0⟩
 have hg1 : OwnR W1 base 38 5 g n cur := ⟨hR.ge, (hb1W.block g (Array.getElem?_eq_some_iff.1 hR.blk).1).trans hR.blk, hR.cap_, hR.size⟩
 have hv1 : Blk W1 vb 38 (jobV x).toArray := hv.below hb1W hv.lt
 have hgl : g < w.heap.size := (Array.getElem?_eq_some_iff.1 hR.blk).1
 rw [hW1] at happ
 obtain ⟨cur1, hcur1⟩ : ∃ cur1, (cur0.toList.take (k * 5) ++ jobV x ++ cur0.toList.drop (k * 5 + (jobV x).length)).toArray = cur1 := ⟨_, rfl⟩
 have hcp1 : ∀ ty dc, (Builtin.copy_ #[22, 22] ty #[.slice (some ⟨w.heap.size, k * 5, none⟩) (n + 1 - k) dc, .slice (some ⟨vb, 0, none⟩) 1 1]).run Tryz.prog W1 = .ok (.int .i64 ((1 : Nat) : Int)) (W1.setRow w.heap.size cur1) := fun ty dc => by
  have h := run_copy_rowK (P := Tryz.prog) W1 22 22 ty 38 5 w.heap.size (k * 5) (n + 1 - k) dc ⟨vb, 0, none⟩ 1 1 cur0 38 (jobV x) Tryz.underlying22 hinfo hR1.blk (by rw [jobV_len]; show _ = min _ _ * _; rw [Nat.min_eq_left (by omega)])
   (fun j v hj => by
    have ea : (⟨vb, 0, none⟩ : Addr).add j = ⟨vb, j, none⟩ := by unfold Addr.add; split <;> simp_all
    rw [ea, hv1.cell j, List.getElem?_toArray]; exact hj) (by rw [jobV_len, hs0]; omega) (fun v hv' => jobV_oneI x v hv')
  rw [h, hcur1]
  congr 2
  congr 1
  show min _ _ = _
  omega
 have hs1 : cur1.size = C * 5 := by rw [← hcur1]; simp only [List.size_toArray, List.length_append, List.length_take, List.length_drop, Array.length_toList, hs0, jobV_len]; omega
 have hR2 := hR1.set cur1 hs1
 have hg2 : OwnR (W1.setRow w.heap.size cur1) base 38 5 g n cur := ⟨hg1.ge, (setRow_other W1 w.heap.size g cur1 (by omega)).trans hg1.blk, hg1.cap_, hg1.size⟩
 obtain ⟨W2, hW2⟩ : ∃ W2, W1.setRow w.heap.size cur1 = W2 := ⟨_, rfl⟩
 have hb2W : Below w.heap.size w W2 := by rw [← hW2]; exact hb1W.trans ⟨rfl, rfl, rfl, by simp [World.setRow], fun q hq => setRow_other W1 w.heap.size q cur1 (by omega)⟩
 rw [hW2] at hcp1 hR2 hg2
 obtain ⟨D1, hD1⟩ : ∃ D1, L.drop (k * 5) = D1 := ⟨_, rfl⟩
 have lD1 : D1.length = (n - k) * 5 := by rw [← hD1, List.length_drop, hLl]; omega
 obtain ⟨cur2, hcur2⟩ : ∃ cur2, (cur1.toList.take ((k + 1) * 5) ++ D1 ++ cur1.toList.drop ((k + 1) * 5 + D1.length)).toArray = cur2 := ⟨_, rfl⟩
 have hcp2 : ∀ ty dc sc, (Builtin.copy_ #[22, 22] ty #[.slice (some ⟨w.heap.size, (k + 1) * 5, none⟩) (n - k) dc, .slice (some ⟨g, k * 5, none⟩) (n - k) sc]).run Tryz.prog W2.drew = .ok (.int .i64 ((n - k : Nat) : Int)) (W2.drew.setRow w.heap.size cur2) := fun ty dc sc => by
  have h := run_copy_rowK (P := Tryz.prog) W2.drew 22 22 ty 38 5 w.heap.size ((k + 1) * 5) (n - k) dc ⟨g, k * 5, none⟩ (n - k) sc cur1 38 D1 Tryz.underlying22 hinfo hR2.blk (by rw [lD1]; congr 1; show _ = min _ _; omega)
   (fun j v hj => hg2.cells (k * 5) j v (by rw [hL, hD1]; exact hj)) (by rw [lD1, hs1]; omega) (fun v hv' => one v (by rw [← hLr]; rw [← hD1] at hv'; exact List.mem_of_mem_drop hv'))
  rw [h, hcur2]
  congr 2
  congr 1
  show min _ _ = _
  omega
 have hs2 : cur2.size = C * 5 := by rw [← hcur2]; simp only [List.size_toArray, List.length_append, List.length_take, List.length_drop, Array.length_toList, hs1, lD1]; omega
 have hR3 : OwnR (W2.drew.setRow w.heap.size cur2) base 38 5 w.heap.size C cur2 := OwnR.set (w := W2.drew) ⟨hR2.ge, hR2.blk, hR2.cap_, hR2.size⟩ cur2 hs2
 have hfin := hR3.own (n := n + 1) hCn (xs := rowsV jobV (l.take k ++ x :: l.drop k)) (by
  have h := grow_take (L := cur0.toList) (X := jobV x) (D := D1) (a := k * 5) (s := 5) (by have e : cur0.toList.length = cur0.size := Array.length_toList; omega) (jobV_len x)
  rw [h0t] at h
  rw [rowsV_append, show rowsV jobV (x :: l.drop k) = jobV x ++ rowsV jobV (l.drop k) from rfl, ← rowsV_take jobV_len, ← rowsV_drop jobV_len, ← List.append_assoc, ← hLr, hD1, ← h, ← hcur2, ← hcur1]
  simp only [lD1, jobV_len, h0t]
  rw [show (k + 1) * 5 = k * 5 + 5 by omega, show (n + 1) * 5 = k * 5 + 5 + (n - k) * 5 by omega])
 have hgr : Grew w (W2.drew.setRow w.heap.size cur2) (.slice (some ⟨g, 0, none⟩) n n) (.slice (some ⟨w.heap.size, 0, none⟩) (n + 1) C) := by
  have hb3 : Below w.heap.size w (W2.drew.setRow w.heap.size cur2) := hb2W.trans ⟨rfl, rfl, rfl, by simp [World.setRow], fun q hq => setRow_other W2.drew w.heap.size q cur2 (by omega)⟩
  exact ⟨⟨hb3.os, hb3.tape, hb3.output, hb3.size, fun q hq _ => hb3.block q hq⟩, .inr ⟨w.heap.size, rfl, Nat.le_refl _⟩⟩
 have Hend := hid (show InsPost jobV base 38 5 (some ⟨g, 0, none⟩) n n (l.take k ++ x :: l.drop k) w (.returned (.slice (some ⟨w.heap.size, 0, none⟩) (n + 1) C)) (W2.drew.setRow w.heap.size cur2) from ⟨_, n + 1, C, rfl, by rw [List.length_append, List.length_cons, List.length_take, List.length_drop]; omega, hfin, hgr⟩)
 have Happ := hid happ
 have Hcp1 := hid hcp1
 have hC1 : ¬ C = k := by omega
 have hC2 : ¬ C = k + 1 := by omega
 clear hl hR htk hv ho hinfo hL hLl hLr one hold hC hCm hcur0 happ hs0 h0t hW1 hb1W hR1 hg1 hv1 hcur1 hcp1 hs1 hR2 hg2 hW2 hb2W hD1 lD1 hcur2 hs2 hR3 hfin hgr hi0 hz0 hz1 hzb
 go_enter Tryz.func185, Tryz.ntmps185
 go_wp2_with (first | (at_builtin; refine Lib.wpList_append_run _ rfl _ _ 22 3 rfl _ _ rfl rfl _ _ (Happ.out _) ?_) | (refine wpList_copy_runK _ rfl _ _ 22 22 rfl _ _ rfl rfl (Hcp1.out _ _) ?_))
 go_region_law (refine step_copy_runK rfl _ _ 22 22 rfl _ _ (by simp [Act.eval, Act.put]) (by simp [Act.eval, Act.put]) (hcp2 _ _ _) ?_)
 go_wp2
 go_ret
 exact Hend.out
theorem ins_job (base : Nat) (A : Option Addr) (n c vb k : Nat) (l : List JobD) (x : JobD) (w : World) (ho : w.ownsRow base 38 5 (.slice A n c) n (rowsV jobV l)) (hl : l.length = n) (hn : n ≤ 1000) (hk : k ≤ n) (hv : Blk w vb 38 (jobV x).toArray) (hvg : ∀ q, (Value.slice A n c).ownBlock = some q → vb ≠ q) (hbase : base ≤ w.heap.size) :
 Calls Tryz.prog 185 #[.slice A n c, .int .i64 k, .slice (some ⟨vb, 0, none⟩) 1 1] w (InsPost jobV base 38 5 A n c (l.take k ++ x :: l.drop k) w) := by
 by_cases hkn : k = n
 · subst hkn
   rw [List.take_of_length_le (by omega), List.drop_eq_nil_of_le (by omega)]
   exact insE_job base A k c vb l x w ho hl hn (fun j u hu => by rw [Nat.zero_add, hv.cell j, List.getElem?_toArray]; exact hu) hbase
 · obtain ⟨g, cap, hA, hcap⟩ := ho.form (by omega)
   injection hA with hA _ hc
   subst hA; subst hc
   by_cases hroom : n + 1 ≤ c
   · exact insS_job base g n c vb k l x w ho hl hn (by omega) hroom hv (hvg g rfl) hbase
   · obtain rfl : c = n := by obtain ⟨_, _, h, _⟩ := OwnR.of ho; omega
     exact insG_job base g c vb k l x w ho hl hn (by omega) hv hbase
theorem infoNodeI : (Tryz.prog.info? 40).map (fun i => (i.zero, i.size, i.bytes)) = some (some (.agg #[.string ⟨#[]⟩, .int .i64 0, .string ⟨#[]⟩]), 3, 40) := by kernel_rfl
theorem nodeV_oneI (a : NodeD) (u : Value) (h : u ∈ nodeV a) : u.oneCell' = true := by
 simp only [nodeV, List.mem_cons, List.not_mem_nil, or_false] at h
 rcases h with rfl | rfl | rfl <;> rfl
theorem insE_node (base : Nat) (A : Option Addr) (n c vb : Nat) (l : List NodeD) (x : NodeD) (w : World) (ho : w.ownsRow base 40 3 (.slice A n c) n (rowsV nodeV l)) (hl : l.length = n) (hn : n ≤ 1000) (hv : RowAt w vb 0 (nodeV x)) (hbase : base ≤ w.heap.size) :
 Calls Tryz.prog 187 #[.slice A n c, .int .i64 n, .slice (some ⟨vb, 0, none⟩) 1 1] w (InsPost nodeV base 40 3 A n c (l ++ [x]) w) := by
 have Ho := hid ho
 have Hv := hid hv
 have Hl := hid (show n + 1 = (l ++ [x]).length by simp [hl])
 clear ho hv hl
 by_cases hcn : c = n
 · subst hcn
   go_enter Tryz.func187, Tryz.ntmps187
   go_wp2_with (at_builtin; refine push_recR nodeV rfl _ _ 23 40 (.agg #[.string ⟨#[]⟩, .int .i64 0, .string ⟨#[]⟩]) 3 40 rfl Tryz.underlying23 infoNodeI rfl (by decide) nodeV_len nodeV_oneI base A c c l rfl Ho.out x vb 1 Hv.out rfl (by omega) (by unfold maxLen; omega) hbase ?_; intro A' c' w' ho' hg')
   go_ret
   exact ⟨A', c + 1, c', rfl, Hl.out, ho', hg'⟩
 · go_enter Tryz.func187, Tryz.ntmps187
   go_wp2_with (at_builtin; refine push_recR nodeV rfl _ _ 23 40 (.agg #[.string ⟨#[]⟩, .int .i64 0, .string ⟨#[]⟩]) 3 40 rfl Tryz.underlying23 infoNodeI rfl (by decide) nodeV_len nodeV_oneI base A n c l rfl Ho.out x vb 1 Hv.out rfl (by omega) (by unfold maxLen; omega) hbase ?_; intro A' c' w' ho' hg')
   go_ret
   exact ⟨A', n + 1, c', rfl, Hl.out, ho', hg'⟩
theorem insS_node (base g n c vb k : Nat) (l : List NodeD) (x : NodeD) (w : World) (ho : w.ownsRow base 40 3 (.slice (some ⟨g, 0, none⟩) n c) n (rowsV nodeV l)) (hl : l.length = n) (hn : n ≤ 1000) (hk : k < n) (hroom : n + 1 ≤ c) (hv : Blk w vb 40 (nodeV x).toArray) (hvg : vb ≠ g) (hbase : base ≤ w.heap.size) :
 Calls Tryz.prog 187 #[.slice (some ⟨g, 0, none⟩) n c, .int .i64 k, .slice (some ⟨vb, 0, none⟩) 1 1] w (InsPost nodeV base 40 3 (some ⟨g, 0, none⟩) n c (l.take k ++ x :: l.drop k) w) := by
 obtain ⟨cur, hR, hnc, htk⟩ := OwnR.of ho
 have hc63 := hR.cap_
 unfold maxLen at hc63
 have Hl := hid hl
 have HR := hid hR
 have Htk := hid htk
 have Hv := hid hv
 have hb2 : ¬ (c = k + 1) := by omega
 have hb4 : ¬ (c = k) := by omega
 have hz2 : ¬ ((k : Int) = (n : Int)) := by omega
 have hw1 : IntKind.i64.wrap ((k : Int) + 1) = (k : Int) + 1 := by rw [IntKind.wrap_i64]; omega
 have hb1 : (0 : Int) ≤ (k : Int) + 1 := by omega
 have htn : ((k : Int) + 1).toNat = k + 1 := by omega
 have hb3 : (k : Int) ≤ (n : Int) + 1 := by omega
 have hb5 : (k : Int) + 1 ≤ (n : Int) + 1 := by omega
 have hinfo : (Tryz.prog.info? 40).map (·.size) = some 3 := by
  obtain ⟨i0, hi, hz0, hz1, hz2⟩ := info_parts infoNodeI
  rw [hi]; simp [hz1]
 have hsa : w.shape? vb = some (40, 3) := by unfold World.shape?; rw [show w.heap[vb]? = some (.cells (nodeV x).toArray 40 (0, 0)) from hv]; rfl
 have hsb : w.shape? g = some (40, cur.size) := by unfold World.shape?; rw [hR.blk]
 have hov : ∀ lb cb, (callFunc 258 #[.slice (some ⟨vb, 0, none⟩) 1 1, .slice (some ⟨g, (k + 1) * 3, none⟩) lb cb]).run Tryz.prog w = .ok (.value (.bool false)) w := fun lb cb => by
  rw [run_callFunc_extern Tryz.func258 (by kernel_rfl) (by kernel_rfl) (by kernel_rfl) (e := Extern.SlicesOverlaps.overlaps #[23, 23] #[4]) (by kernel_rfl),
   Lib.run_overlaps_apart w 23 4 40 Tryz.underlying23 3 Tryz.sizeOf40 ⟨vb, 0, none⟩ ⟨g, (k + 1) * 3, none⟩ 1 1 lb cb hvg 40 40 3 cur.size hsa hsb (by rw [hR.size]; omega) (hv.thaw 0) (hv.thaw 3)]
  rfl
 obtain ⟨L, hL⟩ : ∃ L, cur.toList = L := ⟨_, rfl⟩
 have hLl : L.length = c * 3 := by rw [← hL, Array.length_toList, hR.size]
 obtain ⟨C1, hC1⟩ : ∃ C1, (L.drop (k * 3)).take (n * 3 - k * 3) = C1 := ⟨_, rfl⟩
 have lC1 : C1.length = (n - k) * 3 := by rw [← hC1, List.length_take, List.length_drop, hLl]; omega
 have m1C : ∀ v ∈ C1, v ∈ rowsV nodeV l := fun v hv' => by
  rw [← hC1, ← List.drop_take, ← hL, htk] at hv'
  exact List.mem_of_mem_drop hv'
 have one : ∀ v ∈ rowsV nodeV l, v.oneCell' = true := fun v hv' => by
  obtain ⟨a, _, ha⟩ := List.mem_flatMap.1 hv'
  exact nodeV_oneI a v ha
 have hcp1 : ∀ ty dc sc, (Builtin.copy_ #[23, 23] ty #[.slice (some ⟨g, (k + 1) * 3, none⟩) (n - k) dc, .slice (some ⟨g, k * 3, none⟩) (n + 1 - k) sc]).run Tryz.prog w.drew = .ok (.int .i64 ((n - k : Nat) : Int)) (w.drew.setRow g (cur.toList.take ((k + 1) * 3) ++ C1 ++ cur.toList.drop ((k + 1) * 3 + C1.length)).toArray) := fun ty dc sc => by
  have h := run_copy_rowK (P := Tryz.prog) w.drew 23 23 ty 40 3 g ((k + 1) * 3) (n - k) dc ⟨g, k * 3, none⟩ (n + 1 - k) sc cur 40 C1 Tryz.underlying23 hinfo hR.blk (by rw [lC1]; congr 1; show _ = min _ _; omega)
   (fun j v hj => (hR.cells (k * 3)) j v (by
    rw [hL]
    rw [← hC1, List.getElem?_take] at hj
    split at hj
    · exact hj
    · cases hj)) (by rw [lC1, hR.size]; omega) (fun v hv' => one v (m1C v hv'))
  rw [h]
  congr 2
  congr 1
  show min _ _ = _
  omega
 obtain ⟨cur1, hcur1⟩ : ∃ cur1, (cur.toList.take ((k + 1) * 3) ++ C1 ++ cur.toList.drop ((k + 1) * 3 + C1.length)).toArray = cur1 := ⟨_, rfl⟩
 rw [hcur1] at hcp1
 have hs1 : cur1.size = c * 3 := by rw [← hcur1]; simp only [List.size_toArray, List.length_append, List.length_take, List.length_drop, hL, hLl, lC1]; omega
 have hR1 : OwnR (w.drew.setRow g cur1) base 40 3 g c cur1 := OwnR.set (w := w.drew) ⟨hR.ge, hR.blk, hR.cap_, hR.size⟩ cur1 hs1
 have hv1 : Blk (w.drew.setRow g cur1) vb 40 (nodeV x).toArray := (setRow_other w.drew g vb cur1 hvg).trans hv
 obtain ⟨W1, hW1⟩ : ∃ W1, w.drew.setRow g cur1 = W1 := ⟨_, rfl⟩
 rw [hW1] at hcp1 hR1 hv1
 obtain ⟨cur2, hcur2⟩ : ∃ cur2, (cur1.toList.take (k * 3) ++ nodeV x ++ cur1.toList.drop (k * 3 + (nodeV x).length)).toArray = cur2 := ⟨_, rfl⟩
 have hcp2 : ∀ ty dc, (Builtin.copy_ #[23, 23] ty #[.slice (some ⟨g, k * 3, none⟩) (n + 1 - k) dc, .slice (some ⟨vb, 0, none⟩) 1 1]).run Tryz.prog W1 = .ok (.int .i64 ((1 : Nat) : Int)) (W1.setRow g cur2) := fun ty dc => by
  have h := run_copy_rowK (P := Tryz.prog) W1 23 23 ty 40 3 g (k * 3) (n + 1 - k) dc ⟨vb, 0, none⟩ 1 1 cur1 40 (nodeV x) Tryz.underlying23 hinfo hR1.blk (by rw [nodeV_len]; show _ = min _ _ * _; rw [Nat.min_eq_left (by omega)])
   (fun j v hj => by
    have ea : (⟨vb, 0, none⟩ : Addr).add j = ⟨vb, j, none⟩ := by unfold Addr.add; split <;> simp_all
    rw [ea, hv1.cell j, List.getElem?_toArray]; exact hj) (by rw [nodeV_len, hs1]; omega) (fun v hv' => nodeV_oneI x v hv')
  rw [h, hcur2]
  congr 2
  congr 1
  show min _ _ = _
  omega
 have hs2 : cur2.size = c * 3 := by rw [← hcur2]; simp only [List.size_toArray, List.length_append, List.length_take, List.length_drop, Array.length_toList, hs1, nodeV_len]; omega
 have hfin := (hR1.set cur2 hs2).own (n := n + 1) (by omega) (xs := rowsV nodeV (l.take k ++ x :: l.drop k)) (by
  have h := shift_take (L := L) (R := rowsV nodeV l) (X := nodeV x) (a := k * 3) (b := n * 3) (s := 3) (Nat.mul_le_mul_right _ (by omega)) (by omega) (nodeV_len x) (by rw [← hL]; exact htk)
  rw [rowsV_append, show rowsV nodeV (x :: l.drop k) = nodeV x ++ rowsV nodeV (l.drop k) from rfl, ← rowsV_take nodeV_len, ← rowsV_drop nodeV_len, ← List.append_assoc, ← h, ← hcur2, ← hcur1]
  simp only [hL, lC1, nodeV_len]
  rw [← hC1, show (k + 1) * 3 = k * 3 + 3 by omega, show (n + 1) * 3 = n * 3 + 3 by omega, show (n - k) * 3 = n * 3 - k * 3 by omega])
 have hgr : Grew w (W1.setRow g cur2) (.slice (some ⟨g, 0, none⟩) n c) (.slice (some ⟨g, 0, none⟩) (n + 1) c) := by
  rw [← hW1]
  exact (show Grew w (w.drew.setRow g cur1) (.slice (some ⟨g, 0, none⟩) n c) (.slice (some ⟨g, 0, none⟩) n c) from setRow_grewD w g n n c c cur1).trans (setRow_grew _ g n (n + 1) c c cur2)
 have Hend := hid (show InsPost nodeV base 40 3 (some ⟨g, 0, none⟩) n c (l.take k ++ x :: l.drop k) w (.returned (.slice (some ⟨g, 0, none⟩) (n + 1) c)) (W1.setRow g cur2) from ⟨_, n + 1, c, rfl, by rw [List.length_append, List.length_cons, List.length_take, List.length_drop]; omega, hfin, hgr⟩)
 clear hl hR htk hv hvg ho Hl HR Htk Hv hsa hsb hinfo hL hLl hC1 lC1 m1C one hcur1 hs1 hR1 hv1 hW1 hcur2 hs2 hfin hgr
 go_enter Tryz.func187, Tryz.ntmps187
 go_wp2_with (simp only [hov])
 go_region_law (refine step_copy_runK rfl _ _ 23 23 rfl _ _ (by simp [Act.eval, Act.put]) (by simp [Act.eval, Act.put]) (hcp1 _ _ _) ?_)
 go_wp2_with (refine wpList_copy_runK _ rfl _ _ 23 23 rfl _ _ rfl rfl (hcp2 _ _) ?_)
 go_ret
 exact Hend.out
theorem insG_node (base g n vb k : Nat) (l : List NodeD) (x : NodeD) (w : World) (ho : w.ownsRow base 40 3 (.slice (some ⟨g, 0, none⟩) n n) n (rowsV nodeV l)) (hl : l.length = n) (hn : n ≤ 1000) (hk : k < n) (hv : Blk w vb 40 (nodeV x).toArray) (hbase : base ≤ w.heap.size) :
 Calls Tryz.prog 187 #[.slice (some ⟨g, 0, none⟩) n n, .int .i64 k, .slice (some ⟨vb, 0, none⟩) 1 1] w (InsPost nodeV base 40 3 (some ⟨g, 0, none⟩) n n (l.take k ++ x :: l.drop k) w) := by
 obtain ⟨cur, hR, hnc, htk⟩ := OwnR.of ho
 have hz2 : ¬ ((k : Int) = (n : Int)) := by omega
 have hb4 : ¬ (n = k) := by omega
 have hw1 : IntKind.i64.wrap ((k : Int) + 1) = (k : Int) + 1 := by rw [IntKind.wrap_i64]; omega
 have hb1 : (0 : Int) ≤ (k : Int) + 1 := by omega
 have htn : ((k : Int) + 1).toNat = k + 1 := by omega
 have hb5 : (k : Int) + 1 ≤ (n : Int) + 1 := by omega
 have hb3 : (k : Int) ≤ (n : Int) := by omega
 obtain ⟨i0, hi0, hz0, hz1, hzb⟩ := info_parts infoNodeI
 have hinfo : (Tryz.prog.info? 40).map (·.size) = some 3 := by rw [hi0]; simp [hz1]
 obtain ⟨L, hL⟩ : ∃ L, cur.toList = L := ⟨_, rfl⟩
 have hLl : L.length = n * 3 := by rw [← hL, Array.length_toList, hR.size]
 have hLr : L = rowsV nodeV l := by rw [← htk, hL, List.take_of_length_le (by omega)]
 have one : ∀ v ∈ rowsV nodeV l, v.oneCell' = true := fun v hv' => by
  obtain ⟨a, _, ha⟩ := List.mem_flatMap.1 hv'
  exact nodeV_oneI a v ha
 have hold : (Builtin.firstCells i0.size k (.slice (some ⟨g, 0, none⟩) k n)).run Tryz.prog w.drew = .ok (L.take (k * 3)).toArray w.drew := by
  refine run_firstCells_some (P := Tryz.prog) w.drew i0.size k ⟨g, 0, none⟩ k n _ (by rw [List.length_take, hz1]; omega) (fun j v hj => ?_)
  have h := hR.cells 0 j v (by
   rw [List.drop_zero, hL]
   rw [List.getElem?_take] at hj
   split at hj
   · exact hj
   · cases hj)
  exact h
 obtain ⟨C, hC⟩ : ∃ C, grownCap w (n + 1) n 40 = C := ⟨_, rfl⟩
 have hCn : n + 1 ≤ C := by rw [← hC]; exact grownCap_ge w _ _ _
 have hCm : C ≤ maxLen := by rw [← hC]; exact grownCap_le_maxLen w _ _ _ (by unfold maxLen; omega)
 have hCm' := hCm
 unfold maxLen at hCm'
 obtain ⟨cur0, hcur0⟩ : ∃ cur0, (L.take (k * 3)).toArray ++ Builtin.zeroCells (Value.cells (.agg #[.string ⟨#[]⟩, .int .i64 0, .string ⟨#[]⟩])) (n + 1 - k) ++ Builtin.zeroCells (Value.cells (.agg #[.string ⟨#[]⟩, .int .i64 0, .string ⟨#[]⟩])) (C - (n + 1)) = cur0 := ⟨_, rfl⟩
 have happ : ∀ ty, (Builtin.append_ #[23, 3] ty #[.slice (some ⟨g, 0, none⟩) k n, .int .i64 ((n : Int) + 1 - (k : Int))]).run Tryz.prog w = .ok (.slice (some ⟨w.heap.size, 0, none⟩) (n + 1) C) (w.drew.alloc (.cells cur0 40)) := fun ty => by
  have h := Lib.run_append_grow_zeros w 23 3 ty 40 i0 _ .i64 .i64 Tryz.underlying23 Tryz.underlying3 hi0 hz0 (some ⟨g, 0, none⟩) k n (L.take (k * 3)) hold (n + 1 - k) (by omega) (by omega) (by omega) (by omega) (by rw [hzb]; omega) (by rw [hzb, show k + (n + 1 - k) = n + 1 by omega]; exact growslice_fits (by omega) (by omega))
  rw [show k + (n + 1 - k) = n + 1 by omega, hC, hcur0, show ((n + 1 - k : Nat) : Int) = (n : Int) + 1 - k by omega] at h
  exact h
 have hs0 : cur0.size = C * 3 := by rw [← hcur0]; simp only [Array.size_append, List.size_toArray, size_zeroCells, List.length_take, hLl]; show min _ _ + _ * 3 + _ * 3 = _; omega
 have h0t : cur0.toList.take (k * 3) = L.take (k * 3) := by
  rw [← hcur0, Array.toList_append, Array.toList_append, List.append_assoc, List.take_append_of_le_length (by rw [List.length_take]; omega), List.take_of_length_le (by rw [List.length_take]; omega)]
 obtain ⟨W1, hW1⟩ : ∃ W1, w.drew.alloc (.cells cur0 40) = W1 := ⟨_, rfl⟩
 have hb1W : Below w.heap.size w W1 := by rw [← hW1]; exact (Below.refl w.heap.size w).drew.alloc (Nat.le_refl _) _
 have hR1 : OwnR W1 base 40 3 w.heap.size C cur0 := by rw [← hW1]; exact ⟨hbase, heap_alloc_new w.drew _, hCm, hs0⟩
 have hg1 : OwnR W1 base 40 3 g n cur := ⟨hR.ge, (hb1W.block g (Array.getElem?_eq_some_iff.1 hR.blk).1).trans hR.blk, hR.cap_, hR.size⟩
 have hv1 : Blk W1 vb 40 (nodeV x).toArray := hv.below hb1W hv.lt
 have hgl : g < w.heap.size := (Array.getElem?_eq_some_iff.1 hR.blk).1
 rw [hW1] at happ
 obtain ⟨cur1, hcur1⟩ : ∃ cur1, (cur0.toList.take (k * 3) ++ nodeV x ++ cur0.toList.drop (k * 3 + (nodeV x).length)).toArray = cur1 := ⟨_, rfl⟩
 have hcp1 : ∀ ty dc, (Builtin.copy_ #[23, 23] ty #[.slice (some ⟨w.heap.size, k * 3, none⟩) (n + 1 - k) dc, .slice (some ⟨vb, 0, none⟩) 1 1]).run Tryz.prog W1 = .ok (.int .i64 ((1 : Nat) : Int)) (W1.setRow w.heap.size cur1) := fun ty dc => by
  have h := run_copy_rowK (P := Tryz.prog) W1 23 23 ty 40 3 w.heap.size (k * 3) (n + 1 - k) dc ⟨vb, 0, none⟩ 1 1 cur0 40 (nodeV x) Tryz.underlying23 hinfo hR1.blk (by rw [nodeV_len]; show _ = min _ _ * _; rw [Nat.min_eq_left (by omega)])
   (fun j v hj => by
    have ea : (⟨vb, 0, none⟩ : Addr).add j = ⟨vb, j, none⟩ := by unfold Addr.add; split <;> simp_all
    rw [ea, hv1.cell j, List.getElem?_toArray]; exact hj) (by rw [nodeV_len, hs0]; omega) (fun v hv' => nodeV_oneI x v hv')
  rw [h, hcur1]
  congr 2
  congr 1
  show min _ _ = _
  omega
 have hs1 : cur1.size = C * 3 := by rw [← hcur1]; simp only [List.size_toArray, List.length_append, List.length_take, List.length_drop, Array.length_toList, hs0, nodeV_len]; omega
 have hR2 := hR1.set cur1 hs1
 have hg2 : OwnR (W1.setRow w.heap.size cur1) base 40 3 g n cur := ⟨hg1.ge, (setRow_other W1 w.heap.size g cur1 (by omega)).trans hg1.blk, hg1.cap_, hg1.size⟩
 obtain ⟨W2, hW2⟩ : ∃ W2, W1.setRow w.heap.size cur1 = W2 := ⟨_, rfl⟩
 have hb2W : Below w.heap.size w W2 := by rw [← hW2]; exact hb1W.trans ⟨rfl, rfl, rfl, by simp [World.setRow], fun q hq => setRow_other W1 w.heap.size q cur1 (by omega)⟩
 rw [hW2] at hcp1 hR2 hg2
 obtain ⟨D1, hD1⟩ : ∃ D1, L.drop (k * 3) = D1 := ⟨_, rfl⟩
 have lD1 : D1.length = (n - k) * 3 := by rw [← hD1, List.length_drop, hLl]; omega
 obtain ⟨cur2, hcur2⟩ : ∃ cur2, (cur1.toList.take ((k + 1) * 3) ++ D1 ++ cur1.toList.drop ((k + 1) * 3 + D1.length)).toArray = cur2 := ⟨_, rfl⟩
 have hcp2 : ∀ ty dc sc, (Builtin.copy_ #[23, 23] ty #[.slice (some ⟨w.heap.size, (k + 1) * 3, none⟩) (n - k) dc, .slice (some ⟨g, k * 3, none⟩) (n - k) sc]).run Tryz.prog W2.drew = .ok (.int .i64 ((n - k : Nat) : Int)) (W2.drew.setRow w.heap.size cur2) := fun ty dc sc => by
  have h := run_copy_rowK (P := Tryz.prog) W2.drew 23 23 ty 40 3 w.heap.size ((k + 1) * 3) (n - k) dc ⟨g, k * 3, none⟩ (n - k) sc cur1 40 D1 Tryz.underlying23 hinfo hR2.blk (by rw [lD1]; congr 1; show _ = min _ _; omega)
   (fun j v hj => hg2.cells (k * 3) j v (by rw [hL, hD1]; exact hj)) (by rw [lD1, hs1]; omega) (fun v hv' => one v (by rw [← hLr]; rw [← hD1] at hv'; exact List.mem_of_mem_drop hv'))
  rw [h, hcur2]
  congr 2
  congr 1
  show min _ _ = _
  omega
 have hs2 : cur2.size = C * 3 := by rw [← hcur2]; simp only [List.size_toArray, List.length_append, List.length_take, List.length_drop, Array.length_toList, hs1, lD1]; omega
 have hR3 : OwnR (W2.drew.setRow w.heap.size cur2) base 40 3 w.heap.size C cur2 := OwnR.set (w := W2.drew) ⟨hR2.ge, hR2.blk, hR2.cap_, hR2.size⟩ cur2 hs2
 have hfin := hR3.own (n := n + 1) hCn (xs := rowsV nodeV (l.take k ++ x :: l.drop k)) (by
  have h := grow_take (L := cur0.toList) (X := nodeV x) (D := D1) (a := k * 3) (s := 3) (by have e : cur0.toList.length = cur0.size := Array.length_toList; omega) (nodeV_len x)
  rw [h0t] at h
  rw [rowsV_append, show rowsV nodeV (x :: l.drop k) = nodeV x ++ rowsV nodeV (l.drop k) from rfl, ← rowsV_take nodeV_len, ← rowsV_drop nodeV_len, ← List.append_assoc, ← hLr, hD1, ← h, ← hcur2, ← hcur1]
  simp only [lD1, nodeV_len, h0t]
  rw [show (k + 1) * 3 = k * 3 + 3 by omega, show (n + 1) * 3 = k * 3 + 3 + (n - k) * 3 by omega])
 have hgr : Grew w (W2.drew.setRow w.heap.size cur2) (.slice (some ⟨g, 0, none⟩) n n) (.slice (some ⟨w.heap.size, 0, none⟩) (n + 1) C) := by
  have hb3 : Below w.heap.size w (W2.drew.setRow w.heap.size cur2) := hb2W.trans ⟨rfl, rfl, rfl, by simp [World.setRow], fun q hq => setRow_other W2.drew w.heap.size q cur2 (by omega)⟩
  exact ⟨⟨hb3.os, hb3.tape, hb3.output, hb3.size, fun q hq _ => hb3.block q hq⟩, .inr ⟨w.heap.size, rfl, Nat.le_refl _⟩⟩
 have Hend := hid (show InsPost nodeV base 40 3 (some ⟨g, 0, none⟩) n n (l.take k ++ x :: l.drop k) w (.returned (.slice (some ⟨w.heap.size, 0, none⟩) (n + 1) C)) (W2.drew.setRow w.heap.size cur2) from ⟨_, n + 1, C, rfl, by rw [List.length_append, List.length_cons, List.length_take, List.length_drop]; omega, hfin, hgr⟩)
 have Happ := hid happ
 have Hcp1 := hid hcp1
 have hC1 : ¬ C = k := by omega
 have hC2 : ¬ C = k + 1 := by omega
 clear hl hR htk hv ho hinfo hL hLl hLr one hold hC hCm hcur0 happ hs0 h0t hW1 hb1W hR1 hg1 hv1 hcur1 hcp1 hs1 hR2 hg2 hW2 hb2W hD1 lD1 hcur2 hs2 hR3 hfin hgr hi0 hz0 hz1 hzb
 go_enter Tryz.func187, Tryz.ntmps187
 go_wp2_with (first | (at_builtin; refine Lib.wpList_append_run _ rfl _ _ 23 3 rfl _ _ rfl rfl _ _ (Happ.out _) ?_) | (refine wpList_copy_runK _ rfl _ _ 23 23 rfl _ _ rfl rfl (Hcp1.out _ _) ?_))
 go_region_law (refine step_copy_runK rfl _ _ 23 23 rfl _ _ (by simp [Act.eval, Act.put]) (by simp [Act.eval, Act.put]) (hcp2 _ _ _) ?_)
 go_wp2
 go_ret
 exact Hend.out
theorem ins_node (base : Nat) (A : Option Addr) (n c vb k : Nat) (l : List NodeD) (x : NodeD) (w : World) (ho : w.ownsRow base 40 3 (.slice A n c) n (rowsV nodeV l)) (hl : l.length = n) (hn : n ≤ 1000) (hk : k ≤ n) (hv : Blk w vb 40 (nodeV x).toArray) (hvg : ∀ q, (Value.slice A n c).ownBlock = some q → vb ≠ q) (hbase : base ≤ w.heap.size) :
 Calls Tryz.prog 187 #[.slice A n c, .int .i64 k, .slice (some ⟨vb, 0, none⟩) 1 1] w (InsPost nodeV base 40 3 A n c (l.take k ++ x :: l.drop k) w) := by
 by_cases hkn : k = n
 · subst hkn
   rw [List.take_of_length_le (by omega), List.drop_eq_nil_of_le (by omega)]
   exact insE_node base A k c vb l x w ho hl hn (fun j u hu => by rw [Nat.zero_add, hv.cell j, List.getElem?_toArray]; exact hu) hbase
 · obtain ⟨g, cap, hA, hcap⟩ := ho.form (by omega)
   injection hA with hA _ hc
   subst hA; subst hc
   by_cases hroom : n + 1 ≤ c
   · exact insS_node base g n c vb k l x w ho hl hn (by omega) hroom hv (hvg g rfl) hbase
   · obtain rfl : c = n := by obtain ⟨_, _, h, _⟩ := OwnR.of ho; omega
     exact insG_node base g c vb k l x w ho hl hn (by omega) hv hbase
theorem infoLeaseI : (Tryz.prog.info? 42).map (fun i => (i.zero, i.size, i.bytes)) = some (some (.agg #[.string ⟨#[]⟩, .string ⟨#[]⟩, .int .i64 0]), 3, 40) := by kernel_rfl
theorem leaseV_oneI (a : LeaseD) (u : Value) (h : u ∈ leaseV a) : u.oneCell' = true := by
 simp only [leaseV, List.mem_cons, List.not_mem_nil, or_false] at h
 rcases h with rfl | rfl | rfl <;> rfl
theorem insE_lease (base : Nat) (A : Option Addr) (n c vb : Nat) (l : List LeaseD) (x : LeaseD) (w : World) (ho : w.ownsRow base 42 3 (.slice A n c) n (rowsV leaseV l)) (hl : l.length = n) (hn : n ≤ 1000) (hv : RowAt w vb 0 (leaseV x)) (hbase : base ≤ w.heap.size) :
 Calls Tryz.prog 262 #[.slice A n c, .int .i64 n, .slice (some ⟨vb, 0, none⟩) 1 1] w (InsPost leaseV base 42 3 A n c (l ++ [x]) w) := by
 have Ho := hid ho
 have Hv := hid hv
 have Hl := hid (show n + 1 = (l ++ [x]).length by simp [hl])
 clear ho hv hl
 by_cases hcn : c = n
 · subst hcn
   go_enter Tryz.func262, Tryz.ntmps262
   go_wp2_with (at_builtin; refine push_recR leaseV rfl _ _ 24 42 (.agg #[.string ⟨#[]⟩, .string ⟨#[]⟩, .int .i64 0]) 3 40 rfl Tryz.underlying24 infoLeaseI rfl (by decide) leaseV_len leaseV_oneI base A c c l rfl Ho.out x vb 1 Hv.out rfl (by omega) (by unfold maxLen; omega) hbase ?_; intro A' c' w' ho' hg')
   go_ret
   exact ⟨A', c + 1, c', rfl, Hl.out, ho', hg'⟩
 · go_enter Tryz.func262, Tryz.ntmps262
   go_wp2_with (at_builtin; refine push_recR leaseV rfl _ _ 24 42 (.agg #[.string ⟨#[]⟩, .string ⟨#[]⟩, .int .i64 0]) 3 40 rfl Tryz.underlying24 infoLeaseI rfl (by decide) leaseV_len leaseV_oneI base A n c l rfl Ho.out x vb 1 Hv.out rfl (by omega) (by unfold maxLen; omega) hbase ?_; intro A' c' w' ho' hg')
   go_ret
   exact ⟨A', n + 1, c', rfl, Hl.out, ho', hg'⟩
theorem insS_lease (base g n c vb k : Nat) (l : List LeaseD) (x : LeaseD) (w : World) (ho : w.ownsRow base 42 3 (.slice (some ⟨g, 0, none⟩) n c) n (rowsV leaseV l)) (hl : l.length = n) (hn : n ≤ 1000) (hk : k < n) (hroom : n + 1 ≤ c) (hv : Blk w vb 42 (leaseV x).toArray) (hvg : vb ≠ g) (hbase : base ≤ w.heap.size) :
 Calls Tryz.prog 262 #[.slice (some ⟨g, 0, none⟩) n c, .int .i64 k, .slice (some ⟨vb, 0, none⟩) 1 1] w (InsPost leaseV base 42 3 (some ⟨g, 0, none⟩) n c (l.take k ++ x :: l.drop k) w) := by
 obtain ⟨cur, hR, hnc, htk⟩ := OwnR.of ho
 have hc63 := hR.cap_
 unfold maxLen at hc63
 have Hl := hid hl
 have HR := hid hR
 have Htk := hid htk
 have Hv := hid hv
 have hb2 : ¬ (c = k + 1) := by omega
 have hb4 : ¬ (c = k) := by omega
 have hz2 : ¬ ((k : Int) = (n : Int)) := by omega
 have hw1 : IntKind.i64.wrap ((k : Int) + 1) = (k : Int) + 1 := by rw [IntKind.wrap_i64]; omega
 have hb1 : (0 : Int) ≤ (k : Int) + 1 := by omega
 have htn : ((k : Int) + 1).toNat = k + 1 := by omega
 have hb3 : (k : Int) ≤ (n : Int) + 1 := by omega
 have hb5 : (k : Int) + 1 ≤ (n : Int) + 1 := by omega
 have hinfo : (Tryz.prog.info? 42).map (·.size) = some 3 := by
  obtain ⟨i0, hi, hz0, hz1, hz2⟩ := info_parts infoLeaseI
  rw [hi]; simp [hz1]
 have hsa : w.shape? vb = some (42, 3) := by unfold World.shape?; rw [show w.heap[vb]? = some (.cells (leaseV x).toArray 42 (0, 0)) from hv]; rfl
 have hsb : w.shape? g = some (42, cur.size) := by unfold World.shape?; rw [hR.blk]
 have hov : ∀ lb cb, (callFunc 294 #[.slice (some ⟨vb, 0, none⟩) 1 1, .slice (some ⟨g, (k + 1) * 3, none⟩) lb cb]).run Tryz.prog w = .ok (.value (.bool false)) w := fun lb cb => by
  rw [run_callFunc_extern Tryz.func294 (by kernel_rfl) (by kernel_rfl) (by kernel_rfl) (e := Extern.SlicesOverlaps.overlaps #[24, 24] #[4]) (by kernel_rfl),
   Lib.run_overlaps_apart w 24 4 42 Tryz.underlying24 3 Tryz.sizeOf42 ⟨vb, 0, none⟩ ⟨g, (k + 1) * 3, none⟩ 1 1 lb cb hvg 42 42 3 cur.size hsa hsb (by rw [hR.size]; omega) (hv.thaw 0) (hv.thaw 3)]
  rfl
 obtain ⟨L, hL⟩ : ∃ L, cur.toList = L := ⟨_, rfl⟩
 have hLl : L.length = c * 3 := by rw [← hL, Array.length_toList, hR.size]
 obtain ⟨C1, hC1⟩ : ∃ C1, (L.drop (k * 3)).take (n * 3 - k * 3) = C1 := ⟨_, rfl⟩
 have lC1 : C1.length = (n - k) * 3 := by rw [← hC1, List.length_take, List.length_drop, hLl]; omega
 have m1C : ∀ v ∈ C1, v ∈ rowsV leaseV l := fun v hv' => by
  rw [← hC1, ← List.drop_take, ← hL, htk] at hv'
  exact List.mem_of_mem_drop hv'
 have one : ∀ v ∈ rowsV leaseV l, v.oneCell' = true := fun v hv' => by
  obtain ⟨a, _, ha⟩ := List.mem_flatMap.1 hv'
  exact leaseV_oneI a v ha
 have hcp1 : ∀ ty dc sc, (Builtin.copy_ #[24, 24] ty #[.slice (some ⟨g, (k + 1) * 3, none⟩) (n - k) dc, .slice (some ⟨g, k * 3, none⟩) (n + 1 - k) sc]).run Tryz.prog w.drew = .ok (.int .i64 ((n - k : Nat) : Int)) (w.drew.setRow g (cur.toList.take ((k + 1) * 3) ++ C1 ++ cur.toList.drop ((k + 1) * 3 + C1.length)).toArray) := fun ty dc sc => by
  have h := run_copy_rowK (P := Tryz.prog) w.drew 24 24 ty 42 3 g ((k + 1) * 3) (n - k) dc ⟨g, k * 3, none⟩ (n + 1 - k) sc cur 42 C1 Tryz.underlying24 hinfo hR.blk (by rw [lC1]; congr 1; show _ = min _ _; omega)
   (fun j v hj => (hR.cells (k * 3)) j v (by
    rw [hL]
    rw [← hC1, List.getElem?_take] at hj
    split at hj
    · exact hj
    · cases hj)) (by rw [lC1, hR.size]; omega) (fun v hv' => one v (m1C v hv'))
  rw [h]
  congr 2
  congr 1
  show min _ _ = _
  omega
 obtain ⟨cur1, hcur1⟩ : ∃ cur1, (cur.toList.take ((k + 1) * 3) ++ C1 ++ cur.toList.drop ((k + 1) * 3 + C1.length)).toArray = cur1 := ⟨_, rfl⟩
 rw [hcur1] at hcp1
 have hs1 : cur1.size = c * 3 := by rw [← hcur1]; simp only [List.size_toArray, List.length_append, List.length_take, List.length_drop, hL, hLl, lC1]; omega
 have hR1 : OwnR (w.drew.setRow g cur1) base 42 3 g c cur1 := OwnR.set (w := w.drew) ⟨hR.ge, hR.blk, hR.cap_, hR.size⟩ cur1 hs1
 have hv1 : Blk (w.drew.setRow g cur1) vb 42 (leaseV x).toArray := (setRow_other w.drew g vb cur1 hvg).trans hv
 obtain ⟨W1, hW1⟩ : ∃ W1, w.drew.setRow g cur1 = W1 := ⟨_, rfl⟩
 rw [hW1] at hcp1 hR1 hv1
 obtain ⟨cur2, hcur2⟩ : ∃ cur2, (cur1.toList.take (k * 3) ++ leaseV x ++ cur1.toList.drop (k * 3 + (leaseV x).length)).toArray = cur2 := ⟨_, rfl⟩
 have hcp2 : ∀ ty dc, (Builtin.copy_ #[24, 24] ty #[.slice (some ⟨g, k * 3, none⟩) (n + 1 - k) dc, .slice (some ⟨vb, 0, none⟩) 1 1]).run Tryz.prog W1 = .ok (.int .i64 ((1 : Nat) : Int)) (W1.setRow g cur2) := fun ty dc => by
  have h := run_copy_rowK (P := Tryz.prog) W1 24 24 ty 42 3 g (k * 3) (n + 1 - k) dc ⟨vb, 0, none⟩ 1 1 cur1 42 (leaseV x) Tryz.underlying24 hinfo hR1.blk (by rw [leaseV_len]; show _ = min _ _ * _; rw [Nat.min_eq_left (by omega)])
   (fun j v hj => by
    have ea : (⟨vb, 0, none⟩ : Addr).add j = ⟨vb, j, none⟩ := by unfold Addr.add; split <;> simp_all
    rw [ea, hv1.cell j, List.getElem?_toArray]; exact hj) (by rw [leaseV_len, hs1]; omega) (fun v hv' => leaseV_oneI x v hv')
  rw [h, hcur2]
  congr 2
  congr 1
  show min _ _ = _
  omega
 have hs2 : cur2.size = c * 3 := by rw [← hcur2]; simp only [List.size_toArray, List.length_append, List.length_take, List.length_drop, Array.length_toList, hs1, leaseV_len]; omega
 have hfin := (hR1.set cur2 hs2).own (n := n + 1) (by omega) (xs := rowsV leaseV (l.take k ++ x :: l.drop k)) (by
  have h := shift_take (L := L) (R := rowsV leaseV l) (X := leaseV x) (a := k * 3) (b := n * 3) (s := 3) (Nat.mul_le_mul_right _ (by omega)) (by omega) (leaseV_len x) (by rw [← hL]; exact htk)
  rw [rowsV_append, show rowsV leaseV (x :: l.drop k) = leaseV x ++ rowsV leaseV (l.drop k) from rfl, ← rowsV_take leaseV_len, ← rowsV_drop leaseV_len, ← List.append_assoc, ← h, ← hcur2, ← hcur1]
  simp only [hL, lC1, leaseV_len]
  rw [← hC1, show (k + 1) * 3 = k * 3 + 3 by omega, show (n + 1) * 3 = n * 3 + 3 by omega, show (n - k) * 3 = n * 3 - k * 3 by omega])
 have hgr : Grew w (W1.setRow g cur2) (.slice (some ⟨g, 0, none⟩) n c) (.slice (some ⟨g, 0, none⟩) (n + 1) c) := by
  rw [← hW1]
  exact (show Grew w (w.drew.setRow g cur1) (.slice (some ⟨g, 0, none⟩) n c) (.slice (some ⟨g, 0, none⟩) n c) from setRow_grewD w g n n c c cur1).trans (setRow_grew _ g n (n + 1) c c cur2)
 have Hend := hid (show InsPost leaseV base 42 3 (some ⟨g, 0, none⟩) n c (l.take k ++ x :: l.drop k) w (.returned (.slice (some ⟨g, 0, none⟩) (n + 1) c)) (W1.setRow g cur2) from ⟨_, n + 1, c, rfl, by rw [List.length_append, List.length_cons, List.length_take, List.length_drop]; omega, hfin, hgr⟩)
 clear hl hR htk hv hvg ho Hl HR Htk Hv hsa hsb hinfo hL hLl hC1 lC1 m1C one hcur1 hs1 hR1 hv1 hW1 hcur2 hs2 hfin hgr
 go_enter Tryz.func262, Tryz.ntmps262
 go_wp2_with (simp only [hov])
 go_region_law (refine step_copy_runK rfl _ _ 24 24 rfl _ _ (by simp [Act.eval, Act.put]) (by simp [Act.eval, Act.put]) (hcp1 _ _ _) ?_)
 go_wp2_with (refine wpList_copy_runK _ rfl _ _ 24 24 rfl _ _ rfl rfl (hcp2 _ _) ?_)
 go_ret
 exact Hend.out
theorem insG_lease (base g n vb k : Nat) (l : List LeaseD) (x : LeaseD) (w : World) (ho : w.ownsRow base 42 3 (.slice (some ⟨g, 0, none⟩) n n) n (rowsV leaseV l)) (hl : l.length = n) (hn : n ≤ 1000) (hk : k < n) (hv : Blk w vb 42 (leaseV x).toArray) (hbase : base ≤ w.heap.size) :
 Calls Tryz.prog 262 #[.slice (some ⟨g, 0, none⟩) n n, .int .i64 k, .slice (some ⟨vb, 0, none⟩) 1 1] w (InsPost leaseV base 42 3 (some ⟨g, 0, none⟩) n n (l.take k ++ x :: l.drop k) w) := by
 obtain ⟨cur, hR, hnc, htk⟩ := OwnR.of ho
 have hz2 : ¬ ((k : Int) = (n : Int)) := by omega
 have hb4 : ¬ (n = k) := by omega
 have hw1 : IntKind.i64.wrap ((k : Int) + 1) = (k : Int) + 1 := by rw [IntKind.wrap_i64]; omega
 have hb1 : (0 : Int) ≤ (k : Int) + 1 := by omega
 have htn : ((k : Int) + 1).toNat = k + 1 := by omega
 have hb5 : (k : Int) + 1 ≤ (n : Int) + 1 := by omega
 have hb3 : (k : Int) ≤ (n : Int) := by omega
 obtain ⟨i0, hi0, hz0, hz1, hzb⟩ := info_parts infoLeaseI
 have hinfo : (Tryz.prog.info? 42).map (·.size) = some 3 := by rw [hi0]; simp [hz1]
 obtain ⟨L, hL⟩ : ∃ L, cur.toList = L := ⟨_, rfl⟩
 have hLl : L.length = n * 3 := by rw [← hL, Array.length_toList, hR.size]
 have hLr : L = rowsV leaseV l := by rw [← htk, hL, List.take_of_length_le (by omega)]
 have one : ∀ v ∈ rowsV leaseV l, v.oneCell' = true := fun v hv' => by
  obtain ⟨a, _, ha⟩ := List.mem_flatMap.1 hv'
  exact leaseV_oneI a v ha
 have hold : (Builtin.firstCells i0.size k (.slice (some ⟨g, 0, none⟩) k n)).run Tryz.prog w.drew = .ok (L.take (k * 3)).toArray w.drew := by
  refine run_firstCells_some (P := Tryz.prog) w.drew i0.size k ⟨g, 0, none⟩ k n _ (by rw [List.length_take, hz1]; omega) (fun j v hj => ?_)
  have h := hR.cells 0 j v (by
   rw [List.drop_zero, hL]
   rw [List.getElem?_take] at hj
   split at hj
   · exact hj
   · cases hj)
  exact h
 obtain ⟨C, hC⟩ : ∃ C, grownCap w (n + 1) n 42 = C := ⟨_, rfl⟩
 have hCn : n + 1 ≤ C := by rw [← hC]; exact grownCap_ge w _ _ _
 have hCm : C ≤ maxLen := by rw [← hC]; exact grownCap_le_maxLen w _ _ _ (by unfold maxLen; omega)
 have hCm' := hCm
 unfold maxLen at hCm'
 obtain ⟨cur0, hcur0⟩ : ∃ cur0, (L.take (k * 3)).toArray ++ Builtin.zeroCells (Value.cells (.agg #[.string ⟨#[]⟩, .string ⟨#[]⟩, .int .i64 0])) (n + 1 - k) ++ Builtin.zeroCells (Value.cells (.agg #[.string ⟨#[]⟩, .string ⟨#[]⟩, .int .i64 0])) (C - (n + 1)) = cur0 := ⟨_, rfl⟩
 have happ : ∀ ty, (Builtin.append_ #[24, 3] ty #[.slice (some ⟨g, 0, none⟩) k n, .int .i64 ((n : Int) + 1 - (k : Int))]).run Tryz.prog w = .ok (.slice (some ⟨w.heap.size, 0, none⟩) (n + 1) C) (w.drew.alloc (.cells cur0 42)) := fun ty => by
  have h := Lib.run_append_grow_zeros w 24 3 ty 42 i0 _ .i64 .i64 Tryz.underlying24 Tryz.underlying3 hi0 hz0 (some ⟨g, 0, none⟩) k n (L.take (k * 3)) hold (n + 1 - k) (by omega) (by omega) (by omega) (by omega) (by rw [hzb]; omega) (by rw [hzb, show k + (n + 1 - k) = n + 1 by omega]; exact growslice_fits (by omega) (by omega))
  rw [show k + (n + 1 - k) = n + 1 by omega, hC, hcur0, show ((n + 1 - k : Nat) : Int) = (n : Int) + 1 - k by omega] at h
  exact h
 have hs0 : cur0.size = C * 3 := by rw [← hcur0]; simp only [Array.size_append, List.size_toArray, size_zeroCells, List.length_take, hLl]; show min _ _ + _ * 3 + _ * 3 = _; omega
 have h0t : cur0.toList.take (k * 3) = L.take (k * 3) := by
  rw [← hcur0, Array.toList_append, Array.toList_append, List.append_assoc, List.take_append_of_le_length (by rw [List.length_take]; omega), List.take_of_length_le (by rw [List.length_take]; omega)]
 obtain ⟨W1, hW1⟩ : ∃ W1, w.drew.alloc (.cells cur0 42) = W1 := ⟨_, rfl⟩
 have hb1W : Below w.heap.size w W1 := by rw [← hW1]; exact (Below.refl w.heap.size w).drew.alloc (Nat.le_refl _) _
 have hR1 : OwnR W1 base 42 3 w.heap.size C cur0 := by rw [← hW1]; exact ⟨hbase, heap_alloc_new w.drew _, hCm, hs0⟩
 have hg1 : OwnR W1 base 42 3 g n cur := ⟨hR.ge, (hb1W.block g (Array.getElem?_eq_some_iff.1 hR.blk).1).trans hR.blk, hR.cap_, hR.size⟩
 have hv1 : Blk W1 vb 42 (leaseV x).toArray := hv.below hb1W hv.lt
 have hgl : g < w.heap.size := (Array.getElem?_eq_some_iff.1 hR.blk).1
 rw [hW1] at happ
 obtain ⟨cur1, hcur1⟩ : ∃ cur1, (cur0.toList.take (k * 3) ++ leaseV x ++ cur0.toList.drop (k * 3 + (leaseV x).length)).toArray = cur1 := ⟨_, rfl⟩
 have hcp1 : ∀ ty dc, (Builtin.copy_ #[24, 24] ty #[.slice (some ⟨w.heap.size, k * 3, none⟩) (n + 1 - k) dc, .slice (some ⟨vb, 0, none⟩) 1 1]).run Tryz.prog W1 = .ok (.int .i64 ((1 : Nat) : Int)) (W1.setRow w.heap.size cur1) := fun ty dc => by
  have h := run_copy_rowK (P := Tryz.prog) W1 24 24 ty 42 3 w.heap.size (k * 3) (n + 1 - k) dc ⟨vb, 0, none⟩ 1 1 cur0 42 (leaseV x) Tryz.underlying24 hinfo hR1.blk (by rw [leaseV_len]; show _ = min _ _ * _; rw [Nat.min_eq_left (by omega)])
   (fun j v hj => by
    have ea : (⟨vb, 0, none⟩ : Addr).add j = ⟨vb, j, none⟩ := by unfold Addr.add; split <;> simp_all
    rw [ea, hv1.cell j, List.getElem?_toArray]; exact hj) (by rw [leaseV_len, hs0]; omega) (fun v hv' => leaseV_oneI x v hv')
  rw [h, hcur1]
  congr 2
  congr 1
  show min _ _ = _
  omega
 have hs1 : cur1.size = C * 3 := by rw [← hcur1]; simp only [List.size_toArray, List.length_append, List.length_take, List.length_drop, Array.length_toList, hs0, leaseV_len]; omega
 have hR2 := hR1.set cur1 hs1
 have hg2 : OwnR (W1.setRow w.heap.size cur1) base 42 3 g n cur := ⟨hg1.ge, (setRow_other W1 w.heap.size g cur1 (by omega)).trans hg1.blk, hg1.cap_, hg1.size⟩
 obtain ⟨W2, hW2⟩ : ∃ W2, W1.setRow w.heap.size cur1 = W2 := ⟨_, rfl⟩
 have hb2W : Below w.heap.size w W2 := by rw [← hW2]; exact hb1W.trans ⟨rfl, rfl, rfl, by simp [World.setRow], fun q hq => setRow_other W1 w.heap.size q cur1 (by omega)⟩
 rw [hW2] at hcp1 hR2 hg2
 obtain ⟨D1, hD1⟩ : ∃ D1, L.drop (k * 3) = D1 := ⟨_, rfl⟩
 have lD1 : D1.length = (n - k) * 3 := by rw [← hD1, List.length_drop, hLl]; omega
 obtain ⟨cur2, hcur2⟩ : ∃ cur2, (cur1.toList.take ((k + 1) * 3) ++ D1 ++ cur1.toList.drop ((k + 1) * 3 + D1.length)).toArray = cur2 := ⟨_, rfl⟩
 have hcp2 : ∀ ty dc sc, (Builtin.copy_ #[24, 24] ty #[.slice (some ⟨w.heap.size, (k + 1) * 3, none⟩) (n - k) dc, .slice (some ⟨g, k * 3, none⟩) (n - k) sc]).run Tryz.prog W2.drew = .ok (.int .i64 ((n - k : Nat) : Int)) (W2.drew.setRow w.heap.size cur2) := fun ty dc sc => by
  have h := run_copy_rowK (P := Tryz.prog) W2.drew 24 24 ty 42 3 w.heap.size ((k + 1) * 3) (n - k) dc ⟨g, k * 3, none⟩ (n - k) sc cur1 42 D1 Tryz.underlying24 hinfo hR2.blk (by rw [lD1]; congr 1; show _ = min _ _; omega)
   (fun j v hj => hg2.cells (k * 3) j v (by rw [hL, hD1]; exact hj)) (by rw [lD1, hs1]; omega) (fun v hv' => one v (by rw [← hLr]; rw [← hD1] at hv'; exact List.mem_of_mem_drop hv'))
  rw [h, hcur2]
  congr 2
  congr 1
  show min _ _ = _
  omega
 have hs2 : cur2.size = C * 3 := by rw [← hcur2]; simp only [List.size_toArray, List.length_append, List.length_take, List.length_drop, Array.length_toList, hs1, lD1]; omega
 have hR3 : OwnR (W2.drew.setRow w.heap.size cur2) base 42 3 w.heap.size C cur2 := OwnR.set (w := W2.drew) ⟨hR2.ge, hR2.blk, hR2.cap_, hR2.size⟩ cur2 hs2
 have hfin := hR3.own (n := n + 1) hCn (xs := rowsV leaseV (l.take k ++ x :: l.drop k)) (by
  have h := grow_take (L := cur0.toList) (X := leaseV x) (D := D1) (a := k * 3) (s := 3) (by have e : cur0.toList.length = cur0.size := Array.length_toList; omega) (leaseV_len x)
  rw [h0t] at h
  rw [rowsV_append, show rowsV leaseV (x :: l.drop k) = leaseV x ++ rowsV leaseV (l.drop k) from rfl, ← rowsV_take leaseV_len, ← rowsV_drop leaseV_len, ← List.append_assoc, ← hLr, hD1, ← h, ← hcur2, ← hcur1]
  simp only [lD1, leaseV_len, h0t]
  rw [show (k + 1) * 3 = k * 3 + 3 by omega, show (n + 1) * 3 = k * 3 + 3 + (n - k) * 3 by omega])
 have hgr : Grew w (W2.drew.setRow w.heap.size cur2) (.slice (some ⟨g, 0, none⟩) n n) (.slice (some ⟨w.heap.size, 0, none⟩) (n + 1) C) := by
  have hb3 : Below w.heap.size w (W2.drew.setRow w.heap.size cur2) := hb2W.trans ⟨rfl, rfl, rfl, by simp [World.setRow], fun q hq => setRow_other W2.drew w.heap.size q cur2 (by omega)⟩
  exact ⟨⟨hb3.os, hb3.tape, hb3.output, hb3.size, fun q hq _ => hb3.block q hq⟩, .inr ⟨w.heap.size, rfl, Nat.le_refl _⟩⟩
 have Hend := hid (show InsPost leaseV base 42 3 (some ⟨g, 0, none⟩) n n (l.take k ++ x :: l.drop k) w (.returned (.slice (some ⟨w.heap.size, 0, none⟩) (n + 1) C)) (W2.drew.setRow w.heap.size cur2) from ⟨_, n + 1, C, rfl, by rw [List.length_append, List.length_cons, List.length_take, List.length_drop]; omega, hfin, hgr⟩)
 have Happ := hid happ
 have Hcp1 := hid hcp1
 have hC1 : ¬ C = k := by omega
 have hC2 : ¬ C = k + 1 := by omega
 clear hl hR htk hv ho hinfo hL hLl hLr one hold hC hCm hcur0 happ hs0 h0t hW1 hb1W hR1 hg1 hv1 hcur1 hcp1 hs1 hR2 hg2 hW2 hb2W hD1 lD1 hcur2 hs2 hR3 hfin hgr hi0 hz0 hz1 hzb
 go_enter Tryz.func262, Tryz.ntmps262
 go_wp2_with (first | (at_builtin; refine Lib.wpList_append_run _ rfl _ _ 24 3 rfl _ _ rfl rfl _ _ (Happ.out _) ?_) | (refine wpList_copy_runK _ rfl _ _ 24 24 rfl _ _ rfl rfl (Hcp1.out _ _) ?_))
 go_region_law (refine step_copy_runK rfl _ _ 24 24 rfl _ _ (by simp [Act.eval, Act.put]) (by simp [Act.eval, Act.put]) (hcp2 _ _ _) ?_)
 go_wp2
 go_ret
 exact Hend.out
theorem ins_lease (base : Nat) (A : Option Addr) (n c vb k : Nat) (l : List LeaseD) (x : LeaseD) (w : World) (ho : w.ownsRow base 42 3 (.slice A n c) n (rowsV leaseV l)) (hl : l.length = n) (hn : n ≤ 1000) (hk : k ≤ n) (hv : Blk w vb 42 (leaseV x).toArray) (hvg : ∀ q, (Value.slice A n c).ownBlock = some q → vb ≠ q) (hbase : base ≤ w.heap.size) :
 Calls Tryz.prog 262 #[.slice A n c, .int .i64 k, .slice (some ⟨vb, 0, none⟩) 1 1] w (InsPost leaseV base 42 3 A n c (l.take k ++ x :: l.drop k) w) := by
 by_cases hkn : k = n
 · subst hkn
   rw [List.take_of_length_le (by omega), List.drop_eq_nil_of_le (by omega)]
   exact insE_lease base A k c vb l x w ho hl hn (fun j u hu => by rw [Nat.zero_add, hv.cell j, List.getElem?_toArray]; exact hu) hbase
 · obtain ⟨g, cap, hA, hcap⟩ := ho.form (by omega)
   injection hA with hA _ hc
   subst hA; subst hc
   by_cases hroom : n + 1 ≤ c
   · exact insS_lease base g n c vb k l x w ho hl hn (by omega) hroom hv (hvg g rfl) hbase
   · obtain rfl : c = n := by obtain ⟨_, _, h, _⟩ := OwnR.of ho; omega
     exact insG_lease base g c vb k l x w ho hl hn (by omega) hv hbase
end Go.Proofs.YtjgnnobccecpeaaGreatDoor
