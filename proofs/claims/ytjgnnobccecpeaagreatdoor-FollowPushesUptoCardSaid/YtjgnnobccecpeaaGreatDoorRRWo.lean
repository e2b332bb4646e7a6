/- Of the proof of a statement: RWo. -/
import Derived.Test.YtjgnnobccecpeaaGreatDoorRRPut
set_option linter.unusedVariables false
set_option linter.unusedSimpArgs false
set_option maxRecDepth 100000
set_option maxHeartbeats 8000000
/- The walks of the reference's without, at jobs, nodes and leases, for any function value that answers a predicate. -/
namespace Go.Proofs.YtjgnnobccecpeaaGreatDoor
open Go.Lib (hid)
open Go.RowKit
theorem rwo_job (p : JobD → Bool) (F : FuncId) (caps : Array Value) (xs : List JobD) (A : Option Addr) (n c : Nat) (w : World) (hent : ∀ args w, (callFunc F args).run Tryz.prog w = .ok (.enter F args) w) (hx : SlAt w w.heap.size 5 A n (rowsV jobV xs)) (hl : xs.length = n) (hn : n ≤ 1000) (hp : Answers p F caps jobV xs w) :
 Calls Tryz.prog 53 #[.slice A n c, .func (.func F) #[] caps] w (RPutPost 38 5 jobV (xs.filter fun a => !p a) w) := by
 obtain ⟨P, hP⟩ : ∃ P, (xs.filter fun a => !p a) = P := ⟨_, rfl⟩
 rw [hP]
 have HP := hid hP
 have Hl := hid hl
 have Hx := hid hx
 have Hp := hid hp
 clear hP hl hx hp
 go_enter Tryz.func53, Tryz.ntmps53
 go_wp2
 go_loopw [5, 10] (fun out i wr => ∃ (k : Nat) (A : Option Addr) (c : Nat) (l : List JobD), k ≤ n ∧ i = .int .i64 k ∧ out = .slice A l.length c ∧ l = (xs.take k).filter (fun a => !p a) ∧ l.length ≤ k ∧ Below w.heap.size w wr ∧ wr.ownsRow w.heap.size 38 5 (.slice A l.length c) l.length (rowsV jobV l)) (fun _ i _ => n - (intOf i).toNat)
 case atStart => exact ⟨0, none, 0, [], Nat.zero_le _, rfl, rfl, by simp, Nat.le_refl _, Below.refl _ _, World.ownsRow_nil _ _ _ _⟩
 case round =>
  obtain ⟨k, A', c', l, hk, rfl, rfl, hfl, hll, hb, ho⟩ := hrel
  have HF := hid hfl
  have HB := hid hb
  have HO := hid ho
  have hbs := hb.size
  clear hfl hb ho
  by_cases hlt : k < n
  · obtain ⟨y, hf⟩ : ∃ y, xs[k]? = some y := ⟨_, List.getElem?_eq_getElem (by have := Hl.out; omega)⟩
    obtain ⟨bb, off, hao, hbB, hc⟩ := (Hx.out.below HB.out).rec_ jobV_len Hl.out hf
    subst hao
    obtain ⟨t, ht⟩ : ∃ t, p y = t := ⟨_, rfl⟩
    have Hf := hid hf
    have Ht := hid ht
    have hmem := List.mem_of_getElem? hf
    obtain ⟨W1, hW1⟩ : ∃ W1, wr.alloc (.cells (jobV y).toArray 38) = W1 := ⟨_, rfl⟩
    have hB1 : Below wr.heap.size wr W1 := by rw [← hW1]; exact (Below.refl _ _).alloc (Nat.le_refl _) _
    have HY := hid (show Blk W1 wr.heap.size 38 (jobV y).toArray from by rw [← hW1]; exact heap_alloc_new wr _)
    have HB1 := hid (HB.out.trans (hB1.mono hbs))
    have HC := hid (Hp.out W1 HB1.out y hmem)
    rw [ht] at HC
    have Hn := hid (show ∀ q, (Value.slice A' l.length c').ownBlock = some q → w.heap.size ≤ q ∧ q < wr.heap.size from fun q hq => ⟨(HO.out.lt q hq).1, (HO.out.lt q hq).2⟩)
    have HO1 := hid (ownU_below HO.out hB1)
    have HW1 := hid hW1
    have hyl := HY.out.lt
    have hs1 : W1.heap.size = wr.heap.size + 1 := by rw [← hW1]; simp
    clear hf hB1 hW1 ht HO hmem
    obtain ⟨yname, yprio, yneed, ytries, ytag⟩ := y
    have HY := hid (show Blk W1 wr.heap.size 38 #[.string yname, .int .i64 yprio, .int .i64 yneed, .int .i64 ytries, .string ytag] from HY.out)
    have HC := hid (show Calls Tryz.prog F (#[.agg #[.string yname, .int .i64 yprio, .int .i64 yneed, .int .i64 ytries, .string ytag]] ++ caps) W1 fun e W' => e = .returned (.bool t) ∧ Below W1.heap.size W1 W' from HC.out)
    have HW1 := hid (show wr.alloc (.cells #[.string yname, .int .i64 yprio, .int .i64 yneed, .int .i64 ytries, .string ytag] 38) = W1 from HW1.out)
    obtain ⟨e0, e1, e2, e3, e4⟩ := rc5 hc
    obtain ⟨y0, y1, y2, y3, y4⟩ := Blk.c5 (show Blk (wr.alloc (.cells #[.string yname, .int .i64 yprio, .int .i64 yneed, .int .i64 ytries, .string ytag] 38)) (wr.heap.size) _ _ from by rw [HW1.out]; exact HY.out)
    have hlb : bb < wr.heap.size := by omega
    clear hc
    go_wp2_with fail
    try simp only [HW1.out]
    refine Calls.mono HC.out ?_
    rintro e w2 ⟨rfl, hb2⟩
    have HY2 := hid (HY.out.below hb2 HY.out.lt)
    have HO2 := hid (ownU_below HO1.out hb2)
    have HB2 := hid (HB1.out.trans (hb2.mono HB1.out.size))
    have hbs2 := HB2.out.size
    have hyl2 := HY2.out.lt
    clear hb2 HC HW1 HY HO1 HB1 hs1 e0 e1 e2 e3 e4 y0 y1 y2 y3 y4
    cases t
    · have Hst := hid (filter_yes (p := fun a => !p a) Hf.out (by simp only [Ht.out]; rfl))
      have hlen : (l ++ [(⟨yname, yprio, yneed, ytries, ytag⟩ : JobD)]).length = l.length + 1 := by simp
      obtain ⟨y0, y1, y2, y3, y4⟩ := Blk.c5 (HY2.out)
      go_wp2_with (at_builtin; refine push_rec jobV rfl _ _ 22 38 (.agg #[.string ⟨#[]⟩, .int .i64 0, .int .i64 0, .int .i64 0, .string ⟨#[]⟩]) 5 56 rfl Tryz.underlying22 infoJobT rfl (by decide) jobV_len jobV_oneT w.heap.size _ _ _ l rfl HO2.out _ ⟨yname, yprio, yneed, ytries, ytag⟩ rfl _ (by simp) rfl (by omega) (by unfold maxLen; omega) (by omega) ?_; intro A2 c2 w3 ho4 hg4; have HB3 := hid (HB2.out.trans (hg4.below (B := w.heap.size) hbs2 (fun q hq => by have := (HO2.out.lt q hq).1; omega))))
      go_roundw
      case rel => exact ⟨k + 1, A2, c2, l ++ [(⟨yname, yprio, yneed, ytries, ytag⟩ : JobD)], by omega, by go_num, by rw [hlen], by rw [Hst.out, ← HF.out], by omega, HB3.out, by rw [hlen]; exact ho4⟩
      case measure => simp [intOf]; omega
    · have Hst := hid (filter_no (p := fun a => !p a) Hf.out (by simp only [Ht.out]; rfl))
      go_wp2
      go_roundw
      case rel => exact ⟨k + 1, A', c', l, by omega, by go_num, rfl, by rw [Hst.out, ← HF.out], by omega, HB2.out, HO2.out⟩
      case measure => simp [intOf]; omega
  · obtain rfl : n = k := by omega
    have hle : l = P := by rw [HF.out, ← HP.out, List.take_of_length_le (by have := Hl.out; omega)]
    have HL := hid hle
    clear hle HF HP
    go_wp2
    go_ret
    rw [← HL.out]
    exact ⟨A', c', rfl, HO.out, HB.out⟩
theorem rwo_node (p : NodeD → Bool) (F : FuncId) (caps : Array Value) (xs : List NodeD) (A : Option Addr) (n c : Nat) (w : World) (hent : ∀ args w, (callFunc F args).run Tryz.prog w = .ok (.enter F args) w) (hx : SlAt w w.heap.size 3 A n (rowsV nodeV xs)) (hl : xs.length = n) (hn : n ≤ 1000) (hp : Answers p F caps nodeV xs w) :
 Calls Tryz.prog 56 #[.slice A n c, .func (.func F) #[] caps] w (RPutPost 40 3 nodeV (xs.filter fun a => !p a) w) := by
 obtain ⟨P, hP⟩ : ∃ P, (xs.filter fun a => !p a) = P := ⟨_, rfl⟩
 rw [hP]
 have HP := hid hP
 have Hl := hid hl
 have Hx := hid hx
 have Hp := hid hp
 clear hP hl hx hp
 go_enter Tryz.func56, Tryz.ntmps56
 go_wp2
 go_loopw [5, 10] (fun out i wr => ∃ (k : Nat) (A : Option Addr) (c : Nat) (l : List NodeD), k ≤ n ∧ i = .int .i64 k ∧ out = .slice A l.length c ∧ l = (xs.take k).filter (fun a => !p a) ∧ l.length ≤ k ∧ Below w.heap.size w wr ∧ wr.ownsRow w.heap.size 40 3 (.slice A l.length c) l.length (rowsV nodeV l)) (fun _ i _ => n - (intOf i).toNat)
 case atStart => exact ⟨0, none, 0, [], Nat.zero_le _, rfl, rfl, by simp, Nat.le_refl _, Below.refl _ _, World.ownsRow_nil _ _ _ _⟩
 case round =>
  obtain ⟨k, A', c', l, hk, rfl, rfl, hfl, hll, hb, ho⟩ := hrel
  have HF := hid hfl
  have HB := hid hb
  have HO := hid ho
  have hbs := hb.size
  clear hfl hb ho
  by_cases hlt : k < n
  · obtain ⟨y, hf⟩ : ∃ y, xs[k]? = some y := ⟨_, List.getElem?_eq_getElem (by have := Hl.out; omega)⟩
    obtain ⟨bb, off, hao, hbB, hc⟩ := (Hx.out.below HB.out).rec_ nodeV_len Hl.out hf
    subst hao
    obtain ⟨t, ht⟩ : ∃ t, p y = t := ⟨_, rfl⟩
    have Hf := hid hf
    have Ht := hid ht
    have hmem := List.mem_of_getElem? hf
    obtain ⟨W1, hW1⟩ : ∃ W1, wr.alloc (.cells (nodeV y).toArray 40) = W1 := ⟨_, rfl⟩
    have hB1 : Below wr.heap.size wr W1 := by rw [← hW1]; exact (Below.refl _ _).alloc (Nat.le_refl _) _
    have HY := hid (show Blk W1 wr.heap.size 40 (nodeV y).toArray from by rw [← hW1]; exact heap_alloc_new wr _)
    have HB1 := hid (HB.out.trans (hB1.mono hbs))
    have HC := hid (Hp.out W1 HB1.out y hmem)
    rw [ht] at HC
    have Hn := hid (show ∀ q, (Value.slice A' l.length c').ownBlock = some q → w.heap.size ≤ q ∧ q < wr.heap.size from fun q hq => ⟨(HO.out.lt q hq).1, (HO.out.lt q hq).2⟩)
    have HO1 := hid (ownU_below HO.out hB1)
    have HW1 := hid hW1
    have hyl := HY.out.lt
    have hs1 : W1.heap.size = wr.heap.size + 1 := by rw [← hW1]; simp
    clear hf hB1 hW1 ht HO hmem
    obtain ⟨yname, yroom, yzone⟩ := y
    have HY := hid (show Blk W1 wr.heap.size 40 #[.string yname, .int .i64 yroom, .string yzone] from HY.out)
    have HC := hid (show Calls Tryz.prog F (#[.agg #[.string yname, .int .i64 yroom, .string yzone]] ++ caps) W1 fun e W' => e = .returned (.bool t) ∧ Below W1.heap.size W1 W' from HC.out)
    have HW1 := hid (show wr.alloc (.cells #[.string yname, .int .i64 yroom, .string yzone] 40) = W1 from HW1.out)
    obtain ⟨e0, e1, e2⟩ := rc3 hc
    have y0 : (wr.alloc (.cells #[.string yname, .int .i64 yroom, .string yzone] 40)).cell? ⟨wr.heap.size, 0, none⟩ = some (.string yname) := by rw [HW1.out]; exact HY.out.cell 0
    have y1 : (wr.alloc (.cells #[.string yname, .int .i64 yroom, .string yzone] 40)).cell? ⟨wr.heap.size, 1, none⟩ = some (.int .i64 yroom) := by rw [HW1.out]; exact HY.out.cell 1
    have y2 : (wr.alloc (.cells #[.string yname, .int .i64 yroom, .string yzone] 40)).cell? ⟨wr.heap.size, 2, none⟩ = some (.string yzone) := by rw [HW1.out]; exact HY.out.cell 2
    have hlb : bb < wr.heap.size := by omega
    clear hc
    go_wp2_with fail
    try simp only [HW1.out]
    refine Calls.mono HC.out ?_
    rintro e w2 ⟨rfl, hb2⟩
    have HY2 := hid (HY.out.below hb2 HY.out.lt)
    have HO2 := hid (ownU_below HO1.out hb2)
    have HB2 := hid (HB1.out.trans (hb2.mono HB1.out.size))
    have hbs2 := HB2.out.size
    have hyl2 := HY2.out.lt
    clear hb2 HC HW1 HY HO1 HB1 hs1 e0 e1 e2 y0 y1 y2
    cases t
    · have Hst := hid (filter_yes (p := fun a => !p a) Hf.out (by simp only [Ht.out]; rfl))
      have hlen : (l ++ [(⟨yname, yroom, yzone⟩ : NodeD)]).length = l.length + 1 := by simp
      have y0 : w2.cell? ⟨wr.heap.size, 0, none⟩ = some (.string yname) := HY2.out.cell 0
      have y1 : w2.cell? ⟨wr.heap.size, 1, none⟩ = some (.int .i64 yroom) := HY2.out.cell 1
      have y2 : w2.cell? ⟨wr.heap.size, 2, none⟩ = some (.string yzone) := HY2.out.cell 2
      go_wp2_with (at_builtin; refine push_rec nodeV rfl _ _ 23 40 (.agg #[.string ⟨#[]⟩, .int .i64 0, .string ⟨#[]⟩]) 3 40 rfl Tryz.underlying23 infoNodeT rfl (by decide) nodeV_len nodeV_oneT w.heap.size _ _ _ l rfl HO2.out _ ⟨yname, yroom, yzone⟩ rfl _ (by simp) rfl (by omega) (by unfold maxLen; omega) (by omega) ?_; intro A2 c2 w3 ho4 hg4; have HB3 := hid (HB2.out.trans (hg4.below (B := w.heap.size) hbs2 (fun q hq => by have := (HO2.out.lt q hq).1; omega))))
      go_roundw
      case rel => exact ⟨k + 1, A2, c2, l ++ [(⟨yname, yroom, yzone⟩ : NodeD)], by omega, by go_num, by rw [hlen], by rw [Hst.out, ← HF.out], by omega, HB3.out, by rw [hlen]; exact ho4⟩
      case measure => simp [intOf]; omega
    · have Hst := hid (filter_no (p := fun a => !p a) Hf.out (by simp only [Ht.out]; rfl))
      go_wp2
      go_roundw
      case rel => exact ⟨k + 1, A', c', l, by omega, by go_num, rfl, by rw [Hst.out, ← HF.out], by omega, HB2.out, HO2.out⟩
      case measure => simp [intOf]; omega
  · obtain rfl : n = k := by omega
    have hle : l = P := by rw [HF.out, ← HP.out, List.take_of_length_le (by have := Hl.out; omega)]
    have HL := hid hle
    clear hle HF HP
    go_wp2
    go_ret
    rw [← HL.out]
    exact ⟨A', c', rfl, HO.out, HB.out⟩
theorem rwo_lease (p : LeaseD → Bool) (F : FuncId) (caps : Array Value) (xs : List LeaseD) (A : Option Addr) (n c : Nat) (w : World) (hent : ∀ args w, (callFunc F args).run Tryz.prog w = .ok (.enter F args) w) (hx : SlAt w w.heap.size 3 A n (rowsV leaseV xs)) (hl : xs.length = n) (hn : n ≤ 1000) (hp : Answers p F caps leaseV xs w) :
 Calls Tryz.prog 58 #[.slice A n c, .func (.func F) #[] caps] w (RPutPost 42 3 leaseV (xs.filter fun a => !p a) w) := by
 obtain ⟨P, hP⟩ : ∃ P, (xs.filter fun a => !p a) = P := ⟨_, rfl⟩
 rw [hP]
 have HP := hid hP
 have Hl := hid hl
 have Hx := hid hx
 have Hp := hid hp
 clear hP hl hx hp
 go_enter Tryz.func58, Tryz.ntmps58
 go_wp2
 go_loopw [5, 10] (fun out i wr => ∃ (k : Nat) (A : Option Addr) (c : Nat) (l : List LeaseD), k ≤ n ∧ i = .int .i64 k ∧ out = .slice A l.length c ∧ l = (xs.take k).filter (fun a => !p a) ∧ l.length ≤ k ∧ Below w.heap.size w wr ∧ wr.ownsRow w.heap.size 42 3 (.slice A l.length c) l.length (rowsV leaseV l)) (fun _ i _ => n - (intOf i).toNat)
 case atStart => exact ⟨0, none, 0, [], Nat.zero_le _, rfl, rfl, by simp, Nat.le_refl _, Below.refl _ _, World.ownsRow_nil _ _ _ _⟩
 case round =>
  obtain ⟨k, A', c', l, hk, rfl, rfl, hfl, hll, hb, ho⟩ := hrel
  have HF := hid hfl
  have HB := hid hb
  have HO := hid ho
  have hbs := hb.size
  clear hfl hb ho
  by_cases hlt : k < n
  · obtain ⟨y, hf⟩ : ∃ y, xs[k]? = some y := ⟨_, List.getElem?_eq_getElem (by have := Hl.out; omega)⟩
    obtain ⟨bb, off, hao, hbB, hc⟩ := (Hx.out.below HB.out).rec_ leaseV_len Hl.out hf
    subst hao
    obtain ⟨t, ht⟩ : ∃ t, p y = t := ⟨_, rfl⟩
    have Hf := hid hf
    have Ht := hid ht
    have hmem := List.mem_of_getElem? hf
    obtain ⟨W1, hW1⟩ : ∃ W1, wr.alloc (.cells (leaseV y).toArray 42) = W1 := ⟨_, rfl⟩
    have hB1 : Below wr.heap.size wr W1 := by rw [← hW1]; exact (Below.refl _ _).alloc (Nat.le_refl _) _
    have HY := hid (show Blk W1 wr.heap.size 42 (leaseV y).toArray from by rw [← hW1]; exact heap_alloc_new wr _)
    have HB1 := hid (HB.out.trans (hB1.mono hbs))
    have HC := hid (Hp.out W1 HB1.out y hmem)
    rw [ht] at HC
    have Hn := hid (show ∀ q, (Value.slice A' l.length c').ownBlock = some q → w.heap.size ≤ q ∧ q < wr.heap.size from fun q hq => ⟨(HO.out.lt q hq).1, (HO.out.lt q hq).2⟩)
    have HO1 := hid (ownU_below HO.out hB1)
    have HW1 := hid hW1
    have hyl := HY.out.lt
    have hs1 : W1.heap.size = wr.heap.size + 1 := by rw [← hW1]; simp
    clear hf hB1 hW1 ht HO hmem
    obtain ⟨yjob, ynode, ytill⟩ := y
    have HY := hid (show Blk W1 wr.heap.size 42 #[.string yjob, .string ynode, .int .i64 ytill] from HY.out)
    have HC := hid (show Calls Tryz.prog F (#[.agg #[.string yjob, .string ynode, .int .i64 ytill]] ++ caps) W1 fun e W' => e = .returned (.bool t) ∧ Below W1.heap.size W1 W' from HC.out)
    have HW1 := hid (show wr.alloc (.cells #[.string yjob, .string ynode, .int .i64 ytill] 42) = W1 from HW1.out)
    obtain ⟨e0, e1, e2⟩ := rc3 hc
    have y0 : (wr.alloc (.cells #[.string yjob, .string ynode, .int .i64 ytill] 42)).cell? ⟨wr.heap.size, 0, none⟩ = some (.string yjob) := by rw [HW1.out]; exact HY.out.cell 0
    have y1 : (wr.alloc (.cells #[.string yjob, .string ynode, .int .i64 ytill] 42)).cell? ⟨wr.heap.size, 1, none⟩ = some (.string ynode) := by rw [HW1.out]; exact HY.out.cell 1
    have y2 : (wr.alloc (.cells #[.string yjob, .string ynode, .int .i64 ytill] 42)).cell? ⟨wr.heap.size, 2, none⟩ = some (.int .i64 ytill) := by rw [HW1.out]; exact HY.out.cell 2
    have hlb : bb < wr.heap.size := by omega
    clear hc
    go_wp2_with fail
    try simp only [HW1.out]
    refine Calls.mono HC.out ?_
    rintro e w2 ⟨rfl, hb2⟩
    have HY2 := hid (HY.out.below hb2 HY.out.lt)
    have HO2 := hid (ownU_below HO1.out hb2)
    have HB2 := hid (HB1.out.trans (hb2.mono HB1.out.size))
    have hbs2 := HB2.out.size
    have hyl2 := HY2.out.lt
    clear hb2 HC HW1 HY HO1 HB1 hs1 e0 e1 e2 y0 y1 y2
    cases t
    · have Hst := hid (filter_yes (p := fun a => !p a) Hf.out (by simp only [Ht.out]; rfl))
      have hlen : (l ++ [(⟨yjob, ynode, ytill⟩ : LeaseD)]).length = l.length + 1 := by simp
      have y0 : w2.cell? ⟨wr.heap.size, 0, none⟩ = some (.string yjob) := HY2.out.cell 0
      have y1 : w2.cell? ⟨wr.heap.size, 1, none⟩ = some (.string ynode) := HY2.out.cell 1
      have y2 : w2.cell? ⟨wr.heap.size, 2, none⟩ = some (.int .i64 ytill) := HY2.out.cell 2
      go_wp2_with (at_builtin; refine push_rec leaseV rfl _ _ 24 42 (.agg #[.string ⟨#[]⟩, .string ⟨#[]⟩, .int .i64 0]) 3 40 rfl Tryz.underlying24 infoLeaseT rfl (by decide) leaseV_len leaseV_oneT w.heap.size _ _ _ l rfl HO2.out _ ⟨yjob, ynode, ytill⟩ rfl _ (by simp) rfl (by omega) (by unfold maxLen; omega) (by omega) ?_; intro A2 c2 w3 ho4 hg4; have HB3 := hid (HB2.out.trans (hg4.below (B := w.heap.size) hbs2 (fun q hq => by have := (HO2.out.lt q hq).1; omega))))
      go_roundw
      case rel => exact ⟨k + 1, A2, c2, l ++ [(⟨yjob, ynode, ytill⟩ : LeaseD)], by omega, by go_num, by rw [hlen], by rw [Hst.out, ← HF.out], by omega, HB3.out, by rw [hlen]; exact ho4⟩
      case measure => simp [intOf]; omega
    · have Hst := hid (filter_no (p := fun a => !p a) Hf.out (by simp only [Ht.out]; rfl))
      go_wp2
      go_roundw
      case rel => exact ⟨k + 1, A', c', l, by omega, by go_num, rfl, by rw [Hst.out, ← HF.out], by omega, HB2.out, HO2.out⟩
      case measure => simp [intOf]; omega
  · obtain rfl : n = k := by omega
    have hle : l = P := by rw [HF.out, ← HP.out, List.take_of_length_le (by have := Hl.out; omega)]
    have HL := hid hle
    clear hle HF HP
    go_wp2
    go_ret
    rw [← HL.out]
    exact ⟨A', c', rfl, HO.out, HB.out⟩
end Go.Proofs.YtjgnnobccecpeaaGreatDoor
