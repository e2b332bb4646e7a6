/- Of the proof of a statement: Has. -/
import Derived.Test.YtjgnnobccecpeaaGreatDoorPHasF
set_option linter.unusedVariables false
set_option linter.unusedSimpArgs false
set_option maxRecDepth 100000
set_option maxHeartbeats 8000000
/- The walks of slices.Index and Contains and of the reference's Has at rows of records. -/
namespace Go.Proofs.YtjgnnobccecpeaaGreatDoor
open Go.Lib (hid)
open Go.RowKit
noncomputable def eqB {α : Type} (x y : α) : Bool := @decide (x = y) (Classical.propDecidable _)
theorem eqB_iff {α : Type} {x y : α} : eqB x y = true ↔ x = y := by unfold eqB; exact @decide_eq_true_iff _ (Classical.propDecidable _)
theorem eqB_of {α : Type} {x y : α} {t : Bool} (h : t = true ↔ x = y) : eqB x y = t := by
 cases t with
 | true => exact eqB_iff.2 (h.1 rfl)
 | false =>
  cases he : eqB x y with
  | false => rfl
  | true => exact absurd (h.2 (eqB_iff.1 he)) (by decide)
theorem ixv_job (v : JobD) (xs : List JobD) (A : Option Addr) (n c : Nat) (w : World) (hx : SlAt w w.heap.size 5 A n (rowsV jobV xs)) (hl : xs.length = n) (hn : n ≤ 9223372036854775807) :
 Calls Tryz.prog 263 #[.slice A n c, .agg (jobV v).toArray] w (IxPost (eqB v) xs w) := by
 have Hl := hid hl
 have Hx := hid hx
 clear hl hx
 obtain ⟨v_name, v_prio, v_need, v_tries, v_tag⟩ := v
 rw [show (Value.agg (jobV ⟨v_name, v_prio, v_need, v_tries, v_tag⟩).toArray) = .agg #[.string v_name, .int .i64 v_prio, .int .i64 v_need, .int .i64 v_tries, .string v_tag] from rfl]
 have Hb0 := hid (show Below w.heap.size w (w.alloc (.cells #[.string v_name, .int .i64 v_prio, .int .i64 v_need, .int .i64 v_tries, .string v_tag] 38)) from (Below.refl _ _).alloc (Nat.le_refl _) _)
 have HB0 := hid (show Blk (w.alloc (.cells #[.string v_name, .int .i64 v_prio, .int .i64 v_need, .int .i64 v_tries, .string v_tag] 38)) w.heap.size 38 #[.string v_name, .int .i64 v_prio, .int .i64 v_need, .int .i64 v_tries, .string v_tag] from heap_alloc_new w _)
 go_enter Tryz.func263, Tryz.ntmps263
 go_wp2
 go_loopw [5, 8] (fun _ i wr => IxInv (eqB ⟨v_name, v_prio, v_need, v_tries, v_tag⟩) xs n w i wr ∧ Blk wr w.heap.size 38 #[.string v_name, .int .i64 v_prio, .int .i64 v_need, .int .i64 v_tries, .string v_tag]) (fun _ i _ => n - (intOf i).toNat)
 case atStart => exact ⟨⟨0, Nat.zero_le _, rfl, by simp, Hb0.out⟩, HB0.out⟩
 case round =>
  clear Hb0 HB0
  obtain ⟨⟨k, hk, rfl, hnone, hb⟩, hB⟩ := hrel
  have Hnone := hid hnone
  have Hb := hid hb
  have HB := hid hB
  have hsz := hb.size
  have hBl := hB.lt
  clear hnone
  by_cases hlt : k < n
  · obtain ⟨y, hf⟩ : ∃ y, xs[k]? = some y := ⟨_, List.getElem?_eq_getElem (by rw [Hl.out]; exact hlt)⟩
    obtain ⟨b, off, rfl, hbB, hc⟩ := (Hx.out.below hb).rec_ jobV_len Hl.out hf
    have Hf := hid hf
    obtain ⟨y_name, y_prio, y_need, y_tries, y_tag⟩ := y
    have c0 : wr.cell? ⟨b, off + k * 5, none⟩ = some (.string y_name) := hc 0 _ rfl
    have d0 : wr.cell? ⟨w.heap.size, 0, none⟩ = some (.string v_name) := hB.cell 0
    have c1 : wr.cell? ⟨b, off + k * 5 + 1, none⟩ = some (.int .i64 y_prio) := hc 1 _ rfl
    have d1 : wr.cell? ⟨w.heap.size, 1, none⟩ = some (.int .i64 v_prio) := hB.cell 1
    have c2 : wr.cell? ⟨b, off + k * 5 + 2, none⟩ = some (.int .i64 y_need) := hc 2 _ rfl
    have d2 : wr.cell? ⟨w.heap.size, 2, none⟩ = some (.int .i64 v_need) := hB.cell 2
    have c3 : wr.cell? ⟨b, off + k * 5 + 3, none⟩ = some (.int .i64 y_tries) := hc 3 _ rfl
    have d3 : wr.cell? ⟨w.heap.size, 3, none⟩ = some (.int .i64 v_tries) := hB.cell 3
    have c4 : wr.cell? ⟨b, off + k * 5 + 4, none⟩ = some (.string y_tag) := hc 4 _ rfl
    have d4 : wr.cell? ⟨w.heap.size, 4, none⟩ = some (.string v_tag) := hB.cell 4
    obtain ⟨t, ht, -, hrun⟩ := neqv_job v_name y_name v_tag y_tag v_prio y_prio v_need y_need v_tries y_tries
    have hq := eqB_of ht
    have Hhit := hid (fun (h : t = true) => any_hit (p := eqB ⟨v_name, v_prio, v_need, v_tries, v_tag⟩) Hf.out (hq.trans h))
    have Hmiss := hid (fun (h : t = false) => any_miss (p := eqB ⟨v_name, v_prio, v_need, v_tries, v_tag⟩) Hf.out Hnone.out (hq.trans h))
    have hlb : b < wr.heap.size := by omega
    clear hc hf hb hB ht hq
    cases t
    · have fin := hid (Hmiss.out rfl)
      clear Hhit Hmiss
      have Hb2 := hid Hb.out.drew
      have HB2 := hid (show Blk wr.drew w.heap.size 38 #[.string v_name, .int .i64 v_prio, .int .i64 v_need, .int .i64 v_tries, .string v_tag] from HB.out)
      go_wp2
      go_region
      go_wp2
      go_roundw
      case rel => exact ⟨⟨k + 1, by omega, by go_num, fin.out, Hb2.out⟩, HB2.out⟩
      case measure => simp [intOf]; omega
    · have fin := hid (Hhit.out rfl)
      clear Hhit Hmiss
      have Hb2 := hid Hb.out.drew
      go_wp2
      go_region
      go_wp2
      go_ret
      exact ⟨_, rfl, Hb2.out, .inr ⟨by omega, fin.out⟩⟩
  · have fin := hid (any_out Hnone.out (by rw [Hl.out]; omega))
    clear hb hB
    go_wp2
    go_ret
    exact ⟨_, rfl, Hb.out, .inl ⟨rfl, fin.out⟩⟩
theorem rhas_job (v : JobD) (xs : List JobD) (A : Option Addr) (n c : Nat) (w : World) (hx : SlAt w w.heap.size 5 A n (rowsV jobV xs)) (hl : xs.length = n) (hn : n ≤ 9223372036854775807) :
 Calls Tryz.prog 131 #[.slice A n c, .agg (jobV v).toArray] w fun e w' => e = .returned (.bool (xs.any (eqB v))) ∧ Below w.heap.size w w' := by
 have Hl := hid hl
 have Hx := hid hx
 clear hl hx
 obtain ⟨v_name, v_prio, v_need, v_tries, v_tag⟩ := v
 rw [show (Value.agg (jobV ⟨v_name, v_prio, v_need, v_tries, v_tag⟩).toArray) = .agg #[.string v_name, .int .i64 v_prio, .int .i64 v_need, .int .i64 v_tries, .string v_tag] from rfl]
 have Hb0 := hid (show Below w.heap.size w (w.alloc (.cells #[.string v_name, .int .i64 v_prio, .int .i64 v_need, .int .i64 v_tries, .string v_tag] 38)) from (Below.refl _ _).alloc (Nat.le_refl _) _)
 have HB0 := hid (show Blk (w.alloc (.cells #[.string v_name, .int .i64 v_prio, .int .i64 v_need, .int .i64 v_tries, .string v_tag] 38)) w.heap.size 38 #[.string v_name, .int .i64 v_prio, .int .i64 v_need, .int .i64 v_tries, .string v_tag] from heap_alloc_new w _)
 go_enter Tryz.func131, Tryz.ntmps131
 go_wp2
 go_loopw [6, 9] (fun _ i wr => IxInv (eqB ⟨v_name, v_prio, v_need, v_tries, v_tag⟩) xs n w i wr ∧ Blk wr w.heap.size 38 #[.string v_name, .int .i64 v_prio, .int .i64 v_need, .int .i64 v_tries, .string v_tag]) (fun _ i _ => n - (intOf i).toNat)
 case atStart => exact ⟨⟨0, Nat.zero_le _, rfl, by simp, Hb0.out⟩, HB0.out⟩
 case round =>
  clear Hb0 HB0
  obtain ⟨⟨k, hk, rfl, hnone, hb⟩, hB⟩ := hrel
  have Hnone := hid hnone
  have Hb := hid hb
  have HB := hid hB
  have hsz := hb.size
  have hBl := hB.lt
  clear hnone
  by_cases hlt : k < n
  · obtain ⟨y, hf⟩ : ∃ y, xs[k]? = some y := ⟨_, List.getElem?_eq_getElem (by rw [Hl.out]; exact hlt)⟩
    obtain ⟨b, off, rfl, hbB, hc⟩ := (Hx.out.below hb).rec_ jobV_len Hl.out hf
    have Hf := hid hf
    obtain ⟨y_name, y_prio, y_need, y_tries, y_tag⟩ := y
    have c0 : wr.cell? ⟨b, off + k * 5, none⟩ = some (.string y_name) := hc 0 _ rfl
    have d0 : wr.cell? ⟨w.heap.size, 0, none⟩ = some (.string v_name) := hB.cell 0
    have c1 : wr.cell? ⟨b, off + k * 5 + 1, none⟩ = some (.int .i64 y_prio) := hc 1 _ rfl
    have d1 : wr.cell? ⟨w.heap.size, 1, none⟩ = some (.int .i64 v_prio) := hB.cell 1
    have c2 : wr.cell? ⟨b, off + k * 5 + 2, none⟩ = some (.int .i64 y_need) := hc 2 _ rfl
    have d2 : wr.cell? ⟨w.heap.size, 2, none⟩ = some (.int .i64 v_need) := hB.cell 2
    have c3 : wr.cell? ⟨b, off + k * 5 + 3, none⟩ = some (.int .i64 y_tries) := hc 3 _ rfl
    have d3 : wr.cell? ⟨w.heap.size, 3, none⟩ = some (.int .i64 v_tries) := hB.cell 3
    have c4 : wr.cell? ⟨b, off + k * 5 + 4, none⟩ = some (.string y_tag) := hc 4 _ rfl
    have d4 : wr.cell? ⟨w.heap.size, 4, none⟩ = some (.string v_tag) := hB.cell 4
    obtain ⟨t, ht, -, hrun⟩ := neqv_job v_name y_name v_tag y_tag v_prio y_prio v_need y_need v_tries y_tries
    have hq := eqB_of ht
    have Hhit := hid (fun (h : t = true) => any_hit (p := eqB ⟨v_name, v_prio, v_need, v_tries, v_tag⟩) Hf.out (hq.trans h))
    have Hmiss := hid (fun (h : t = false) => any_miss (p := eqB ⟨v_name, v_prio, v_need, v_tries, v_tag⟩) Hf.out Hnone.out (hq.trans h))
    have hlb : b < wr.heap.size := by omega
    clear hc hf hb hB ht hq
    cases t
    · have fin := hid (Hmiss.out rfl)
      clear Hhit Hmiss
      have Hb2 := hid (Hb.out.alloc Hb.out.size (.cells #[.string y_name, .int .i64 y_prio, .int .i64 y_need, .int .i64 y_tries, .string y_tag] 38))
      have HB2 := hid (HB.out.alloc (.cells #[.string y_name, .int .i64 y_prio, .int .i64 y_need, .int .i64 y_tries, .string y_tag] 38))
      go_wp2
      go_roundw
      case rel => exact ⟨⟨k + 1, by omega, by go_num, fin.out, Hb2.out⟩, HB2.out⟩
      case measure => simp [intOf]; omega
    · have fin := hid (Hhit.out rfl)
      clear Hhit Hmiss
      have Hb2 := hid (Hb.out.alloc Hb.out.size (.cells #[.string y_name, .int .i64 y_prio, .int .i64 y_need, .int .i64 y_tries, .string y_tag] 38))
      go_wp2
      go_ret
      exact ⟨ret_bool fin.out.symm, Hb2.out⟩
  · have fin := hid (any_out Hnone.out (by rw [Hl.out]; omega))
    clear hb hB
    go_wp2
    go_ret
    exact ⟨ret_bool fin.out.symm, Hb.out⟩
theorem has_job (v : JobD) (xs : List JobD) (A : Option Addr) (n c : Nat) (w : World) (hx : SlAt w w.heap.size 5 A n (rowsV jobV xs)) (hl : xs.length = n) (hn : n ≤ 9223372036854775807) :
 Calls Tryz.prog 194 #[.slice A n c, .agg (jobV v).toArray] w fun e w' => e = .returned (.bool (xs.any (eqB v))) ∧ Below w.heap.size w w' := by
 have hb1 : Below w.heap.size w (w.alloc (.cells (jobV v).toArray 38)) := (Below.refl _ _).alloc (Nat.le_refl _) _
 have hC := ixv_job v xs A n c _ ((hx.below hb1).more hb1.size) hl hn
 have Hb1 := hid hb1
 have hC := hid hC
 clear hx hl hn hb1
 obtain ⟨v_name, v_prio, v_need, v_tries, v_tag⟩ := v
 rw [show (jobV ⟨v_name, v_prio, v_need, v_tries, v_tag⟩).toArray = #[.string v_name, .int .i64 v_prio, .int .i64 v_need, .int .i64 v_tries, .string v_tag] from rfl] at hC Hb1 ⊢
 go_enter Tryz.func194, Tryz.ntmps194
 go_wp2_with fail
 refine Calls.mono hC.out ?_
 rintro e w2 ⟨i, rfl, hb2, hcase⟩
 have Hb2 := hid (Hb1.out.trans (hb2.mono Hb1.out.size))
 rcases hcase with ⟨rfl, hn⟩ | ⟨hi, hn⟩
 · go_wp2
   go_ret
   exact ⟨ret_bool hn.symm, Hb2.out⟩
 · have d0 : decide (0 ≤ i) = true := decide_eq_true hi
   go_wp2
   go_ret
   exact ⟨ret_bool hn.symm, Hb2.out⟩
theorem ixv_node (v : NodeD) (xs : List NodeD) (A : Option Addr) (n c : Nat) (w : World) (hx : SlAt w w.heap.size 3 A n (rowsV nodeV xs)) (hl : xs.length = n) (hn : n ≤ 9223372036854775807) :
 Calls Tryz.prog 264 #[.slice A n c, .agg (nodeV v).toArray] w (IxPost (eqB v) xs w) := by
 have Hl := hid hl
 have Hx := hid hx
 clear hl hx
 obtain ⟨v_name, v_room, v_zone⟩ := v
 rw [show (Value.agg (nodeV ⟨v_name, v_room, v_zone⟩).toArray) = .agg #[.string v_name, .int .i64 v_room, .string v_zone] from rfl]
 have Hb0 := hid (show Below w.heap.size w (w.alloc (.cells #[.string v_name, .int .i64 v_room, .string v_zone] 40)) from (Below.refl _ _).alloc (Nat.le_refl _) _)
 have HB0 := hid (show Blk (w.alloc (.cells #[.string v_name, .int .i64 v_room, .string v_zone] 40)) w.heap.size 40 #[.string v_name, .int .i64 v_room, .string v_zone] from heap_alloc_new w _)
 go_enter Tryz.func264, Tryz.ntmps264
 go_wp2
 go_loopw [5, 8] (fun _ i wr => IxInv (eqB ⟨v_name, v_room, v_zone⟩) xs n w i wr ∧ Blk wr w.heap.size 40 #[.string v_name, .int .i64 v_room, .string v_zone]) (fun _ i _ => n - (intOf i).toNat)
 case atStart => exact ⟨⟨0, Nat.zero_le _, rfl, by simp, Hb0.out⟩, HB0.out⟩
 case round =>
  clear Hb0 HB0
  obtain ⟨⟨k, hk, rfl, hnone, hb⟩, hB⟩ := hrel
  have Hnone := hid hnone
  have Hb := hid hb
  have HB := hid hB
  have hsz := hb.size
  have hBl := hB.lt
  clear hnone
  by_cases hlt : k < n
  · obtain ⟨y, hf⟩ : ∃ y, xs[k]? = some y := ⟨_, List.getElem?_eq_getElem (by rw [Hl.out]; exact hlt)⟩
    obtain ⟨b, off, rfl, hbB, hc⟩ := (Hx.out.below hb).rec_ nodeV_len Hl.out hf
    have Hf := hid hf
    obtain ⟨y_name, y_room, y_zone⟩ := y
    have c0 : wr.cell? ⟨b, off + k * 3, none⟩ = some (.string y_name) := hc 0 _ rfl
    have d0 : wr.cell? ⟨w.heap.size, 0, none⟩ = some (.string v_name) := hB.cell 0
    have c1 : wr.cell? ⟨b, off + k * 3 + 1, none⟩ = some (.int .i64 y_room) := hc 1 _ rfl
    have d1 : wr.cell? ⟨w.heap.size, 1, none⟩ = some (.int .i64 v_room) := hB.cell 1
    have c2 : wr.cell? ⟨b, off + k * 3 + 2, none⟩ = some (.string y_zone) := hc 2 _ rfl
    have d2 : wr.cell? ⟨w.heap.size, 2, none⟩ = some (.string v_zone) := hB.cell 2
    obtain ⟨t, ht, -, hrun⟩ := neqv_node v_name y_name v_zone y_zone v_room y_room
    have hq := eqB_of ht
    have Hhit := hid (fun (h : t = true) => any_hit (p := eqB ⟨v_name, v_room, v_zone⟩) Hf.out (hq.trans h))
    have Hmiss := hid (fun (h : t = false) => any_miss (p := eqB ⟨v_name, v_room, v_zone⟩) Hf.out Hnone.out (hq.trans h))
    have hlb : b < wr.heap.size := by omega
    clear hc hf hb hB ht hq
    cases t
    · have fin := hid (Hmiss.out rfl)
      clear Hhit Hmiss
      have Hb2 := hid Hb.out.drew
      have HB2 := hid (show Blk wr.drew w.heap.size 40 #[.string v_name, .int .i64 v_room, .string v_zone] from HB.out)
      go_wp2
      go_region
      go_wp2
      go_roundw
      case rel => exact ⟨⟨k + 1, by omega, by go_num, fin.out, Hb2.out⟩, HB2.out⟩
      case measure => simp [intOf]; omega
    · have fin := hid (Hhit.out rfl)
      clear Hhit Hmiss
      have Hb2 := hid Hb.out.drew
      go_wp2
      go_region
      go_wp2
      go_ret
      exact ⟨_, rfl, Hb2.out, .inr ⟨by omega, fin.out⟩⟩
  · have fin := hid (any_out Hnone.out (by rw [Hl.out]; omega))
    clear hb hB
    go_wp2
    go_ret
    exact ⟨_, rfl, Hb.out, .inl ⟨rfl, fin.out⟩⟩
theorem rhas_node (v : NodeD) (xs : List NodeD) (A : Option Addr) (n c : Nat) (w : World) (hx : SlAt w w.heap.size 3 A n (rowsV nodeV xs)) (hl : xs.length = n) (hn : n ≤ 9223372036854775807) :
 Calls Tryz.prog 132 #[.slice A n c, .agg (nodeV v).toArray] w fun e w' => e = .returned (.bool (xs.any (eqB v))) ∧ Below w.heap.size w w' := by
 have Hl := hid hl
 have Hx := hid hx
 clear hl hx
 obtain ⟨v_name, v_room, v_zone⟩ := v
 rw [show (Value.agg (nodeV ⟨v_name, v_room, v_zone⟩).toArray) = .agg #[.string v_name, .int .i64 v_room, .string v_zone] from rfl]
 have Hb0 := hid (show Below w.heap.size w (w.alloc (.cells #[.string v_name, .int .i64 v_room, .string v_zone] 40)) from (Below.refl _ _).alloc (Nat.le_refl _) _)
 have HB0 := hid (show Blk (w.alloc (.cells #[.string v_name, .int .i64 v_room, .string v_zone] 40)) w.heap.size 40 #[.string v_name, .int .i64 v_room, .string v_zone] from heap_alloc_new w _)
 go_enter Tryz.func132, Tryz.ntmps132
 go_wp2
 go_loopw [6, 9] (fun _ i wr => IxInv (eqB ⟨v_name, v_room, v_zone⟩) xs n w i wr ∧ Blk wr w.heap.size 40 #[.string v_name, .int .i64 v_room, .string v_zone]) (fun _ i _ => n - (intOf i).toNat)
 case atStart => exact ⟨⟨0, Nat.zero_le _, rfl, by simp, Hb0.out⟩, HB0.out⟩
 case round =>
  clear Hb0 HB0
  obtain ⟨⟨k, hk, rfl, hnone, hb⟩, hB⟩ := hrel
  have Hnone := hid hnone
  have Hb := hid hb
  have HB := hid hB
  have hsz := hb.size
  have hBl := hB.lt
  clear hnone
  by_cases hlt : k < n
  · obtain ⟨y, hf⟩ : ∃ y, xs[k]? = some y := ⟨_, List.getElem?_eq_getElem (by rw [Hl.out]; exact hlt)⟩
    obtain ⟨b, off, rfl, hbB, hc⟩ := (Hx.out.below hb).rec_ nodeV_len Hl.out hf
    have Hf := hid hf
    obtain ⟨y_name, y_room, y_zone⟩ := y
    have c0 : wr.cell? ⟨b, off + k * 3, none⟩ = some (.string y_name) := hc 0 _ rfl
    have d0 : wr.cell? ⟨w.heap.size, 0, none⟩ = some (.string v_name) := hB.cell 0
    have c1 : wr.cell? ⟨b, off + k * 3 + 1, none⟩ = some (.int .i64 y_room) := hc 1 _ rfl
    have d1 : wr.cell? ⟨w.heap.size, 1, none⟩ = some (.int .i64 v_room) := hB.cell 1
    have c2 : wr.cell? ⟨b, off + k * 3 + 2, none⟩ = some (.string y_zone) := hc 2 _ rfl
    have d2 : wr.cell? ⟨w.heap.size, 2, none⟩ = some (.string v_zone) := hB.cell 2
    obtain ⟨t, ht, -, hrun⟩ := neqv_node v_name y_name v_zone y_zone v_room y_room
    have hq := eqB_of ht
    have Hhit := hid (fun (h : t = true) => any_hit (p := eqB ⟨v_name, v_room, v_zone⟩) Hf.out (hq.trans h))
    have Hmiss := hid (fun (h : t = false) => any_miss (p := eqB ⟨v_name, v_room, v_zone⟩) Hf.out Hnone.out (hq.trans h))
    have hlb : b < wr.heap.size := by omega
    clear hc hf hb hB ht hq
    cases t
    · have fin := hid (Hmiss.out rfl)
      clear Hhit Hmiss
      have Hb2 := hid (Hb.out.alloc Hb.out.size (.cells #[.string y_name, .int .i64 y_room, .string y_zone] 40))
      have HB2 := hid (HB.out.alloc (.cells #[.string y_name, .int .i64 y_room, .string y_zone] 40))
      go_wp2
      go_roundw
      case rel => exact ⟨⟨k + 1, by omega, by go_num, fin.out, Hb2.out⟩, HB2.out⟩
      case measure => simp [intOf]; omega
    · have fin := hid (Hhit.out rfl)
      clear Hhit Hmiss
      have Hb2 := hid (Hb.out.alloc Hb.out.size (.cells #[.string y_name, .int .i64 y_room, .string y_zone] 40))
      go_wp2
      go_ret
      exact ⟨ret_bool fin.out.symm, Hb2.out⟩
  · have fin := hid (any_out Hnone.out (by rw [Hl.out]; omega))
    clear hb hB
    go_wp2
    go_ret
    exact ⟨ret_bool fin.out.symm, Hb.out⟩
theorem has_node (v : NodeD) (xs : List NodeD) (A : Option Addr) (n c : Nat) (w : World) (hx : SlAt w w.heap.size 3 A n (rowsV nodeV xs)) (hl : xs.length = n) (hn : n ≤ 9223372036854775807) :
 Calls Tryz.prog 196 #[.slice A n c, .agg (nodeV v).toArray] w fun e w' => e = .returned (.bool (xs.any (eqB v))) ∧ Below w.heap.size w w' := by
 have hb1 : Below w.heap.size w (w.alloc (.cells (nodeV v).toArray 40)) := (Below.refl _ _).alloc (Nat.le_refl _) _
 have hC := ixv_node v xs A n c _ ((hx.below hb1).more hb1.size) hl hn
 have Hb1 := hid hb1
 have hC := hid hC
 clear hx hl hn hb1
 obtain ⟨v_name, v_room, v_zone⟩ := v
 rw [show (nodeV ⟨v_name, v_room, v_zone⟩).toArray = #[.string v_name, .int .i64 v_room, .string v_zone] from rfl] at hC Hb1 ⊢
 go_enter Tryz.func196, Tryz.ntmps196
 go_wp2_with fail
 refine Calls.mono hC.out ?_
 rintro e w2 ⟨i, rfl, hb2, hcase⟩
 have Hb2 := hid (Hb1.out.trans (hb2.mono Hb1.out.size))
 rcases hcase with ⟨rfl, hn⟩ | ⟨hi, hn⟩
 · go_wp2
   go_ret
   exact ⟨ret_bool hn.symm, Hb2.out⟩
 · have d0 : decide (0 ≤ i) = true := decide_eq_true hi
   go_wp2
   go_ret
   exact ⟨ret_bool hn.symm, Hb2.out⟩
theorem ixv_lease (v : LeaseD) (xs : List LeaseD) (A : Option Addr) (n c : Nat) (w : World) (hx : SlAt w w.heap.size 3 A n (rowsV leaseV xs)) (hl : xs.length = n) (hn : n ≤ 9223372036854775807) :
 Calls Tryz.prog 265 #[.slice A n c, .agg (leaseV v).toArray] w (IxPost (eqB v) xs w) := by
 have Hl := hid hl
 have Hx := hid hx
 clear hl hx
 obtain ⟨v_job, v_node, v_till⟩ := v
 rw [show (Value.agg (leaseV ⟨v_job, v_node, v_till⟩).toArray) = .agg #[.string v_job, .string v_node, .int .i64 v_till] from rfl]
 have Hb0 := hid (show Below w.heap.size w (w.alloc (.cells #[.string v_job, .string v_node, .int .i64 v_till] 42)) from (Below.refl _ _).alloc (Nat.le_refl _) _)
 have HB0 := hid (show Blk (w.alloc (.cells #[.string v_job, .string v_node, .int .i64 v_till] 42)) w.heap.size 42 #[.string v_job, .string v_node, .int .i64 v_till] from heap_alloc_new w _)
 go_enter Tryz.func265, Tryz.ntmps265
 go_wp2
 go_loopw [5, 8] (fun _ i wr => IxInv (eqB ⟨v_job, v_node, v_till⟩) xs n w i wr ∧ Blk wr w.heap.size 42 #[.string v_job, .string v_node, .int .i64 v_till]) (fun _ i _ => n - (intOf i).toNat)
 case atStart => exact ⟨⟨0, Nat.zero_le _, rfl, by simp, Hb0.out⟩, HB0.out⟩
 case round =>
  clear Hb0 HB0
  obtain ⟨⟨k, hk, rfl, hnone, hb⟩, hB⟩ := hrel
  have Hnone := hid hnone
  have Hb := hid hb
  have HB := hid hB
  have hsz := hb.size
  have hBl := hB.lt
  clear hnone
  by_cases hlt : k < n
  · obtain ⟨y, hf⟩ : ∃ y, xs[k]? = some y := ⟨_, List.getElem?_eq_getElem (by rw [Hl.out]; exact hlt)⟩
    obtain ⟨b, off, rfl, hbB, hc⟩ := (Hx.out.below hb).rec_ leaseV_len Hl.out hf
    have Hf := hid hf
    obtain ⟨y_job, y_node, y_till⟩ := y
    have c0 : wr.cell? ⟨b, off + k * 3, none⟩ = some (.string y_job) := hc 0 _ rfl
    have d0 : wr.cell? ⟨w.heap.size, 0, none⟩ = some (.string v_job) := hB.cell 0
    have c1 : wr.cell? ⟨b, off + k * 3 + 1, none⟩ = some (.string y_node) := hc 1 _ rfl
    have d1 : wr.cell? ⟨w.heap.size, 1, none⟩ = some (.string v_node) := hB.cell 1
    have c2 : wr.cell? ⟨b, off + k * 3 + 2, none⟩ = some (.int .i64 y_till) := hc 2 _ rfl
    have d2 : wr.cell? ⟨w.heap.size, 2, none⟩ = some (.int .i64 v_till) := hB.cell 2
    obtain ⟨t, ht, -, hrun⟩ := neqv_lease v_job y_job v_node y_node v_till y_till
    have hq := eqB_of ht
    have Hhit := hid (fun (h : t = true) => any_hit (p := eqB ⟨v_job, v_node, v_till⟩) Hf.out (hq.trans h))
    have Hmiss := hid (fun (h : t = false) => any_miss (p := eqB ⟨v_job, v_node, v_till⟩) Hf.out Hnone.out (hq.trans h))
    have hlb : b < wr.heap.size := by omega
    clear hc hf hb hB ht hq
    cases t
    · have fin := hid (Hmiss.out rfl)
      clear Hhit Hmiss
      have Hb2 := hid Hb.out.drew
      have HB2 := hid (show Blk wr.drew w.heap.size 42 #[.string v_job, .string v_node, .int .i64 v_till] from HB.out)
      go_wp2
      go_region
      go_wp2
      go_roundw
      case rel => exact ⟨⟨k + 1, by omega, by go_num, fin.out, Hb2.out⟩, HB2.out⟩
      case measure => simp [intOf]; omega
    · have fin := hid (Hhit.out rfl)
      clear Hhit Hmiss
      have Hb2 := hid Hb.out.drew
      go_wp2
      go_region
      go_wp2
      go_ret
      exact ⟨_, rfl, Hb2.out, .inr ⟨by omega, fin.out⟩⟩
  · have fin := hid (any_out Hnone.out (by rw [Hl.out]; omega))
    clear hb hB
    go_wp2
    go_ret
    exact ⟨_, rfl, Hb.out, .inl ⟨rfl, fin.out⟩⟩
theorem rhas_lease (v : LeaseD) (xs : List LeaseD) (A : Option Addr) (n c : Nat) (w : World) (hx : SlAt w w.heap.size 3 A n (rowsV leaseV xs)) (hl : xs.length = n) (hn : n ≤ 9223372036854775807) :
 Calls Tryz.prog 133 #[.slice A n c, .agg (leaseV v).toArray] w fun e w' => e = .returned (.bool (xs.any (eqB v))) ∧ Below w.heap.size w w' := by
 have Hl := hid hl
 have Hx := hid hx
 clear hl hx
 obtain ⟨v_job, v_node, v_till⟩ := v
 rw [show (Value.agg (leaseV ⟨v_job, v_node, v_till⟩).toArray) = .agg #[.string v_job, .string v_node, .int .i64 v_till] from rfl]
 have Hb0 := hid (show Below w.heap.size w (w.alloc (.cells #[.string v_job, .string v_node, .int .i64 v_till] 42)) from (Below.refl _ _).alloc (Nat.le_refl _) _)
 have HB0 := hid (show Blk (w.alloc (.cells #[.string v_job, .string v_node, .int .i64 v_till] 42)) w.heap.size 42 #[.string v_job, .string v_node, .int .i64 v_till] from heap_alloc_new w _)
 go_enter Tryz.func133, Tryz.ntmps133
 go_wp2
 go_loopw [6, 9] (fun _ i wr => IxInv (eqB ⟨v_job, v_node, v_till⟩) xs n w i wr ∧ Blk wr w.heap.size 42 #[.string v_job, .string v_node, .int .i64 v_till]) (fun _ i _ => n - (intOf i).toNat)
 case atStart => exact ⟨⟨0, Nat.zero_le _, rfl, by simp, Hb0.out⟩, HB0.out⟩
 case round =>
  clear Hb0 HB0
  obtain ⟨⟨k, hk, rfl, hnone, hb⟩, hB⟩ := hrel
  have Hnone := hid hnone
  have Hb := hid hb
  have HB := hid hB
  have hsz := hb.size
  have hBl := hB.lt
  clear hnone
  by_cases hlt : k < n
  · obtain ⟨y, hf⟩ : ∃ y, xs[k]? = some y := ⟨_, List.getElem?_eq_getElem (by rw [Hl.out]; exact hlt)⟩
    obtain ⟨b, off, rfl, hbB, hc⟩ := (Hx.out.below hb).rec_ leaseV_len Hl.out hf
    have Hf := hid hf
    obtain ⟨y_job, y_node, y_till⟩ := y
    have c0 : wr.cell? ⟨b, off + k * 3, none⟩ = some (.string y_job) := hc 0 _ rfl
    have d0 : wr.cell? ⟨w.heap.size, 0, none⟩ = some (.string v_job) := hB.cell 0
    have c1 : wr.cell? ⟨b, off + k * 3 + 1, none⟩ = some (.string y_node) := hc 1 _ rfl
    have d1 : wr.cell? ⟨w.heap.size, 1, none⟩ = some (.string v_node) := hB.cell 1
    have c2 : wr.cell? ⟨b, off + k * 3 + 2, none⟩ = some (.int .i64 y_till) := hc 2 _ rfl
    have d2 : wr.cell? ⟨w.heap.size, 2, none⟩ = some (.int .i64 v_till) := hB.cell 2
    obtain ⟨t, ht, -, hrun⟩ := neqv_lease v_job y_job v_node y_node v_till y_till
    have hq := eqB_of ht
    have Hhit := hid (fun (h : t = true) => any_hit (p := eqB ⟨v_job, v_node, v_till⟩) Hf.out (hq.trans h))
    have Hmiss := hid (fun (h : t = false) => any_miss (p := eqB ⟨v_job, v_node, v_till⟩) Hf.out Hnone.out (hq.trans h))
    have hlb : b < wr.heap.size := by omega
    clear hc hf hb hB ht hq
    cases t
    · have fin := hid (Hmiss.out rfl)
      clear Hhit Hmiss
      have Hb2 := hid (Hb.out.alloc Hb.out.size (.cells #[.string y_job, .string y_node, .int .i64 y_till] 42))
      have HB2 := hid (HB.out.alloc (.cells #[.string y_job, .string y_node, .int .i64 y_till] 42))
      go_wp2
      go_roundw
      case rel => exact ⟨⟨k + 1, by omega, by go_num, fin.out, Hb2.out⟩, HB2.out⟩
      case measure => simp [intOf]; omega
    · have fin := hid (Hhit.out rfl)
      clear Hhit Hmiss
      have Hb2 := hid (Hb.out.alloc Hb.out.size (.cells #[.string y_job, .string y_node, .int .i64 y_till] 42))
      go_wp2
      go_ret
      exact ⟨ret_bool fin.out.symm, Hb2.out⟩
  · have fin := hid (any_out Hnone.out (by rw [Hl.out]; omega))
    clear hb hB
    go_wp2
    go_ret
    exact ⟨ret_bool fin.out.symm, Hb.out⟩
theorem has_lease (v : LeaseD) (xs : List LeaseD) (A : Option Addr) (n c : Nat) (w : World) (hx : SlAt w w.heap.size 3 A n (rowsV leaseV xs)) (hl : xs.length = n) (hn : n ≤ 9223372036854775807) :
 Calls Tryz.prog 198 #[.slice A n c, .agg (leaseV v).toArray] w fun e w' => e = .returned (.bool (xs.any (eqB v))) ∧ Below w.heap.size w w' := by
 have hb1 : Below w.heap.size w (w.alloc (.cells (leaseV v).toArray 42)) := (Below.refl _ _).alloc (Nat.le_refl _) _
 have hC := ixv_lease v xs A n c _ ((hx.below hb1).more hb1.size) hl hn
 have Hb1 := hid hb1
 have hC := hid hC
 clear hx hl hn hb1
 obtain ⟨v_job, v_node, v_till⟩ := v
 rw [show (leaseV ⟨v_job, v_node, v_till⟩).toArray = #[.string v_job, .string v_node, .int .i64 v_till] from rfl] at hC Hb1 ⊢
 go_enter Tryz.func198, Tryz.ntmps198
 go_wp2_with fail
 refine Calls.mono hC.out ?_
 rintro e w2 ⟨i, rfl, hb2, hcase⟩
 have Hb2 := hid (Hb1.out.trans (hb2.mono Hb1.out.size))
 rcases hcase with ⟨rfl, hn⟩ | ⟨hi, hn⟩
 · go_wp2
   go_ret
   exact ⟨ret_bool hn.symm, Hb2.out⟩
 · have d0 : decide (0 ≤ i) = true := decide_eq_true hi
   go_wp2
   go_ret
   exact ⟨ret_bool hn.symm, Hb2.out⟩
end Go.Proofs.YtjgnnobccecpeaaGreatDoor
