/- The walks of Put: the rows of a table, written one by one. -/
import Derived.Test.YtonipllegfgdiaaDoorWJob
import Derived.Test.YtonipllegfgdiaaDoorStAt
import Derived.Test.YtonipllegfgdiaaDoorGone
namespace Go.Proofs.YtonipllegfgdiaaDoor
open Go.RowKit
theorem WrOk.keep {w w' : World} {base g : Nat} {l : List UInt8} (h : WrOk w base g l) (hk : WKeep base g w w') : Below base w w' := hk.below h.at_.1 h.size
def putL {α : Type} (enc : α → List UInt8) (xs : List α) : List UInt8 := numL xs.length ++ xs.flatMap enc
theorem flat_len {α : Type} {enc : α → List UInt8} (h : ∀ x, (enc x).length ≤ 85) : ∀ xs : List α, (xs.flatMap enc).length ≤ 85 * xs.length
  | [] => by simp
  | x :: xs => by
    have := flat_len h xs
    have := h x
    rw [List.flatMap_cons, List.length_append, List.length_cons]; omega
theorem flat_step {α : Type} (enc : α → List UInt8) {xs : List α} {k : Nat} {x : α} (h : xs[k]? = some x) : (xs.take (k + 1)).flatMap enc = (xs.take k).flatMap enc ++ enc x := by
  rw [List.take_add_one, h]; simp
/-- The rows so far are written. -/
def PutRows {α : Type} (enc : α → List UInt8) (xs : List α) (n : Nat) (base g : Nat) (l : List UInt8) (w : World) (i : Value) (wr : World) : Prop :=
  ∃ k : Nat, k ≤ n ∧ i = .int .i64 k ∧ WrOk wr base g (l ++ numL n ++ (xs.take k).flatMap enc) ∧ WKeep base g w wr
theorem StringW.of {s : ByteArray} (h : s.size ≤ 9223372036854775807) : s.size ≤ 9223372036854775807 := h
set_option maxRecDepth 100000 in
set_option maxHeartbeats 2000000 in
theorem cl_job (base g p : Nat) (l : List UInt8) (x : JobD) (w : World) (hx : JobW x) (h : WrOk w base g l) (hl : l.length ≤ 90000000) (hp : Blk w p 98 #[.pointer (some ⟨g, 0, none⟩)]) :
    Calls Tryd.prog 69 #[.agg (jobV x).toArray, .pointer (some ⟨p, 0, none⟩)] w (WOPost base g (l ++ jobL x 3) w) := by
  have Hx := Lib.hid hx
  obtain ⟨name, prio, need, tries, tag⟩ := x
  generalize hK : l ++ jobL _ 3 = K
  have HK := Lib.hid hK
  unfold jobV
  have H0 := Lib.hid (WGo.start h 74 #[.string name, .int .i64 prio, .int .i64 need, .int .i64 tries, .string tag] (by decide))
  have y0 : w.cell? ⟨p, 0, none⟩ = some (.pointer (some ⟨g, 0, none⟩)) := hp.cell 0
  have hpl := hp.lt
  clear h hx hp hK
  go_enter Tryd.func69, Tryd.ntmps69
  go_wp2_with fail
  refine Calls.mono (wjob_any base g _ ⟨name, prio, need, tries, tag⟩ 3 _ Hx.out H0.out.ok (by have := H0.out.len; omega)) ?_
  rintro e w1 ⟨rfl, ok1, k1⟩
  rw [HK.out] at ok1
  have hkk := H0.out.keep.trans k1
  go_wp2
  go_end0
  exact ⟨rfl, ok1, hkk⟩
set_option maxRecDepth 100000 in
set_option maxHeartbeats 2000000 in
theorem cl_node (base g p : Nat) (l : List UInt8) (x : NodeD) (w : World) (hx : NodeW x) (h : WrOk w base g l) (hl : l.length ≤ 90000000) (hp : Blk w p 98 #[.pointer (some ⟨g, 0, none⟩)]) :
    Calls Tryd.prog 72 #[.agg (nodeV x).toArray, .pointer (some ⟨p, 0, none⟩)] w (WOPost base g (l ++ nodeL x 3) w) := by
  have Hx := Lib.hid hx
  obtain ⟨name, room, zone⟩ := x
  generalize hK : l ++ nodeL _ 3 = K
  have HK := Lib.hid hK
  unfold nodeV
  have H0 := Lib.hid (WGo.start h 60 #[.string name, .int .i64 room, .string zone] (by decide))
  have y0 : w.cell? ⟨p, 0, none⟩ = some (.pointer (some ⟨g, 0, none⟩)) := hp.cell 0
  have hpl := hp.lt
  clear h hx hp hK
  go_enter Tryd.func72, Tryd.ntmps72
  go_wp2_with fail
  refine Calls.mono (wnode_any base g _ ⟨name, room, zone⟩ 3 _ Hx.out H0.out.ok (by have := H0.out.len; omega)) ?_
  rintro e w1 ⟨rfl, ok1, k1⟩
  rw [HK.out] at ok1
  have hkk := H0.out.keep.trans k1
  go_wp2
  go_end0
  exact ⟨rfl, ok1, hkk⟩
set_option maxRecDepth 100000 in
set_option maxHeartbeats 2000000 in
theorem put_job (base g p : Nat) (l : List UInt8) (xs : List JobD) (A : Option Addr) (n c : Nat) (w : World) (hx : SlAt w base 5 A n (rowsV jobV xs)) (hl : xs.length = n) (hn : n ≤ 1000000) (hw : ∀ x ∈ xs, JobW x) (h : WrOk w base g l) (hll : l.length ≤ 1000000) (hp : Blk w p 98 #[.pointer (some ⟨g, 0, none⟩)]) (hpg : p ≠ g) :
    Calls Tryd.prog 68 #[.pointer (some ⟨g, 0, none⟩), .slice A n c, .func (.func 69) #[] #[.pointer (some ⟨p, 0, none⟩)]] w (WOPost base g (l ++ putL (fun x => jobL x 3) xs) w) := by
  have hflen : ∀ k, ((xs.take k).flatMap (fun x => jobL x 3)).length ≤ 85 * n := fun k => by
    have h1 := flat_len (enc := fun x => jobL x 3) (fun x => jobL_len _ 3) (xs.take k)
    have h2 : (xs.take k).length ≤ n := by rw [List.length_take]; omega
    omega
  have hnl := numL_len n
  have Hlen := Lib.hid (show ∀ k, (l ++ numL n ++ (xs.take k).flatMap (fun x => jobL x 3)).length ≤ 90000000 from fun k => by have := hflen k; simp only [List.length_append]; omega)
  have Hfin := Lib.hid (show l ++ putL (fun x => jobL x 3) xs = l ++ numL n ++ (xs.take n).flatMap (fun x => jobL x 3) from by unfold putL; rw [← hl, List.take_length, List.append_assoc])
  have HN := Lib.hid (wnumO base g l (n : Int) w (by omega) h (by omega))
  have Hw := Lib.hid hw
  have Hl := Lib.hid hl
  have Hx := Lib.hid hx
  have Ho := Lib.hid h
  have Hp := Lib.hid hp
  clear hw hl hx h hflen hnl hp
  go_enter Tryd.func68, Tryd.ntmps68
  go_wp2_with fail
  refine Calls.mono HN.out ?_
  rintro e w0 ⟨rfl, ok0, k0⟩
  rw [show ((n : Int)).toNat = n from by omega] at ok0
  have Ok0 := Lib.hid ok0
  have K0 := Lib.hid k0
  clear ok0 k0
  go_wp2
  go_loopw [7, 14] (fun _ i wr => PutRows (fun x => jobL x 3) xs n base g l w i wr) (fun _ i _ => n - (intOf i).toNat)
  case atStart => exact ⟨0, Nat.zero_le _, rfl, by simpa using Ok0.out, K0.out⟩
  case round =>
    obtain ⟨k, hk, rfl, hok, hkp⟩ := hrel
    have Hok := Lib.hid hok
    have Hkp := Lib.hid hkp
    have hsz := hok.size
    have hB := Ho.out.keep hkp
    clear hok hkp
    by_cases hlt : k < n
    · obtain ⟨x, hf⟩ : ∃ x, xs[k]? = some x := ⟨_, List.getElem?_eq_getElem (by rw [Hl.out]; exact hlt)⟩
      obtain ⟨b, off, rfl, hbB, hc⟩ := (Hx.out.below hB).rec_ jobV_len Hl.out hf
      have hso := Lib.hid (Hw.out x (List.mem_of_getElem? hf))
      have Hst := Lib.hid (flat_step (fun x => jobL x 3) hf)
      obtain ⟨X, hX⟩ : ∃ X, X = x := ⟨_, rfl⟩
      have HX := Lib.hid hX
      obtain ⟨name, prio, need, tries, tag⟩ := x
      have c0 : wr.cell? ⟨b, off + k * 5, none⟩ = some (.string name) := hc 0 _ rfl
      have c1 : wr.cell? ⟨b, off + k * 5 + 1, none⟩ = some (.int .i64 prio) := hc 1 _ rfl
      have c2 : wr.cell? ⟨b, off + k * 5 + 2, none⟩ = some (.int .i64 need) := hc 2 _ rfl
      have c3 : wr.cell? ⟨b, off + k * 5 + 3, none⟩ = some (.int .i64 tries) := hc 3 _ rfl
      have c4 : wr.cell? ⟨b, off + k * 5 + 4, none⟩ = some (.string tag) := hc 4 _ rfl
      clear hc hf hX hB
      have hlb : b < wr.heap.size := by omega
      have hba : Below wr.heap.size wr (wr.alloc (.cells #[.string name, .int .i64 prio, .int .i64 need, .int .i64 tries, .string tag] 74)) := (Below.refl _ _).alloc (Nat.le_refl _) _
      have Hba := Lib.hid hba
      have Ha := Lib.hid (Hok.out.below hba)
      have Hkl := Lib.hid (Hlen.out k)
      have Hpa := Lib.hid ((Hkp.out.blk Hp.out (by decide) (by intro e; subst e; exact hpg rfl)).alloc (.cells #[.string name, .int .i64 prio, .int .i64 need, .int .i64 tries, .string tag] 74))
      clear hba
      go_wp2_with fail
      refine Calls.mono (cl_job base g p _ ⟨name, prio, need, tries, tag⟩ _ hso.out Ha.out Hkl.out Hpa.out) ?_
      rintro e w1 ⟨rfl, ok1, k1⟩
      have Hk1 := Lib.hid (Hkp.out.trans ((WKeep.of_below Hba.out).trans k1))
      have Ok1 := Lib.hid (show WrOk w1 base g (l ++ numL n ++ (xs.take (k + 1)).flatMap (fun x => jobL x 3)) from by rw [Hst.out, ← List.append_assoc]; exact ok1)
      clear ok1 k1
      go_wp2
      go_roundw
      case rel => exact ⟨k + 1, by omega, by go_num, Ok1.out, Hk1.out⟩
      case measure => simp [intOf]; omega
    · obtain rfl : k = n := by omega
      go_wp2
      go_end0
      exact ⟨rfl, by rw [Hfin.out]; exact Hok.out, Hkp.out⟩
set_option maxRecDepth 100000 in
set_option maxHeartbeats 2000000 in
theorem put_node (base g p : Nat) (l : List UInt8) (xs : List NodeD) (A : Option Addr) (n c : Nat) (w : World) (hx : SlAt w base 3 A n (rowsV nodeV xs)) (hl : xs.length = n) (hn : n ≤ 1000000) (hw : ∀ x ∈ xs, NodeW x) (h : WrOk w base g l) (hll : l.length ≤ 1000000) (hp : Blk w p 98 #[.pointer (some ⟨g, 0, none⟩)]) (hpg : p ≠ g) :
    Calls Tryd.prog 71 #[.pointer (some ⟨g, 0, none⟩), .slice A n c, .func (.func 72) #[] #[.pointer (some ⟨p, 0, none⟩)]] w (WOPost base g (l ++ putL (fun x => nodeL x 3) xs) w) := by
  have hflen : ∀ k, ((xs.take k).flatMap (fun x => nodeL x 3)).length ≤ 85 * n := fun k => by
    have h1 := flat_len (enc := fun x => nodeL x 3) (fun x => nodeL_len _ 3) (xs.take k)
    have h2 : (xs.take k).length ≤ n := by rw [List.length_take]; omega
    omega
  have hnl := numL_len n
  have Hlen := Lib.hid (show ∀ k, (l ++ numL n ++ (xs.take k).flatMap (fun x => nodeL x 3)).length ≤ 90000000 from fun k => by have := hflen k; simp only [List.length_append]; omega)
  have Hfin := Lib.hid (show l ++ putL (fun x => nodeL x 3) xs = l ++ numL n ++ (xs.take n).flatMap (fun x => nodeL x 3) from by unfold putL; rw [← hl, List.take_length, List.append_assoc])
  have HN := Lib.hid (wnumO base g l (n : Int) w (by omega) h (by omega))
  have Hw := Lib.hid hw
  have Hl := Lib.hid hl
  have Hx := Lib.hid hx
  have Ho := Lib.hid h
  have Hp := Lib.hid hp
  clear hw hl hx h hflen hnl hp
  go_enter Tryd.func71, Tryd.ntmps71
  go_wp2_with fail
  refine Calls.mono HN.out ?_
  rintro e w0 ⟨rfl, ok0, k0⟩
  rw [show ((n : Int)).toNat = n from by omega] at ok0
  have Ok0 := Lib.hid ok0
  have K0 := Lib.hid k0
  clear ok0 k0
  go_wp2
  go_loopw [7, 14] (fun _ i wr => PutRows (fun x => nodeL x 3) xs n base g l w i wr) (fun _ i _ => n - (intOf i).toNat)
  case atStart => exact ⟨0, Nat.zero_le _, rfl, by simpa using Ok0.out, K0.out⟩
  case round =>
    obtain ⟨k, hk, rfl, hok, hkp⟩ := hrel
    have Hok := Lib.hid hok
    have Hkp := Lib.hid hkp
    have hsz := hok.size
    have hB := Ho.out.keep hkp
    clear hok hkp
    by_cases hlt : k < n
    · obtain ⟨x, hf⟩ : ∃ x, xs[k]? = some x := ⟨_, List.getElem?_eq_getElem (by rw [Hl.out]; exact hlt)⟩
      obtain ⟨b, off, rfl, hbB, hc⟩ := (Hx.out.below hB).rec_ nodeV_len Hl.out hf
      have hso := Lib.hid (Hw.out x (List.mem_of_getElem? hf))
      have Hst := Lib.hid (flat_step (fun x => nodeL x 3) hf)
      obtain ⟨X, hX⟩ : ∃ X, X = x := ⟨_, rfl⟩
      have HX := Lib.hid hX
      obtain ⟨name, room, zone⟩ := x
      have c0 : wr.cell? ⟨b, off + k * 3, none⟩ = some (.string name) := hc 0 _ rfl
      have c1 : wr.cell? ⟨b, off + k * 3 + 1, none⟩ = some (.int .i64 room) := hc 1 _ rfl
      have c2 : wr.cell? ⟨b, off + k * 3 + 2, none⟩ = some (.string zone) := hc 2 _ rfl
      clear hc hf hX hB
      have hlb : b < wr.heap.size := by omega
      have hba : Below wr.heap.size wr (wr.alloc (.cells #[.string name, .int .i64 room, .string zone] 60)) := (Below.refl _ _).alloc (Nat.le_refl _) _
      have Hba := Lib.hid hba
      have Ha := Lib.hid (Hok.out.below hba)
      have Hkl := Lib.hid (Hlen.out k)
      have Hpa := Lib.hid ((Hkp.out.blk Hp.out (by decide) (by intro e; subst e; exact hpg rfl)).alloc (.cells #[.string name, .int .i64 room, .string zone] 60))
      clear hba
      go_wp2_with fail
      refine Calls.mono (cl_node base g p _ ⟨name, room, zone⟩ _ hso.out Ha.out Hkl.out Hpa.out) ?_
      rintro e w1 ⟨rfl, ok1, k1⟩
      have Hk1 := Lib.hid (Hkp.out.trans ((WKeep.of_below Hba.out).trans k1))
      have Ok1 := Lib.hid (show WrOk w1 base g (l ++ numL n ++ (xs.take (k + 1)).flatMap (fun x => nodeL x 3)) from by rw [Hst.out, ← List.append_assoc]; exact ok1)
      clear ok1 k1
      go_wp2
      go_roundw
      case rel => exact ⟨k + 1, by omega, by go_num, Ok1.out, Hk1.out⟩
      case measure => simp [intOf]; omega
    · obtain rfl : k = n := by omega
      go_wp2
      go_end0
      exact ⟨rfl, by rw [Hfin.out]; exact Hok.out, Hkp.out⟩
set_option maxRecDepth 100000 in
set_option maxHeartbeats 2000000 in
theorem put_lease (base g p : Nat) (l : List UInt8) (xs : List LeaseD) (A : Option Addr) (n c : Nat) (w : World) (hx : SlAt w base 3 A n (rowsV leaseV xs)) (hl : xs.length = n) (hn : n ≤ 1000000) (hw : ∀ x ∈ xs, LeaseW x) (h : WrOk w base g l) (hll : l.length ≤ 1000000) :
    Calls Tryd.prog 74 #[.pointer (some ⟨g, 0, none⟩), .slice A n c, .func (.func 75) #[.pointer (some ⟨g, 0, none⟩)] #[]] w (WOPost base g (l ++ putL leaseL xs) w) := by
  have hflen : ∀ k, ((xs.take k).flatMap leaseL).length ≤ 85 * n := fun k => by
    have h1 := flat_len (enc := leaseL) (fun x => leaseL_len _) (xs.take k)
    have h2 : (xs.take k).length ≤ n := by rw [List.length_take]; omega
    omega
  have hnl := numL_len n
  have Hlen := Lib.hid (show ∀ k, (l ++ numL n ++ (xs.take k).flatMap leaseL).length ≤ 90000000 from fun k => by have := hflen k; simp only [List.length_append]; omega)
  have Hfin := Lib.hid (show l ++ putL leaseL xs = l ++ numL n ++ (xs.take n).flatMap leaseL from by unfold putL; rw [← hl, List.take_length, List.append_assoc])
  have HN := Lib.hid (wnumO base g l (n : Int) w (by omega) h (by omega))
  have Hw := Lib.hid hw
  have Hl := Lib.hid hl
  have Hx := Lib.hid hx
  have Ho := Lib.hid h
  clear hw hl hx h hflen hnl
  go_enter Tryd.func74, Tryd.ntmps74
  go_wp2_with fail
  refine Calls.mono HN.out ?_
  rintro e w0 ⟨rfl, ok0, k0⟩
  rw [show ((n : Int)).toNat = n from by omega] at ok0
  have Ok0 := Lib.hid ok0
  have K0 := Lib.hid k0
  clear ok0 k0
  go_wp2
  go_loopw [7, 14] (fun _ i wr => PutRows leaseL xs n base g l w i wr) (fun _ i _ => n - (intOf i).toNat)
  case atStart => exact ⟨0, Nat.zero_le _, rfl, by simpa using Ok0.out, K0.out⟩
  case round =>
    obtain ⟨k, hk, rfl, hok, hkp⟩ := hrel
    have Hok := Lib.hid hok
    have Hkp := Lib.hid hkp
    have hsz := hok.size
    have hB := Ho.out.keep hkp
    clear hok hkp
    by_cases hlt : k < n
    · obtain ⟨x, hf⟩ : ∃ x, xs[k]? = some x := ⟨_, List.getElem?_eq_getElem (by rw [Hl.out]; exact hlt)⟩
      obtain ⟨b, off, rfl, hbB, hc⟩ := (Hx.out.below hB).rec_ leaseV_len Hl.out hf
      have hso := Lib.hid (Hw.out x (List.mem_of_getElem? hf))
      have Hst := Lib.hid (flat_step leaseL hf)
      obtain ⟨X, hX⟩ : ∃ X, X = x := ⟨_, rfl⟩
      have HX := Lib.hid hX
      obtain ⟨job, node, till⟩ := x
      have c0 : wr.cell? ⟨b, off + k * 3, none⟩ = some (.string job) := hc 0 _ rfl
      have c1 : wr.cell? ⟨b, off + k * 3 + 1, none⟩ = some (.string node) := hc 1 _ rfl
      have c2 : wr.cell? ⟨b, off + k * 3 + 2, none⟩ = some (.int .i64 till) := hc 2 _ rfl
      clear hc hf hX hB
      have hlb : b < wr.heap.size := by omega
      have hba : Below wr.heap.size wr (wr.alloc (.cells #[.string job, .string node, .int .i64 till] 71)) := (Below.refl _ _).alloc (Nat.le_refl _) _
      have Hba := Lib.hid hba
      have Ha := Lib.hid (Hok.out.below hba)
      have Hkl := Lib.hid (Hlen.out k)
      clear hba
      go_wp2_with fail
      refine Calls.mono (wlease_any base g _ ⟨job, node, till⟩ _ hso.out Ha.out Hkl.out) ?_
      rintro e w1 ⟨rfl, ok1, k1⟩
      have Hk1 := Lib.hid (Hkp.out.trans ((WKeep.of_below Hba.out).trans k1))
      have Ok1 := Lib.hid (show WrOk w1 base g (l ++ numL n ++ (xs.take (k + 1)).flatMap leaseL) from by rw [Hst.out, ← List.append_assoc]; exact ok1)
      clear ok1 k1
      go_wp2
      go_roundw
      case rel => exact ⟨k + 1, by omega, by go_num, Ok1.out, Hk1.out⟩
      case measure => simp [intOf]; omega
    · obtain rfl : k = n := by omega
      go_wp2
      go_end0
      exact ⟨rfl, by rw [Hfin.out]; exact Hok.out, Hkp.out⟩
set_option maxRecDepth 100000 in
set_option maxHeartbeats 2000000 in
theorem put_string (base g p : Nat) (l : List UInt8) (xs : List ByteArray) (A : Option Addr) (n c : Nat) (w : World) (hx : SlAt w base 1 A n (rowsV strV xs)) (hl : xs.length = n) (hn : n ≤ 1000000) (hw : ∀ x ∈ xs, x.size ≤ 9223372036854775807) (h : WrOk w base g l) (hll : l.length ≤ 1000000) :
    Calls Tryd.prog 76 #[.pointer (some ⟨g, 0, none⟩), .slice A n c, .func (.func 77) #[.pointer (some ⟨g, 0, none⟩)] #[]] w (WOPost base g (l ++ putL txtL xs) w) := by
  have hflen : ∀ k, ((xs.take k).flatMap txtL).length ≤ 85 * n := fun k => by
    have h1 := flat_len (enc := txtL) (by have := txtL_len; intro x; have := this x; omega) (xs.take k)
    have h2 : (xs.take k).length ≤ n := by rw [List.length_take]; omega
    omega
  have hnl := numL_len n
  have Hlen := Lib.hid (show ∀ k, (l ++ numL n ++ (xs.take k).flatMap txtL).length ≤ 90000000 from fun k => by have := hflen k; simp only [List.length_append]; omega)
  have Hfin := Lib.hid (show l ++ putL txtL xs = l ++ numL n ++ (xs.take n).flatMap txtL from by unfold putL; rw [← hl, List.take_length, List.append_assoc])
  have HN := Lib.hid (wnumO base g l (n : Int) w (by omega) h (by omega))
  have Hw := Lib.hid hw
  have Hl := Lib.hid hl
  have Hx := Lib.hid hx
  have Ho := Lib.hid h
  clear hw hl hx h hflen hnl
  go_enter Tryd.func76, Tryd.ntmps76
  go_wp2_with fail
  refine Calls.mono HN.out ?_
  rintro e w0 ⟨rfl, ok0, k0⟩
  rw [show ((n : Int)).toNat = n from by omega] at ok0
  have Ok0 := Lib.hid ok0
  have K0 := Lib.hid k0
  clear ok0 k0
  go_wp2
  go_loopw [7, 14] (fun _ i wr => PutRows txtL xs n base g l w i wr) (fun _ i _ => n - (intOf i).toNat)
  case atStart => exact ⟨0, Nat.zero_le _, rfl, by simpa using Ok0.out, K0.out⟩
  case round =>
    obtain ⟨k, hk, rfl, hok, hkp⟩ := hrel
    have Hok := Lib.hid hok
    have Hkp := Lib.hid hkp
    have hsz := hok.size
    have hB := Ho.out.keep hkp
    clear hok hkp
    by_cases hlt : k < n
    · obtain ⟨x, hf⟩ : ∃ x, xs[k]? = some x := ⟨_, List.getElem?_eq_getElem (by rw [Hl.out]; exact hlt)⟩
      obtain ⟨b, off, rfl, hbB, hc⟩ := (Hx.out.below hB).rec_ strV_len Hl.out hf
      have hso := Lib.hid (Hw.out x (List.mem_of_getElem? hf))
      have Hst := Lib.hid (flat_step txtL hf)
      have c0 : wr.cell? ⟨b, off + k * 1, none⟩ = some (.string x) := hc 0 _ rfl
      rw [Nat.mul_one] at c0
      clear hc hf hB
      have hlb : b < wr.heap.size := by omega
      have Ha := Lib.hid Hok.out
      have Hkl := Lib.hid (Hlen.out k)
      go_wp2_with fail
      refine Calls.mono (wtextO base g _ x _ hso.out Ha.out (by have := Hkl.out; omega)) ?_
      rintro e w1 ⟨rfl, ok1, k1⟩
      have Hk1 := Lib.hid (Hkp.out.trans k1)
      have Ok1 := Lib.hid (show WrOk w1 base g (l ++ numL n ++ (xs.take (k + 1)).flatMap txtL) from by rw [Hst.out, ← List.append_assoc]; exact ok1)
      clear ok1 k1
      go_wp2
      go_roundw
      case rel => exact ⟨k + 1, by omega, by go_num, Ok1.out, Hk1.out⟩
      case measure => simp [intOf]; omega
    · obtain rfl : k = n := by omega
      go_wp2
      go_end0
      exact ⟨rfl, by rw [Hfin.out]; exact Hok.out, Hkp.out⟩
end Go.Proofs.YtonipllegfgdiaaDoor
