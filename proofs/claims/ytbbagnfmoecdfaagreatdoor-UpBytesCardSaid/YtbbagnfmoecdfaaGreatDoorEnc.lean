/- What Encode of a state says: plain. The walks of Put with the closures of wire.Encode: at any version. Words for Encode: a writer just made; how long what is written is. The walk of wire.Encode. -/
import Derived.Test.YtbbagnfmoecdfaaGreatDoorPlEncS
import Derived.Test.YtbbagnfmoecdfaaGreatDoorRRows
import Derived.Test.YtbbagnfmoecdfaaGreatDoorUp
import Derived.Test.YtbbagnfmoecdfaaGreatDoorWPut
import Derived.Test.YtbbagnfmoecdfaaGreatDoorFits
import Derived.Test.YtbbagnfmoecdfaaGreatDoorSameR
set_option linter.unusedVariables false
set_option linter.unusedSimpArgs false
namespace Go.Proofs.YtbbagnfmoecdfaaGreatDoor
open Go.RowKit
def wencL (st : StateD) (v : Int) : List UInt8 := (if 2 < v then numL st.rev.toNat else []) ++ rowsL st.jobs st.nodes st.leases v
def wencF (st : StateD) (v : Int) : ByteArray × Int := if checkE st ≠ 0 then (⟨#[]⟩, checkE st) else if ranged v 1 3 = false then (⟨#[]⟩, 1) else if fitsE st v = false then (⟨#[]⟩, 4) else (⟨(wencL st v).toArray⟩, 0)
theorem wencF_check {st : StateD} {v : Int} (h : checkE st ≠ 0) : wencF st v = (⟨#[]⟩, checkE st) := by unfold wencF; rw [if_pos h]
theorem wencF_arg {st : StateD} {v : Int} (h : checkE st = 0) (h2 : ranged v 1 3 = false) : wencF st v = (⟨#[]⟩, 1) := by unfold wencF; rw [if_neg (by simp [h]), if_pos h2]
theorem wencF_form {st : StateD} {v : Int} (h : checkE st = 0) (h2 : ranged v 1 3 = true) (h3 : fitsE st v = false) : wencF st v = (⟨#[]⟩, 4) := by unfold wencF; rw [if_neg (by simp [h]), if_neg (by simp [h2]), if_pos h3]
theorem wencF_ok {st : StateD} {v : Int} (h : checkE st = 0) (h2 : ranged v 1 3 = true) (h3 : fitsE st v = true) : wencF st v = (⟨(wencL st v).toArray⟩, 0) := by unfold wencF; rw [if_neg (by simp [h]), if_neg (by simp [h2]), if_neg (by simp [h3])]
/-- What a state that may be is. -/
structure SGood (st : StateD) : Prop where
  r0 : 0 ≤ st.rev
  r1 : st.rev ≤ 1099511627776
  nj : st.jobs.length ≤ 40
  nn : st.nodes.length ≤ 20
  nl : st.leases.length ≤ 40
  ej : rowsE jobE JobD.name st.jobs = 0
  en : rowsE nodeE NodeD.name st.nodes = 0
  el : rowsE (leaseE st) LeaseD.job st.leases = 0
theorem sgood {st : StateD} (h : checkE st = 0) : SGood st := by
  have hz := ck_sizes h
  have hr : ranged st.rev 0 1099511627776 = true := by
    cases hr : ranged st.rev 0 1099511627776 with
    | true => rfl
    | false => rw [ck_rev hr] at h; exact absurd h (by decide)
  have hs : sizesOk st = true := by
    cases hs : sizesOk st with
    | true => rfl
    | false => rw [ck_large hr hs] at h; exact absurd h (by decide)
  have hj : rowsE jobE JobD.name st.jobs = 0 := by
    by_cases hj : rowsE jobE JobD.name st.jobs = 0
    · exact hj
    · rw [ck_jobs hr hs hj] at h; exact absurd h hj
  have hn : rowsE nodeE NodeD.name st.nodes = 0 := by
    by_cases hn : rowsE nodeE NodeD.name st.nodes = 0
    · exact hn
    · rw [ck_nodes hr hs hj hn] at h; exact absurd h hn
  have hl : rowsE (leaseE st) LeaseD.job st.leases = 0 := by
    by_cases hl : rowsE (leaseE st) LeaseD.job st.leases = 0
    · exact hl
    · rw [ck_rest hr hs hj hn, if_pos hl] at h; exact absurd h hl
  have := ranged_iff.1 hr
  exact ⟨this.1, this.2, hz.1, hz.2.1, hz.2.2, hj, hn, hl⟩
theorem SGood.jobs {st : StateD} (h : SGood st) : ∀ x ∈ st.jobs, JobW x := fun _ hx => jobW_of (rows_zero h.ej hx)
theorem SGood.nodes {st : StateD} (h : SGood st) : ∀ x ∈ st.nodes, NodeW x := fun _ hx => nodeW_of (rows_zero h.en hx)
theorem SGood.leases {st : StateD} (h : SGood st) : ∀ x ∈ st.leases, LeaseW x := by
  intro l hl
  have he := rows_zero h.el hl
  unfold leaseE at he
  split at he
  · rename_i h1
    split at he
    · rename_i h2
      have hr := ranged_iff.1 h2
      simp only [Bool.and_eq_true] at h1
      obtain ⟨j, hj⟩ := Option.isSome_iff_exists.1 h1.1
      obtain ⟨n, hn⟩ := Option.isSome_iff_exists.1 h1.2
      have hjm := List.mem_of_find?_eq_some hj
      have hnm := List.mem_of_find?_eq_some hn
      have hje : j.name = l.job := by simpa using List.find?_some hj
      have hne : n.name = l.node := by simpa using List.find?_some hn
      have h3 := nameOk_size (jobE_zero (rows_zero h.ej hjm)).1
      have h4 := nameOk_size (nodeE_zero (rows_zero h.en hnm)).1
      rw [hje] at h3
      rw [hne] at h4
      exact ⟨by omega, by omega, by omega⟩
    · exact absurd he (by decide)
  · exact absurd he (by decide)
def EnPost (st : StateD) (v : Int) (w : World) (e : Ending) (w' : World) : Prop := e = .returned (.tuple #[.string (wencF st v).1, .int .i64 (wencF st v).2]) ∧ Below w.heap.size w w'
theorem EnPost.mk' {st : StateD} {v E : Int} {s : ByteArray} {w w' : World} (h : wencF st v = (s, E)) (hb : Below w.heap.size w w') : EnPost st v w (.returned (.tuple #[.string s, .int .i64 E])) w' := ⟨by rw [h], hb⟩
theorem rowsL_len {st : StateD} (g : SGood st) (v : Int) : (rowsL st.jobs st.nodes st.leases v).length ≤ 12000 := by
  have q1 := flat_len (enc := fun x => jobL x v) (fun x => jobL_len x v) st.jobs
  have q2 := flat_len (enc := fun x => nodeL x v) (fun x => nodeL_len x v) st.nodes
  have q3 := flat_len (enc := leaseL) leaseL_len st.leases
  have p1 := numL_len st.jobs.length
  have p2 := numL_len st.nodes.length
  have p3 := numL_len st.leases.length
  have := g.nj
  have := g.nn
  have := g.nl
  unfold rowsL putL
  simp only [List.length_append]; omega
end Go.Proofs.YtbbagnfmoecdfaaGreatDoor
namespace Go.Proofs.YtbbagnfmoecdfaaGreatDoor
open Go.RowKit
set_option maxRecDepth 100000 in
set_option maxHeartbeats 2000000 in
theorem vcl_job (base g p q : Nat) (v : Int) (l : List UInt8) (x : JobD) (w : World) (hx : JobW x) (h : WrOk w base g l) (hl : l.length ≤ 90000000) (hp : Blk w p 180 #[.pointer (some ⟨g, 0, none⟩)]) (hq : Blk w q 3 #[.int .i64 v]) :
    Calls Tryz.prog 124 #[.agg (jobV x).toArray, .pointer (some ⟨p, 0, none⟩), .pointer (some ⟨q, 0, none⟩)] w (WOPost base g (l ++ jobL x v) w) := by
  have Hx := Lib.hid hx
  obtain ⟨name, prio, need, tries, tag⟩ := x
  generalize hK : l ++ jobL _ v = K
  have HK := Lib.hid hK
  unfold jobV
  have H0 := Lib.hid (WGo.start h 41 #[.string name, .int .i64 prio, .int .i64 need, .int .i64 tries, .string tag] (by decide))
  have y0 : w.cell? ⟨p, 0, none⟩ = some (.pointer (some ⟨g, 0, none⟩)) := hp.cell 0
  have hpl := hp.lt
  have y1 : w.cell? ⟨q, 0, none⟩ = some (.int .i64 v) := hq.cell 0
  have hql := hq.lt
  clear h hx hp hq hK
  go_enter Tryz.func124, Tryz.ntmps124
  go_wp2_with fail
  refine Calls.mono (wjob_any base g _ ⟨name, prio, need, tries, tag⟩ v _ Hx.out H0.out.ok (by have := H0.out.len; omega)) ?_
  rintro e w1 ⟨rfl, ok1, k1⟩
  rw [HK.out] at ok1
  have hkk := H0.out.keep.trans k1
  go_wp2
  go_end0
  exact ⟨rfl, ok1, hkk⟩
set_option maxRecDepth 100000 in
set_option maxHeartbeats 2000000 in
theorem vcl_node (base g p q : Nat) (v : Int) (l : List UInt8) (x : NodeD) (w : World) (hx : NodeW x) (h : WrOk w base g l) (hl : l.length ≤ 90000000) (hp : Blk w p 180 #[.pointer (some ⟨g, 0, none⟩)]) (hq : Blk w q 3 #[.int .i64 v]) :
    Calls Tryz.prog 127 #[.agg (nodeV x).toArray, .pointer (some ⟨p, 0, none⟩), .pointer (some ⟨q, 0, none⟩)] w (WOPost base g (l ++ nodeL x v) w) := by
  have Hx := Lib.hid hx
  obtain ⟨name, room, zone⟩ := x
  generalize hK : l ++ nodeL _ v = K
  have HK := Lib.hid hK
  unfold nodeV
  have H0 := Lib.hid (WGo.start h 43 #[.string name, .int .i64 room, .string zone] (by decide))
  have y0 : w.cell? ⟨p, 0, none⟩ = some (.pointer (some ⟨g, 0, none⟩)) := hp.cell 0
  have hpl := hp.lt
  have y1 : w.cell? ⟨q, 0, none⟩ = some (.int .i64 v) := hq.cell 0
  have hql := hq.lt
  clear h hx hp hq hK
  go_enter Tryz.func127, Tryz.ntmps127
  go_wp2_with fail
  refine Calls.mono (wnode_any base g _ ⟨name, room, zone⟩ v _ Hx.out H0.out.ok (by have := H0.out.len; omega)) ?_
  rintro e w1 ⟨rfl, ok1, k1⟩
  rw [HK.out] at ok1
  have hkk := H0.out.keep.trans k1
  go_wp2
  go_end0
  exact ⟨rfl, ok1, hkk⟩
set_option maxRecDepth 100000 in
set_option maxHeartbeats 2000000 in
theorem vput_job (base g p q : Nat) (v : Int) (l : List UInt8) (xs : List JobD) (A : Option Addr) (n c : Nat) (w : World) (hx : SlAt w base 5 A n (rowsV jobV xs)) (hl : xs.length = n) (hn : n ≤ 1000000) (hw : ∀ x ∈ xs, JobW x) (h : WrOk w base g l) (hll : l.length ≤ 1000000) (hp : Blk w p 180 #[.pointer (some ⟨g, 0, none⟩)]) (hpg : p ≠ g) (hq : Blk w q 3 #[.int .i64 v]) (hqg : q ≠ g) :
    Calls Tryz.prog 123 #[.pointer (some ⟨g, 0, none⟩), .slice A n c, .func (.func 124) #[] #[.pointer (some ⟨p, 0, none⟩), .pointer (some ⟨q, 0, none⟩)]] w (WOPost base g (l ++ putL (fun x => jobL x v) xs) w) := by
  have hflen : ∀ k, ((xs.take k).flatMap (fun x => jobL x v)).length ≤ 85 * n := fun k => by
    have h1 := flat_len (enc := fun x => jobL x v) (fun x => jobL_len _ v) (xs.take k)
    have h2 : (xs.take k).length ≤ n := by rw [List.length_take]; omega
    omega
  have hnl := numL_len n
  have Hlen := Lib.hid (show ∀ k, (l ++ numL n ++ (xs.take k).flatMap (fun x => jobL x v)).length ≤ 90000000 from fun k => by have := hflen k; simp only [List.length_append]; omega)
  have Hfin := Lib.hid (show l ++ putL (fun x => jobL x v) xs = l ++ numL n ++ (xs.take n).flatMap (fun x => jobL x v) from by unfold putL; rw [← hl, List.take_length, List.append_assoc])
  have HN := Lib.hid (wnumO base g l (n : Int) w (by omega) h (by omega))
  have Hw := Lib.hid hw
  have Hl := Lib.hid hl
  have Hx := Lib.hid hx
  have Ho := Lib.hid h
  have Hp := Lib.hid hp
  have Hq := Lib.hid hq
  clear hw hl hx h hflen hnl hp hq
  go_enter Tryz.func123, Tryz.ntmps123
  go_wp2_with fail
  refine Calls.mono HN.out ?_
  rintro e w0 ⟨rfl, ok0, k0⟩
  rw [show ((n : Int)).toNat = n from by omega] at ok0
  have Ok0 := Lib.hid ok0
  have K0 := Lib.hid k0
  clear ok0 k0
  go_wp2
  go_loopw [7, 14] (fun _ i wr => PutRows (fun x => jobL x v) xs n base g l w i wr) (fun _ i _ => n - (intOf i).toNat)
  case atStart => exact ⟨0, Nat.zero_le _, rfl, by simpa using Ok0.out, K0.out⟩
  case round =>
    obtain ⟨k, hk, rfl, hok, hkp⟩ := hrel
    have Hok := Lib.hid hok
    have Hkp := Lib.hid hkp
    have hsz := hok.size
    have hB := Ho.out.keep hkp
    clear hok hkp
    by_cases hlt : k < n
    · obtain ⟨x, hf⟩ : ∃ x, xs[k]? = some x := ⟨_, List.getElem?_eq_getElem (by rw [Hl.out]; exact hlt)⟩
      obtain ⟨b, off, rfl, hbB, hc⟩ := (Hx.out.below hB).rec_ jobV_len Hl.out hf
      have hso := Lib.hid (Hw.out x (List.mem_of_getElem? hf))
      have Hst := Lib.hid (flat_step (fun x => jobL x v) hf)
      obtain ⟨X, hX⟩ : ∃ X, X = x := ⟨_, rfl⟩
      have HX := Lib.hid hX
      obtain ⟨name, prio, need, tries, tag⟩ := x
      have c0 : wr.cell? ⟨b, off + k * 5, none⟩ = some (.string name) := hc 0 _ rfl
      have c1 : wr.cell? ⟨b, off + k * 5 + 1, none⟩ = some (.int .i64 prio) := hc 1 _ rfl
      have c2 : wr.cell? ⟨b, off + k * 5 + 2, none⟩ = some (.int .i64 need) := hc 2 _ rfl
      have c3 : wr.cell? ⟨b, off + k * 5 + 3, none⟩ = some (.int .i64 tries) := hc 3 _ rfl
      have c4 : wr.cell? ⟨b, off + k * 5 + 4, none⟩ = some (.string tag) := hc 4 _ rfl
      clear hc hf hX hB
      have hlb : b < wr.heap.size := by omega
      have hba : Below wr.heap.size wr (wr.alloc (.cells #[.string name, .int .i64 prio, .int .i64 need, .int .i64 tries, .string tag] 41)) := (Below.refl _ _).alloc (Nat.le_refl _) _
      have Hba := Lib.hid hba
      have Ha := Lib.hid (Hok.out.below hba)
      have Hkl := Lib.hid (Hlen.out k)
      have Hpa := Lib.hid ((Hkp.out.blk Hp.out (by decide) (by intro e; subst e; exact hpg rfl)).alloc (.cells #[.string name, .int .i64 prio, .int .i64 need, .int .i64 tries, .string tag] 41))
      have Hqa := Lib.hid ((Hkp.out.blk Hq.out (by decide) (by intro e; subst e; exact hqg rfl)).alloc (.cells #[.string name, .int .i64 prio, .int .i64 need, .int .i64 tries, .string tag] 41))
      clear hba
      go_wp2_with fail
      refine Calls.mono (vcl_job base g p q v _ ⟨name, prio, need, tries, tag⟩ _ hso.out Ha.out Hkl.out Hpa.out Hqa.out) ?_
      rintro e w1 ⟨rfl, ok1, k1⟩
      have Hk1 := Lib.hid (Hkp.out.trans ((WKeep.of_below Hba.out).trans k1))
      have Ok1 := Lib.hid (show WrOk w1 base g (l ++ numL n ++ (xs.take (k + 1)).flatMap (fun x => jobL x v)) from by rw [Hst.out, ← List.append_assoc]; exact ok1)
      clear ok1 k1
      go_wp2
      go_roundw
      case rel => exact ⟨k + 1, by omega, by go_num, Ok1.out, Hk1.out⟩
      case measure => simp [intOf]; omega
    · obtain rfl : k = n := by omega
      go_wp2
      go_end0
      exact ⟨rfl, by rw [Hfin.out]; exact Hok.out, Hkp.out⟩
set_option maxRecDepth 100000 in
set_option maxHeartbeats 2000000 in
theorem vput_node (base g p q : Nat) (v : Int) (l : List UInt8) (xs : List NodeD) (A : Option Addr) (n c : Nat) (w : World) (hx : SlAt w base 3 A n (rowsV nodeV xs)) (hl : xs.length = n) (hn : n ≤ 1000000) (hw : ∀ x ∈ xs, NodeW x) (h : WrOk w base g l) (hll : l.length ≤ 1000000) (hp : Blk w p 180 #[.pointer (some ⟨g, 0, none⟩)]) (hpg : p ≠ g) (hq : Blk w q 3 #[.int .i64 v]) (hqg : q ≠ g) :
    Calls Tryz.prog 126 #[.pointer (some ⟨g, 0, none⟩), .slice A n c, .func (.func 127) #[] #[.pointer (some ⟨p, 0, none⟩), .pointer (some ⟨q, 0, none⟩)]] w (WOPost base g (l ++ putL (fun x => nodeL x v) xs) w) := by
  have hflen : ∀ k, ((xs.take k).flatMap (fun x => nodeL x v)).length ≤ 85 * n := fun k => by
    have h1 := flat_len (enc := fun x => nodeL x v) (fun x => nodeL_len _ v) (xs.take k)
    have h2 : (xs.take k).length ≤ n := by rw [List.length_take]; omega
    omega
  have hnl := numL_len n
  have Hlen := Lib.hid (show ∀ k, (l ++ numL n ++ (xs.take k).flatMap (fun x => nodeL x v)).length ≤ 90000000 from fun k => by have := hflen k; simp only [List.length_append]; omega)
  have Hfin := Lib.hid (show l ++ putL (fun x => nodeL x v) xs = l ++ numL n ++ (xs.take n).flatMap (fun x => nodeL x v) from by unfold putL; rw [← hl, List.take_length, List.append_assoc])
  have HN := Lib.hid (wnumO base g l (n : Int) w (by omega) h (by omega))
  have Hw := Lib.hid hw
  have Hl := Lib.hid hl
  have Hx := Lib.hid hx
  have Ho := Lib.hid h
  have Hp := Lib.hid hp
  have Hq := Lib.hid hq
  clear hw hl hx h hflen hnl hp hq
  go_enter Tryz.func126, Tryz.ntmps126
  go_wp2_with fail
  refine Calls.mono HN.out ?_
  rintro e w0 ⟨rfl, ok0, k0⟩
  rw [show ((n : Int)).toNat = n from by omega] at ok0
  have Ok0 := Lib.hid ok0
  have K0 := Lib.hid k0
  clear ok0 k0
  go_wp2
  go_loopw [7, 14] (fun _ i wr => PutRows (fun x => nodeL x v) xs n base g l w i wr) (fun _ i _ => n - (intOf i).toNat)
  case atStart => exact ⟨0, Nat.zero_le _, rfl, by simpa using Ok0.out, K0.out⟩
  case round =>
    obtain ⟨k, hk, rfl, hok, hkp⟩ := hrel
    have Hok := Lib.hid hok
    have Hkp := Lib.hid hkp
    have hsz := hok.size
    have hB := Ho.out.keep hkp
    clear hok hkp
    by_cases hlt : k < n
    · obtain ⟨x, hf⟩ : ∃ x, xs[k]? = some x := ⟨_, List.getElem?_eq_getElem (by rw [Hl.out]; exact hlt)⟩
      obtain ⟨b, off, rfl, hbB, hc⟩ := (Hx.out.below hB).rec_ nodeV_len Hl.out hf
      have hso := Lib.hid (Hw.out x (List.mem_of_getElem? hf))
      have Hst := Lib.hid (flat_step (fun x => nodeL x v) hf)
      obtain ⟨X, hX⟩ : ∃ X, X = x := ⟨_, rfl⟩
      have HX := Lib.hid hX
      obtain ⟨name, room, zone⟩ := x
      have c0 : wr.cell? ⟨b, off + k * 3, none⟩ = some (.string name) := hc 0 _ rfl
      have c1 : wr.cell? ⟨b, off + k * 3 + 1, none⟩ = some (.int .i64 room) := hc 1 _ rfl
      have c2 : wr.cell? ⟨b, off + k * 3 + 2, none⟩ = some (.string zone) := hc 2 _ rfl
      clear hc hf hX hB
      have hlb : b < wr.heap.size := by omega
      have hba : Below wr.heap.size wr (wr.alloc (.cells #[.string name, .int .i64 room, .string zone] 43)) := (Below.refl _ _).alloc (Nat.le_refl _) _
      have Hba := Lib.hid hba
      have Ha := Lib.hid (Hok.out.below hba)
      have Hkl := Lib.hid (Hlen.out k)
      have Hpa := Lib.hid ((Hkp.out.blk Hp.out (by decide) (by intro e; subst e; exact hpg rfl)).alloc (.cells #[.string name, .int .i64 room, .string zone] 43))
      have Hqa := Lib.hid ((Hkp.out.blk Hq.out (by decide) (by intro e; subst e; exact hqg rfl)).alloc (.cells #[.string name, .int .i64 room, .string zone] 43))
      clear hba
      go_wp2_with fail
      refine Calls.mono (vcl_node base g p q v _ ⟨name, room, zone⟩ _ hso.out Ha.out Hkl.out Hpa.out Hqa.out) ?_
      rintro e w1 ⟨rfl, ok1, k1⟩
      have Hk1 := Lib.hid (Hkp.out.trans ((WKeep.of_below Hba.out).trans k1))
      have Ok1 := Lib.hid (show WrOk w1 base g (l ++ numL n ++ (xs.take (k + 1)).flatMap (fun x => nodeL x v)) from by rw [Hst.out, ← List.append_assoc]; exact ok1)
      clear ok1 k1
      go_wp2
      go_roundw
      case rel => exact ⟨k + 1, by omega, by go_num, Ok1.out, Hk1.out⟩
      case measure => simp [intOf]; omega
    · obtain rfl : k = n := by omega
      go_wp2
      go_end0
      exact ⟨rfl, by rw [Hfin.out]; exact Hok.out, Hkp.out⟩
end Go.Proofs.YtbbagnfmoecdfaaGreatDoor
namespace Go.Proofs.YtbbagnfmoecdfaaGreatDoor
open Go.RowKit
theorem numL_len4 (n : Nat) : (numL n).length ≤ 4000 := by have := numL_length n; omega
theorem putL_len4 {α : Type} {enc : α → List UInt8} {xs : List α} (h : ∀ x, (enc x).length ≤ 85) (hn : xs.length ≤ 40) : (putL enc xs).length ≤ 4000 := by
  have h1 := flat_len h xs
  have h2 := numL_len xs.length
  unfold putL
  rw [List.length_append]; omega
theorem txtL_len85 (x : ByteArray) : (txtL x).length ≤ 85 := by have := txtL_len x; omega
/-- A writer just made. -/
theorem WrOk.new {w : World} {base : Nat} (hT : Tabs w) (h3 : ren.g 3 < base) (h4 : ren.g 4 < base) (hb : base ≤ w.heap.size) : WrOk (w.alloc (.cells #[.slice none 0 0] 183)) base w.heap.size [] :=
  have hbl : Below w.heap.size w (w.alloc (.cells #[.slice none 0 0] 183)) := (Below.refl _ _).alloc (Nat.le_refl _) _
  ⟨⟨hb, none, 0, 0, heap_alloc_new w _, World.ownsRow_nil _ _ _ _⟩, hT.below hbl, h3, h4, Nat.le_trans hb hbl.size⟩
theorem Tabs.lt {w : World} (h : Tabs w) : ren.g 3 < w.heap.size ∧ ren.g 4 < w.heap.size := by
  have lt : ∀ {a : Addr} {v : Value}, w.cell? a = some v → a.block < w.heap.size := fun {a v} hc => by
    rcases Nat.lt_or_ge a.block w.heap.size with h' | h'
    · exact h'
    · simp [World.cell?, Array.getElem?_eq_none h'] at hc
  exact ⟨lt (h.1 0 (by decide)), lt (h.2 0 (by decide)).1⟩
end Go.Proofs.YtbbagnfmoecdfaaGreatDoor
namespace Go.Proofs.YtbbagnfmoecdfaaGreatDoor
open Go.RowKit
/-- On the way: the writer has written l; the boxes and the variable of the writer stand. -/
structure VGo (w0 w : World) (base g p S Q : Nat) (v : Int) (l : List UInt8) (cs : Array Value) (N : Nat) : Prop where
  ok : WrOk w base g l
  keep : WKeep base g w0 w
  bS : Blk w S 30 cs
  bq : Blk w Q 3 #[.int .i64 v]
  bp : Blk w p 180 #[.pointer (some ⟨g, 0, none⟩)]
  nS : S ≠ g
  nq : Q ≠ g
  np : p ≠ g
  len : l.length ≤ N
theorem VGo.next {w0 w w' : World} {base g p S Q N : Nat} {v : Int} {l k : List UInt8} {cs : Array Value} (h : VGo w0 w base g p S Q v l cs N) (ha : WrOk w' base g (l ++ k)) (hk : WKeep base g w w') (hkl : k.length ≤ 4000) : VGo w0 w' base g p S Q v (l ++ k) cs (N + 4000) :=
  ⟨ha, h.keep.trans hk, hk.blk h.bS (by decide) h.nS, hk.blk h.bq (by decide) h.nq, hk.blk h.bp (by decide) h.np, h.nS, h.nq, h.np, by have := h.len; rw [List.length_append]; omega⟩
set_option maxRecDepth 100000 in
set_option maxHeartbeats 4000000 in
theorem wencode_any (st : StateD) (x : StA) (v : Int) (w : World) (hS : StAt w w.heap.size st x) (hT : Tabs w) :
    Calls Tryz.prog 32 #[.agg (stC st x), .int .i64 v] w (EnPost st v w) := by
  have hb1 : Below w.heap.size w (w.alloc (.cells (stC st x) 30)) := (Below.refl _ _).alloc (Nat.le_refl _) _
  have hb2 := hb1.alloc hb1.size (.cells #[.int .i64 v] 3)
  have hBS : Blk ((w.alloc (.cells (stC st x) 30)).alloc (.cells #[.int .i64 v] 3)) w.heap.size 30 (stC st x) := Blk.alloc (show Blk _ _ _ _ from heap_alloc_new w _) _
  have hBQ : Blk ((w.alloc (.cells (stC st x) 30)).alloc (.cells #[.int .i64 v] 3)) (w.heap.size + 1) 3 #[.int .i64 v] := by
    have h := heap_alloc_new (w.alloc (.cells (stC st x) 30)) (.cells #[.int .i64 v] 3)
    rwa [show (w.alloc (.cells (stC st x) 30)).heap.size = w.heap.size + 1 by simp] at h
  have HFit := Lib.hid (fits_any st x v _ (hS.up hb2) (hT.below hb2))
  have Hend := Lib.hid (fun s E (h : wencF st v = (s, E)) w' => EnPost.mk' (w := w) (w' := w') h)
  have HS := Lib.hid hS
  have HT := Lib.hid hT
  have Hb2 := Lib.hid hb2
  have HBS := Lib.hid hBS
  have HBQ := Lib.hid hBQ
  have hF : fitsF st v = if checkE st ≠ 0 then (false, checkE st) else if ranged v 1 3 = false then (false, 1) else (fitsE st v, 0) := rfl
  have HF := Lib.hid hF
  clear hb1 hb2 hS hBS hBQ hT hF
  obtain ⟨rev, jobs, nodes, leases⟩ := st
  obtain ⟨aj, nj, cj, an, nn, cn, al, nl, cl⟩ := x
  unfold stC at *
  dsimp only at *
  go_enter Tryz.func32, Tryz.ntmps32
  go_wp2_with fail
  refine Calls.mono HFit.out ?_
  rintro e w1 ⟨rfl, hb⟩
  have HbA := Lib.hid (Hb2.out.trans (hb.mono Hb2.out.size))
  have HB1 := Lib.hid (HBS.out.below hb HBS.out.lt)
  have HQ1 := Lib.hid (HBQ.out.below hb HBQ.out.lt)
  have hsz : w.heap.size + 1 < w1.heap.size := HQ1.out.lt
  rw [HF.out]
  clear hb HFit HBS HBQ
  obtain ⟨E, hE⟩ : ∃ E, checkE ⟨rev, jobs, nodes, leases⟩ = E := ⟨_, rfl⟩
  obtain ⟨fit, hfit⟩ : ∃ f, fitsE ⟨rev, jobs, nodes, leases⟩ v = f := ⟨_, rfl⟩
  have HE := Lib.hid hE
  have Hfit := Lib.hid hfit
  rw [hE, hfit]
  clear hE hfit HF
  by_cases h0 : E = 0
  rotate_left
  · rw [if_pos h0]
    have e2 : (E != 0) = true := bne_iff_ne.2 h0
    have hend := Lib.hid (Hend.out _ _ (by rw [wencF_check (by rw [HE.out]; exact h0), HE.out]) _ HbA.out)
    go_wp2
    go_ret2
    exact hend.out
  subst h0
  rw [if_neg (by simp)]
  cases hr : ranged v 1 3
  · rw [if_pos rfl]
    have hend := Lib.hid (Hend.out _ _ (wencF_arg HE.out hr) _ HbA.out)
    clear hr
    go_wp2
    go_ret2
    exact hend.out
  rw [if_neg (by simp)]
  have Hr := Lib.hid hr
  have hv := ranged_iff.1 hr
  clear hr
  cases fit
  · have hend := Lib.hid (Hend.out _ _ (wencF_form HE.out Hr.out Hfit.out) _ HbA.out)
    go_wp2
    go_ret2
    exact hend.out
  have hend := Lib.hid (Hend.out _ _ (wencF_ok HE.out Hr.out Hfit.out))
  have G := Lib.hid (sgood HE.out)
  have HGJ := Lib.hid (G.out.jobs)
  have HGN := Lib.hid (G.out.nodes)
  have HGL := Lib.hid (G.out.leases)
  have gr0 := G.out.r0
  have gr1 := G.out.r1
  have gnj := G.out.nj
  have gnn := G.out.nn
  have gnl := G.out.nl
  have hl1 := HS.out.lj
  have hl2 := HS.out.ln
  have hl3 := HS.out.ll
  dsimp only at gr0 gr1 gnj gnn gnl hl1 hl2 hl3
  have hTl := HT.out.lt
  have hw0 := WrOk.new (HT.out.below HbA.out) hTl.1 hTl.2 (show w.heap.size ≤ w1.heap.size by omega)
  have hbW : Below w1.heap.size w1 (w1.alloc (.cells #[.slice none 0 0] 183)) := (Below.refl _ _).alloc (Nat.le_refl _) _
  have hsW : (w1.alloc (.cells #[.slice none 0 0] 183)).heap.size = w1.heap.size + 1 := by simp
  have hbP : Below (w1.alloc (.cells #[.slice none 0 0] 183)).heap.size (w1.alloc (.cells #[.slice none 0 0] 183)) ((w1.alloc (.cells #[.slice none 0 0] 183)).alloc (.cells #[.pointer (some ⟨w1.heap.size, 0, none⟩)] 180)) := (Below.refl _ _).alloc (Nat.le_refl _) _
  have hbp : Blk ((w1.alloc (.cells #[.slice none 0 0] 183)).alloc (.cells #[.pointer (some ⟨w1.heap.size, 0, none⟩)] 180)) (w1.heap.size + 1) 180 #[.pointer (some ⟨w1.heap.size, 0, none⟩)] := by
    have := heap_alloc_new (w1.alloc (.cells #[.slice none 0 0] 183)) (.cells #[.pointer (some ⟨w1.heap.size, 0, none⟩)] 180)
    rw [hsW] at this
    exact this
  have H0 := Lib.hid (VGo.mk (w0 := w) (N := 0) (hw0.below hbP) (((WKeep.of_below HbA.out).trans (WKeep.of_below hbW)).trans (WKeep.of_below hbP)) ((HB1.out.alloc _).alloc _) ((HQ1.out.alloc _).alloc _) hbp (show w.heap.size ≠ w1.heap.size by omega) (show w.heap.size + 1 ≠ w1.heap.size by omega) (by omega) (by simp))
  have y0 : ((w1.alloc (.cells #[.slice none 0 0] 183)).alloc (.cells #[.pointer (some ⟨w1.heap.size, 0, none⟩)] 180)).cell? ⟨w.heap.size, 0, none⟩ = some (.int .i64 rev) := H0.out.bS.cell 0
  have y1 : ((w1.alloc (.cells #[.slice none 0 0] 183)).alloc (.cells #[.pointer (some ⟨w1.heap.size, 0, none⟩)] 180)).cell? ⟨w.heap.size, 1, none⟩ = some (.slice aj nj cj) := H0.out.bS.cell 1
  have y2 : ((w1.alloc (.cells #[.slice none 0 0] 183)).alloc (.cells #[.pointer (some ⟨w1.heap.size, 0, none⟩)] 180)).cell? ⟨w.heap.size, 2, none⟩ = some (.slice an nn cn) := H0.out.bS.cell 2
  have y3 : ((w1.alloc (.cells #[.slice none 0 0] 183)).alloc (.cells #[.pointer (some ⟨w1.heap.size, 0, none⟩)] 180)).cell? ⟨w.heap.size, 3, none⟩ = some (.slice al nl cl) := H0.out.bS.cell 3
  have yq : ((w1.alloc (.cells #[.slice none 0 0] 183)).alloc (.cells #[.pointer (some ⟨w1.heap.size, 0, none⟩)] 180)).cell? ⟨w.heap.size + 1, 0, none⟩ = some (.int .i64 v) := H0.out.bq.cell 0
  clear hTl hw0 hbW hsW hbP hbp HbA
  by_cases h2 : 2 < v
  · have d2 : decide (2 < v) = true := decide_eq_true h2
    go_wp2_with fail
    refine Calls.mono (wnumO w.heap.size w1.heap.size _ rev _ (by omega) H0.out.ok (by have := H0.out.len; omega)) ?_
    rintro e wk1 ⟨rfl, ok1, k1⟩
    have H1 := Lib.hid (H0.out.next ok1 k1 (numL_len4 _))
    clear ok1 k1 H0 y0 y1 y2 y3 yq
    have yp : wk1.cell? ⟨w1.heap.size + 1, 0, none⟩ = some (.pointer (some ⟨w1.heap.size, 0, none⟩)) := H1.out.bp.cell 0
    have hpl : w1.heap.size + 1 < wk1.heap.size := H1.out.bp.lt
    have y1 : wk1.cell? ⟨w.heap.size, 1, none⟩ = some (.slice aj nj cj) := H1.out.bS.cell 1
    have y2 : wk1.cell? ⟨w.heap.size, 2, none⟩ = some (.slice an nn cn) := H1.out.bS.cell 2
    have y3 : wk1.cell? ⟨w.heap.size, 3, none⟩ = some (.slice al nl cl) := H1.out.bS.cell 3
    go_wp2_with fail
    refine Calls.mono (vput_job w.heap.size w1.heap.size (w1.heap.size + 1) (w.heap.size + 1) v _ jobs _ _ _ _ (HS.out.j.below (H1.out.keep.below (show w.heap.size ≤ w1.heap.size by omega) (Nat.le_refl _))) HS.out.lj (by first | omega | (dsimp only; omega)) HGJ.out H1.out.ok (by have := H1.out.len; omega) H1.out.bp H1.out.np H1.out.bq H1.out.nq) ?_
    rintro e wk3 ⟨rfl, ok3, k3⟩
    have H3 := Lib.hid (H1.out.next ok3 k3 (putL_len4 (fun x => jobL_len x v) gnj))
    clear ok3 k3 yp hpl y1 y2 y3
    have yp : wk3.cell? ⟨w1.heap.size + 1, 0, none⟩ = some (.pointer (some ⟨w1.heap.size, 0, none⟩)) := H3.out.bp.cell 0
    have hpl : w1.heap.size + 1 < wk3.heap.size := H3.out.bp.lt
    have y2 : wk3.cell? ⟨w.heap.size, 2, none⟩ = some (.slice an nn cn) := H3.out.bS.cell 2
    have y3 : wk3.cell? ⟨w.heap.size, 3, none⟩ = some (.slice al nl cl) := H3.out.bS.cell 3
    go_wp2_with fail
    refine Calls.mono (vput_node w.heap.size w1.heap.size (w1.heap.size + 1) (w.heap.size + 1) v _ nodes _ _ _ _ (HS.out.n.below (H3.out.keep.below (show w.heap.size ≤ w1.heap.size by omega) (Nat.le_refl _))) HS.out.ln (by first | omega | (dsimp only; omega)) HGN.out H3.out.ok (by have := H3.out.len; omega) H3.out.bp H3.out.np H3.out.bq H3.out.nq) ?_
    rintro e wk4 ⟨rfl, ok4, k4⟩
    have H4 := Lib.hid (H3.out.next ok4 k4 (putL_len4 (fun x => nodeL_len x v) (by omega)))
    clear ok4 k4 yp hpl y2 y3
    have yp : wk4.cell? ⟨w1.heap.size + 1, 0, none⟩ = some (.pointer (some ⟨w1.heap.size, 0, none⟩)) := H4.out.bp.cell 0
    have hpl : w1.heap.size + 1 < wk4.heap.size := H4.out.bp.lt
    have y3 : wk4.cell? ⟨w.heap.size, 3, none⟩ = some (.slice al nl cl) := H4.out.bS.cell 3
    go_wp2_with fail
    refine Calls.mono (put_lease w.heap.size w1.heap.size (w1.heap.size + 1) _ leases _ _ _ _ (HS.out.l.below (H4.out.keep.below (show w.heap.size ≤ w1.heap.size by omega) (Nat.le_refl _))) HS.out.ll (by first | omega | (dsimp only; omega)) HGL.out H4.out.ok (by have := H4.out.len; omega)) ?_
    rintro e wk5 ⟨rfl, ok5, k5⟩
    have H5 := Lib.hid (H4.out.next ok5 k5 (putL_len4 (fun x => leaseL_len x) (by omega)))
    clear ok5 k5 yp hpl y3
    have yp : wk5.cell? ⟨w1.heap.size + 1, 0, none⟩ = some (.pointer (some ⟨w1.heap.size, 0, none⟩)) := H5.out.bp.cell 0
    have hpl : w1.heap.size + 1 < wk5.heap.size := H5.out.bp.lt
    have hL : [] ++ numL rev.toNat ++ putL (fun x => jobL x v) jobs ++ putL (fun x => nodeL x v) nodes ++ putL leaseL leases = wencL ⟨rev, jobs, nodes, leases⟩ v := by unfold wencL rowsL; rw [if_pos (by omega)]; simp only [List.append_assoc, List.nil_append]
    have hat := H5.out.ok.at_
    rw [hL] at hat
    obtain ⟨_, AA, m, c, hB, ho⟩ := hat
    have z0 : wk5.cell? ⟨w1.heap.size, 0, none⟩ = some (.slice AA m c) := hB.cell 0
    have hrun := run_string_own Tryz.underlying181 Tryz.underlying5 Tryz.underlying9 ho
    have Hfin := Lib.hid (hend.out _ (H5.out.keep.below (show w.heap.size ≤ w1.heap.size by omega) (Nat.le_refl _)))
    clear hL hB ho
    go_wp2
    go_ret2
    exact Hfin.out
  · have d2 : decide (2 < v) = false := decide_eq_false h2
    have hsw : w1.heap.size < w1.heap.size + 1 := by omega
    go_wp2_with fail
    refine Calls.mono (vput_job w.heap.size w1.heap.size (w1.heap.size + 1) (w.heap.size + 1) v _ jobs _ _ _ _ (HS.out.j.below (H0.out.keep.below (show w.heap.size ≤ w1.heap.size by omega) (Nat.le_refl _))) HS.out.lj (by first | omega | (dsimp only; omega)) HGJ.out H0.out.ok (by have := H0.out.len; omega) H0.out.bp H0.out.np H0.out.bq H0.out.nq) ?_
    rintro e wk3 ⟨rfl, ok3, k3⟩
    have H3 := Lib.hid (H0.out.next ok3 k3 (putL_len4 (fun x => jobL_len x v) gnj))
    clear ok3 k3 y0 y1 y2 y3 yq
    have yp : wk3.cell? ⟨w1.heap.size + 1, 0, none⟩ = some (.pointer (some ⟨w1.heap.size, 0, none⟩)) := H3.out.bp.cell 0
    have hpl : w1.heap.size + 1 < wk3.heap.size := H3.out.bp.lt
    have y2 : wk3.cell? ⟨w.heap.size, 2, none⟩ = some (.slice an nn cn) := H3.out.bS.cell 2
    have y3 : wk3.cell? ⟨w.heap.size, 3, none⟩ = some (.slice al nl cl) := H3.out.bS.cell 3
    go_wp2_with fail
    refine Calls.mono (vput_node w.heap.size w1.heap.size (w1.heap.size + 1) (w.heap.size + 1) v _ nodes _ _ _ _ (HS.out.n.below (H3.out.keep.below (show w.heap.size ≤ w1.heap.size by omega) (Nat.le_refl _))) HS.out.ln (by first | omega | (dsimp only; omega)) HGN.out H3.out.ok (by have := H3.out.len; omega) H3.out.bp H3.out.np H3.out.bq H3.out.nq) ?_
    rintro e wk4 ⟨rfl, ok4, k4⟩
    have H4 := Lib.hid (H3.out.next ok4 k4 (putL_len4 (fun x => nodeL_len x v) (by omega)))
    clear ok4 k4 yp hpl y2 y3
    have yp : wk4.cell? ⟨w1.heap.size + 1, 0, none⟩ = some (.pointer (some ⟨w1.heap.size, 0, none⟩)) := H4.out.bp.cell 0
    have hpl : w1.heap.size + 1 < wk4.heap.size := H4.out.bp.lt
    have y3 : wk4.cell? ⟨w.heap.size, 3, none⟩ = some (.slice al nl cl) := H4.out.bS.cell 3
    go_wp2_with fail
    refine Calls.mono (put_lease w.heap.size w1.heap.size (w1.heap.size + 1) _ leases _ _ _ _ (HS.out.l.below (H4.out.keep.below (show w.heap.size ≤ w1.heap.size by omega) (Nat.le_refl _))) HS.out.ll (by first | omega | (dsimp only; omega)) HGL.out H4.out.ok (by have := H4.out.len; omega)) ?_
    rintro e wk5 ⟨rfl, ok5, k5⟩
    have H5 := Lib.hid (H4.out.next ok5 k5 (putL_len4 (fun x => leaseL_len x) (by omega)))
    clear ok5 k5 yp hpl y3
    have yp : wk5.cell? ⟨w1.heap.size + 1, 0, none⟩ = some (.pointer (some ⟨w1.heap.size, 0, none⟩)) := H5.out.bp.cell 0
    have hpl : w1.heap.size + 1 < wk5.heap.size := H5.out.bp.lt
    have hL : [] ++ putL (fun x => jobL x v) jobs ++ putL (fun x => nodeL x v) nodes ++ putL leaseL leases = wencL ⟨rev, jobs, nodes, leases⟩ v := by unfold wencL rowsL; rw [if_neg (by omega)]; simp only [List.append_assoc, List.nil_append]
    have hat := H5.out.ok.at_
    rw [hL] at hat
    obtain ⟨_, AA, m, c, hB, ho⟩ := hat
    have z0 : wk5.cell? ⟨w1.heap.size, 0, none⟩ = some (.slice AA m c) := hB.cell 0
    have hrun := run_string_own Tryz.underlying181 Tryz.underlying5 Tryz.underlying9 ho
    have Hfin := Lib.hid (hend.out _ (H5.out.keep.below (show w.heap.size ≤ w1.heap.size by omega) (Nat.le_refl _)))
    clear hL hB ho
    go_wp2
    go_ret2
    exact Hfin.out
end Go.Proofs.YtbbagnfmoecdfaaGreatDoor
