/- Of the proof of a statement: JPrint. -/
import Derived.Lib.SlBytesConst
import Derived.Test.YtcodhhabfacnjaaGreatDoorSItoaM
import Derived.Test.YtcodhhabfacnjaaGreatDoorSJArr
import Derived.Test.YtcodhhabfacnjaaGreatDoorSSGood
set_option linter.unusedVariables false
set_option linter.unusedSimpArgs false
/- json.printed and json.Print. -/
namespace Go.Proofs.YtcodhhabfacnjaaGreatDoor
open Go.RowKit
def printF (st : StateD) : ByteArray × Int := if checkE st ≠ 0 then (⟨#[]⟩, checkE st) else (⟨(printL st).toArray⟩, 0)
def PrPost (st : StateD) (w : World) (e : Ending) (w' : World) : Prop := e = .returned (.tuple #[.string (printF st).1, .int .i64 (printF st).2]) ∧ Below w.heap.size w w'
theorem jobOk_of {st : StateD} (g : SGood st) : ∀ x ∈ st.jobs, jobOk x := fun x hx f hf => by
  obtain ⟨h1, h2, h3, h4, h5⟩ := g.job hx
  simp only [jobFs, List.mem_cons, List.not_mem_nil, or_false] at hf
  rcases hf with rfl | rfl | rfl | rfl | rfl
  · exact ⟨Nat.le_of_ble_eq_true rfl, by show x.name.size ≤ 100; omega⟩
  · exact ⟨Nat.le_of_ble_eq_true rfl, by show -9223372036854775807 ≤ x.prio ∧ x.prio ≤ 9223372036854775807; omega⟩
  · exact ⟨Nat.le_of_ble_eq_true rfl, by show -9223372036854775807 ≤ x.need ∧ x.need ≤ 9223372036854775807; omega⟩
  · exact ⟨Nat.le_of_ble_eq_true rfl, by show -9223372036854775807 ≤ x.tries ∧ x.tries ≤ 9223372036854775807; omega⟩
  · exact ⟨Nat.le_of_ble_eq_true rfl, by show x.tag.size ≤ 100; omega⟩
theorem nodeOk_of {st : StateD} (g : SGood st) : ∀ x ∈ st.nodes, nodeOk x := fun x hx f hf => by
  obtain ⟨h1, h2, h3⟩ := g.node hx
  simp only [nodeFs, List.mem_cons, List.not_mem_nil, or_false] at hf
  rcases hf with rfl | rfl | rfl
  · exact ⟨Nat.le_of_ble_eq_true rfl, by show x.name.size ≤ 100; omega⟩
  · exact ⟨Nat.le_of_ble_eq_true rfl, by show -9223372036854775807 ≤ x.room ∧ x.room ≤ 9223372036854775807; omega⟩
  · exact ⟨Nat.le_of_ble_eq_true rfl, by show x.zone.size ≤ 100; omega⟩
theorem leaseOk_of {st : StateD} (g : SGood st) : ∀ x ∈ st.leases, leaseOk x := fun x hx f hf => by
  obtain ⟨h1, h2, h3⟩ := g.lease hx
  simp only [leaseFs, List.mem_cons, List.not_mem_nil, or_false] at hf
  rcases hf with rfl | rfl | rfl
  · exact ⟨Nat.le_of_ble_eq_true rfl, by show x.job.size ≤ 100; omega⟩
  · exact ⟨Nat.le_of_ble_eq_true rfl, by show x.node.size ≤ 100; omega⟩
  · exact ⟨Nat.le_of_ble_eq_true rfl, by show -9223372036854775807 ≤ x.till ∧ x.till ≤ 9223372036854775807; omega⟩
theorem arrL_len {n L : Nat} {name : ByteArray} {l : List (List UInt8)} (hn : name.size ≤ 100) (h : ∀ x ∈ l, x.length ≤ L) (hl : l.length ≤ n) : (arrL name l).length ≤ 610 + n * (L + 1) := by
  have h1 := quoteL_len name hn
  have h2 := commaL_len2 h hl
  unfold arrL
  simp only [List.length_append, List.length_cons, List.length_nil]
  omega
theorem jobs_len {st : StateD} (g : SGood st) : (arrL ⟨#[106, 111, 98, 115]⟩ (st.jobs.map fun j => objL (jobFs j))).length ≤ 610 + 40 * 6061 :=
  arrL_len (by decide) (fun y hy => by
    obtain ⟨x, hx, rfl⟩ := List.mem_map.1 hy
    exact objL_len (by simp [jobFs]) (jobOk_of g x hx)) (by rw [List.length_map]; exact g.nj)
theorem nodes_len {st : StateD} (g : SGood st) : (arrL ⟨#[110, 111, 100, 101, 115]⟩ (st.nodes.map fun j => objL (nodeFs j))).length ≤ 610 + 40 * 6061 :=
  arrL_len (by decide) (fun y hy => by
    obtain ⟨x, hx, rfl⟩ := List.mem_map.1 hy
    exact objL_len (by simp [nodeFs]) (nodeOk_of g x hx)) (by rw [List.length_map]; have := g.nn; omega)
theorem leases_len {st : StateD} (g : SGood st) : (arrL ⟨#[108, 101, 97, 115, 101, 115]⟩ (st.leases.map fun j => objL (leaseFs j))).length ≤ 610 + 40 * 6061 :=
  arrL_len (by decide) (fun y hy => by
    obtain ⟨x, hx, rfl⟩ := List.mem_map.1 hy
    exact objL_len (by simp [leaseFs]) (leaseOk_of g x hx)) (by rw [List.length_map]; exact g.nl)
set_option maxRecDepth 100000 in
set_option maxHeartbeats 4000000 in
theorem printed_any (st : StateD) (x : StA) (w : World) (hS : StAt w w.heap.size st x) (hc : checkE st = 0) (htab : Lib.TabBelow Tryz.prog w.heap.size w "internal/strconv.uint64pow10" .u64 Lib.pow10Tab) :
    Calls Tryz.prog 16 #[.agg (stC st x)] w fun e w' => e = .returned (.string ⟨(printL st).toArray⟩) ∧ Below w.heap.size w w' := by
  have g := sgood hc
  have hr0 := g.r0
  have hr1 := g.r1
  have HL := Lib.hid (show (printL st).toArray = (([123, 34, 114, 101, 118, 34, 58] : List UInt8) ++ Lib.itoa st.rev ++ arrL ⟨#[106, 111, 98, 115]⟩ (st.jobs.map fun j => objL (jobFs j)) ++ arrL ⟨#[110, 111, 100, 101, 115]⟩ (st.nodes.map fun n => objL (nodeFs n)) ++ arrL ⟨#[108, 101, 97, 115, 101, 115]⟩ (st.leases.map fun l => objL (leaseFs l)) ++ [125]).toArray from rfl)
  have qi := itoa_len st.rev (by omega) (by omega)
  have q1 := jobs_len g
  have q2 := nodes_len g
  have q3 := leases_len g
  have Q1 := Lib.hid (jobOk_of g)
  have Q2 := Lib.hid (nodeOk_of g)
  have Q3 := Lib.hid (leaseOk_of g)
  have HS := Lib.hid hS
  have HT := Lib.hid htab
  have hnj := g.nj
  have hnn := g.nn
  have hnl := g.nl
  have bj : x.nj ≤ 40 := by have := hS.lj; omega
  have bn : x.nn ≤ 40 := by have := hS.ln; omega
  have bl : x.nl ≤ 40 := by have := hS.ll; omega
  clear hS htab g hc hnj hnn hnl
  rw [HL.out]
  clear HL
  obtain ⟨rev, jobs, nodes, leases⟩ := st
  obtain ⟨aj, nj, cj, an, nn, cn, al, nl, cl⟩ := x
  simp only [stC] at *
  have hB0 : Blk ((w.alloc (.cells #[.int .i64 rev, .slice aj nj cj, .slice an nn cn, .slice al nl cl] 26)).alloc (.cells #[.int .u8 123, .int .u8 34, .int .u8 114, .int .u8 101, .int .u8 118, .int .u8 34, .int .u8 58] 5 (7, 8))) w.heap.size 26 #[.int .i64 rev, .slice aj nj cj, .slice an nn cn, .slice al nl cl] := Blk.alloc (show Blk _ _ _ _ from heap_alloc_new w _) _
  have hb1 : Below w.heap.size w ((w.alloc (.cells #[.int .i64 rev, .slice aj nj cj, .slice an nn cn, .slice al nl cl] 26)).alloc (.cells #[.int .u8 123, .int .u8 34, .int .u8 114, .int .u8 101, .int .u8 118, .int .u8 34, .int .u8 58] 5 (7, 8))) := ((Below.refl _ _).alloc (Nat.le_refl _) _).alloc (by simp) _
  have hk1 : Lib.OthersKept 5 none w ((w.alloc (.cells #[.int .i64 rev, .slice aj nj cj, .slice an nn cn, .slice al nl cl] 26)).alloc (.cells #[.int .u8 123, .int .u8 34, .int .u8 114, .int .u8 101, .int .u8 118, .int .u8 34, .int .u8 58] 5 (7, 8))) := ((Lib.OthersKept.refl _ _ _).alloc _).alloc _
  have hr1 : RowAt ((w.alloc (.cells #[.int .i64 rev, .slice aj nj cj, .slice an nn cn, .slice al nl cl] 26)).alloc (.cells #[.int .u8 123, .int .u8 34, .int .u8 114, .int .u8 101, .int .u8 118, .int .u8 34, .int .u8 58] 5 (7, 8))) (w.heap.size + 1) 0 (bytesV [123, 34, 114, 101, 118, 34, 58]) := by
    have h0 := heap_alloc_new (w.alloc (.cells #[.int .i64 rev, .slice aj nj cj, .slice an nn cn, .slice al nl cl] 26)) (.cells #[.int .u8 123, .int .u8 34, .int .u8 114, .int .u8 101, .int .u8 118, .int .u8 34, .int .u8 58] 5 (7, 8))
    rw [show (w.alloc (.cells #[.int .i64 rev, .slice aj nj cj, .slice an nn cn, .slice al nl cl] 26)).heap.size = w.heap.size + 1 by simp] at h0
    intro j u hu
    rw [cell_of_row _ _ _ _ _ _ h0, Nat.zero_add, ← hu, List.getElem?_toArray]
    rfl
  have kc := Lib.run_convert_bytes_const (P := Tryz.prog) (w.alloc (.cells #[.int .i64 rev, .slice aj nj cj, .slice an nn cn, .slice al nl cl] 26)) 78 5 #[.int .u8 123, .int .u8 34, .int .u8 114, .int .u8 101, .int .u8 118, .int .u8 34, .int .u8 58] 7 7 Tryz.underlying78 Tryz.underlying5
  rw [show (w.alloc (.cells #[.int .i64 rev, .slice aj nj cj, .slice an nn cn, .slice al nl cl] 26)).heap.size = w.heap.size + 1 by simp] at kc
  simp only [List.size_toArray, List.length_cons, List.length_nil] at kc
  have HI := Lib.hid (fullInt_any (w.heap.size + 1) 7 rev.toNat (by omega) (bytesV [123, 34, 114, 101, 118, 34, 58]) ((w.alloc (.cells #[.int .i64 rev, .slice aj nj cj, .slice an nn cn, .slice al nl cl] 26)).alloc (.cells #[.int .u8 123, .int .u8 34, .int .u8 114, .int .u8 101, .int .u8 118, .int .u8 34, .int .u8 58] 5 (7, 8))) (by simp) rfl hr1 (by decide) (HT.out _ hb1))
  have hrv : ((rev.toNat : Nat) : Int) = rev := Int.toNat_of_nonneg hr0
  rw [hrv] at HI
  have Hit := Lib.hid (show Lib.itoa rev = Lib.decDigits rev.toNat by unfold Lib.itoa; rw [if_neg (by omega)])
  have HB0 := Lib.hid hB0
  have HK1 := Lib.hid hk1
  have Hb1 := Lib.hid hb1
  have x0 : ((w.alloc (.cells #[.int .i64 rev, .slice aj nj cj, .slice an nn cn, .slice al nl cl] 26)).alloc (.cells #[.int .u8 123, .int .u8 34, .int .u8 114, .int .u8 101, .int .u8 118, .int .u8 34, .int .u8 58] 5 (7, 8))).cell? ⟨w.heap.size, 0, none⟩ = some (.int .i64 rev) := hB0.cell 0
  clear hB0 hk1 hb1 hr1 hrv
  go_enter Tryz.func16, Tryz.ntmps16
  go_wp2_with fail
  refine Calls.mono HI.out ?_
  clear x0 kc HI
  rintro e w2 ⟨v2, rfl, ho2, hb2⟩
  obtain ⟨A2, c2, rfl⟩ := own_formB ho2
  have HA2 := Lib.hid (show At2 w.heap.size w ([123, 34, 114, 101, 118, 34, 58] ++ Lib.itoa rev) w2 A2 (7 + (Lib.decDigits rev.toNat).length) c2 from ⟨by rw [Hit.out, bytesV_append]; exact ownT_base ho2 Hb1.out.size, Hb1.out.trans (hb2.mono Hb1.out.size), HK1.out.below hb2⟩)
  have HB2 := Lib.hid (HB0.out.below hb2 HB0.out.lt)
  obtain ⟨m2, hm2⟩ : ∃ m2, 7 + (Lib.decDigits rev.toNat).length = m2 := ⟨_, rfl⟩
  rw [hm2] at HA2 ⊢
  have hm2 : m2 ≤ 30 := by
    have e3 := HA2.out.len
    simp only [List.length_append, List.length_cons, List.length_nil] at e3
    omega
  clear ho2 hb2
  have x3 : w2.cell? ⟨w.heap.size, 1, none⟩ = some (.slice aj nj cj) := HB2.out.cell 1
  go_wp2_with fail
  refine Calls.mono (arr_job w.heap.size _ _ _ _ ⟨#[106, 111, 98, 115]⟩ jobs _ _ _ _ HA2.out.own (by omega) HA2.out.below.size (by decide) (HS.out.j.below HA2.out.below) HS.out.lj (by omega) Q1.out (HT.out.on HA2.out.below)) ?_
  clear x3
  rintro e w3 ⟨A3, m3, c3, rfl, ho3, hb3, hk3⟩
  have HA3 := Lib.hid (HA2.out.post ho3 hb3 hk3)
  have HB3 := Lib.hid (HB2.out.keptO (by decide) hk3)
  have hm3 : m3 ≤ 243080 := by
    have e3 := HA3.out.len
    have e2 := HA2.out.len
    simp only [List.length_append, List.length_cons, List.length_nil] at e3 e2
    omega
  clear ho3 hb3 hk3
  have x4 : w3.cell? ⟨w.heap.size, 2, none⟩ = some (.slice an nn cn) := HB3.out.cell 2
  go_wp2_with fail
  refine Calls.mono (arr_node w.heap.size _ _ _ _ ⟨#[110, 111, 100, 101, 115]⟩ nodes _ _ _ _ HA3.out.own (by omega) HA3.out.below.size (by decide) (HS.out.n.below HA3.out.below) HS.out.ln (by omega) Q2.out (HT.out.on HA3.out.below)) ?_
  clear x4
  rintro e w4 ⟨A4, m4, c4, rfl, ho4, hb4, hk4⟩
  have HA4 := Lib.hid (HA3.out.post ho4 hb4 hk4)
  have HB4 := Lib.hid (HB3.out.keptO (by decide) hk4)
  have hm4 : m4 ≤ 486130 := by
    have e3 := HA4.out.len
    have e2 := HA3.out.len
    simp only [List.length_append, List.length_cons, List.length_nil] at e3 e2
    omega
  clear ho4 hb4 hk4
  have x5 : w4.cell? ⟨w.heap.size, 3, none⟩ = some (.slice al nl cl) := HB4.out.cell 3
  go_wp2_with fail
  refine Calls.mono (arr_lease w.heap.size _ _ _ _ ⟨#[108, 101, 97, 115, 101, 115]⟩ leases _ _ _ _ HA4.out.own (by omega) HA4.out.below.size (by decide) (HS.out.l.below HA4.out.below) HS.out.ll (by omega) Q3.out (HT.out.on HA4.out.below)) ?_
  clear x5
  rintro e w5 ⟨A5, m5, c5, rfl, ho5, hb5, hk5⟩
  have HA5 := Lib.hid (HA4.out.post ho5 hb5 hk5)
  have HB5 := Lib.hid (HB4.out.keptO (by decide) hk5)
  have hm5 : m5 ≤ 729180 := by
    have e3 := HA5.out.len
    have e2 := HA4.out.len
    simp only [List.length_append, List.length_cons, List.length_nil] at e3 e2
    omega
  clear ho5 hb5 hk5
  go_wp2_with (at_builtin; refine push_u8 rfl _ _ rfl w.heap.size _ _ _ _ rfl HA5.out.own _ 125 rfl rfl (by omega) HA5.out.below.size ?_; intro A6 c6 w6 ho6 hg6; have HA6 := Lib.hid (HA5.out.grew (Nat.le_refl _) ho6 hg6); have hcv := run_string_own (P := Tryz.prog) Tryz.underlying78 Tryz.underlying5 Tryz.underlying9 ho6; clear ho6 hg6)
  go_ret
  exact ⟨ret_str (by simp [List.append_assoc]), HA6.out.below⟩
end Go.Proofs.YtcodhhabfacnjaaGreatDoor
