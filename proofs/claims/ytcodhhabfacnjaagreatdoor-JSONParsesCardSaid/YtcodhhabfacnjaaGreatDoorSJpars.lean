/- Of the proof of a statement: Jpars. -/
import Derived.Test.YtcodhhabfacnjaaGreatDoorSJels
import Derived.Test.YtcodhhabfacnjaaGreatDoorSPlJz
set_option linter.unusedVariables false
set_option linter.unusedSimpArgs false
/- The walk of json.Parse. -/
namespace Go.Proofs.YtcodhhabfacnjaaGreatDoor
open Go.RowKit
def nilA : StA := ⟨none, 0, 0, none, 0, 0, none, 0, 0⟩
theorem zeroAt (w : World) (B : Nat) : StAt w B zeroSt nilA :=
  ⟨SlAt.nil, SlAt.nil, SlAt.nil, rfl, rfl, rfl, by decide, by decide, by decide, (fun _ h => by cases h), (fun _ h => by cases h), (fun _ h => by cases h)⟩
def JpPost (t : ByteArray) (w : World) (e : Ending) (w' : World) : Prop :=
  ∃ (st : StateD) (x : StA) (E : Int), e = .returned (.tuple #[.agg (stC st x), .int .i64 E]) ∧ parseF t = (st, E) ∧ StAt w' w'.heap.size st x ∧ Below w.heap.size w w'
theorem JpPost.none_ {t : ByteArray} {E : Int} {w w' : World} (h : parseF t = (zeroSt, E)) (hb : Below w.heap.size w w') : JpPost t w (.returned (.tuple #[.agg #[.int .i64 0, .slice none 0 0, .slice none 0 0, .slice none 0 0], .int .i64 E])) w' :=
  ⟨zeroSt, nilA, E, rfl, h, zeroAt _ _, hb⟩
/-- On the way: the result's block, the reader, the state's block, its rows. -/
structure PjAt (w0 : World) (G S : Nat) (σ : JS) (st : StateD) (x : StA) (w : World) : Prop where
  rd : JrOk w G σ
  res : Blk w w0.heap.size 26 #[.int .i64 0, .slice none 0 0, .slice none 0 0, .slice none 0 0]
  box : Blk w S 26 (stC st x)
  own : StOwn w (S + 1) st x
  below : Below w0.heap.size w0 w
theorem PjAt.call {w0 w w' : World} {G S : Nat} {σ σ' : JS} {st : StateD} {x : StA} (h : PjAt w0 G S σ st x w) (hr : JrOk w' G σ') (hg : w.grownBy w' (some G)) (h1 : w0.heap.size < G) (h2 : G < S) : PjAt w0 G S σ' st x w' :=
  ⟨hr, grow_blk hg h.res (by omega), grow_blk hg h.box (by omega), h.own.grow hg (by omega), grow_keep h.below hg (by omega)⟩
theorem PjAt.up {w0 w w' : World} {G S : Nat} {σ : JS} {st : StateD} {x : StA} (h : PjAt w0 G S σ st x w) (hb : Below w.heap.size w w') (h1 : w0.heap.size < G) (h2 : G < S) : PjAt w0 G S σ st x w' :=
  h.call (h.rd.up hb) (grow_below G hb) h1 h2
/-- A table laid into the state. -/
theorem PjAt.put {w0 w : World} {G S : Nat} {σ : JS} {st st' : StateD} {x x' : StA} (h : PjAt w0 G S σ st x w) (k : Nat) (v : Value) (he : (stC st x).setIfInBounds k v = stC st' x') (h1 : w0.heap.size < G) (h2 : G < S) (hE1 : 0 < w0.heap.size) (hE2 : 1 < w0.heap.size)
    (ho : StOwn (w.setCell ⟨S, k, none⟩ v) (S + 1) st' x') : PjAt w0 G S σ st' x' (w.setCell ⟨S, k, none⟩ v) :=
  ⟨h.rd.other (grow_set _ _ _ _) (by omega) (by omega) (by omega), grow_blk (grow_set _ _ _ _) h.res (by omega), Blk.eq (Blk.set h.box k v) he, ho, grow_keep h.below (grow_set _ _ _ _) (by omega)⟩
set_option maxRecDepth 100000 in
set_option maxHeartbeats 8000000 in
theorem jparse_any (t : ByteArray) (w : World) (ht : t.size ≤ 9223372036854775807) (hT : Tabs w) (htab : Lib.TabBelow Tryz.prog w.heap.size w "internal/strconv.uint64pow10" .u64 Lib.pow10Tab)
    (hES : ∃ t p, w.cell? ⟨0, 0, none⟩ = some (.iface t p)) (hER : ∃ t p, w.cell? ⟨1, 0, none⟩ = some (.iface t p)) :
    Calls Tryz.prog 4 #[.string t] w (JpPost t w) := by
  have hlS : 0 < w.heap.size := by obtain ⟨a, b, c⟩ := hES; exact block_lt_of_cell c
  have hlR : 1 < w.heap.size := by obtain ⟨a, b, c⟩ := hER; exact block_lt_of_cell c
  have hb1 : Below w.heap.size w (w.alloc (.cells #[.int .i64 0, .slice none 0 0, .slice none 0 0, .slice none 0 0] 26)) := (Below.refl _ _).alloc (Nat.le_refl _) _
  by_cases hl : 60000 < t.size
  · have hd : decide ((60000 : Int) < (t.size : Int)) = true := decide_eq_true (by omega)
    have Hend := Lib.hid (JpPost.none_ (parseF_large hl) hb1)
    clear hT htab hES hER hb1
    go_enter Tryz.func4, Tryz.ntmps4
    go_wp2
    refine bodyPost_ret (v := .tuple #[.agg #[.int .i64 0, .slice none 0 0, .slice none 0 0, .slice none 0 0], .int .i64 2]) (by simp [results, Tryz.results4, go_sem]) rfl ?_
    exact Hend.out
  · have hd : decide ((60000 : Int) < (t.size : Int)) = false := decide_eq_false (by omega)
    have hts : t.size ≤ 60000 := by omega
    obtain ⟨l, hl0⟩ : ∃ l, t.data.toList = l := ⟨_, rfl⟩
    have hll : l.length ≤ 60000 := by rw [← hl0, data_len]; exact hts
    have htl : BA l = t := by rw [← hl0, BA_data]
    have Hbad := Lib.hid (fun (h : (parseS l).2.2 = true ∨ (parseS l).2.1 ≠ [] ∨ checkE (parseS l).1 ≠ 0 ∨ (⟨(printL (parseS l).1).toArray⟩ : ByteArray) ≠ t) (w' : World) (hb : Below w.heap.size w w') => JpPost.none_ (w := w) (w' := w') (parseF_p hl (by rw [hl0]; exact h)) hb)
    have Hok := Lib.hid (fun (st : StateD) (hc : checkE st = 0) (hp : (⟨(printL st).toArray⟩ : ByteArray) = t) => parseF_ok hl hc hp)
    obtain ⟨W2, hW2⟩ : ∃ W2, (w.alloc (.cells #[.int .i64 0, .slice none 0 0, .slice none 0 0, .slice none 0 0] 26)).alloc (.cells #[.string t, .bool false] 34) = W2 := ⟨_, rfl⟩
    have hb2 : Below w.heap.size w W2 := by rw [← hW2]; exact hb1.alloc hb1.size _
    have hG2 : Blk W2 (w.heap.size + 1) 34 #[.string t, .bool false] := by
      have h := heap_alloc_new (w.alloc (.cells #[.int .i64 0, .slice none 0 0, .slice none 0 0, .slice none 0 0] 26)) (.cells #[.string t, .bool false] 34)
      rw [show (w.alloc (.cells #[.int .i64 0, .slice none 0 0, .slice none 0 0, .slice none 0 0] 26)).heap.size = w.heap.size + 1 by simp, hW2] at h
      exact h
    have hR2 : Blk W2 w.heap.size 26 #[.int .i64 0, .slice none 0 0, .slice none 0 0, .slice none 0 0] := by rw [← hW2]; exact Blk.alloc (show Blk _ _ _ _ from heap_alloc_new w _) _
    have hJ2 : JrOk W2 (w.heap.size + 1) (l, false) := by
      refine ⟨by show Blk _ _ _ #[.string (BA l), .bool false]; rw [htl]; exact hG2, ?_, hll⟩
      obtain ⟨a, b, c⟩ := hES
      obtain ⟨a', b', c'⟩ := hER
      exact ⟨⟨a, b, (hb2.cell (p := ⟨0, 0, none⟩) hlS).trans c⟩, ⟨a', b', (hb2.cell (p := ⟨1, 0, none⟩) hlR).trans c'⟩, by omega, by omega⟩
    have HM := Lib.hid (jmust_any (w.heap.size + 1) (l, false) ⟨#[123, 34, 114, 101, 118, 34, 58]⟩ W2 hJ2)
    obtain ⟨σ1, hσ1⟩ : ∃ σ1, mustJ [123, 34, 114, 101, 118, 34, 58] (l, false) = σ1 := ⟨_, rfl⟩
    rw [show mustJ (⟨#[123, 34, 114, 101, 118, 34, 58]⟩ : ByteArray).data.toList (l, false) = σ1 from hσ1] at HM
    have HP := Lib.hid (show parseS l = (⟨(numEnd σ1).1, (elsJ jnJobs jobZ (numEnd σ1).2).1.map jobOfF, (elsJ jnNodes nodeZ (elsJ jnJobs jobZ (numEnd σ1).2).2).1.map nodeOfF, (elsJ jnLeases leaseZ (elsJ jnNodes nodeZ (elsJ jnJobs jobZ (numEnd σ1).2).2).2).1.map leaseOfF⟩, mustJ [125] (elsJ jnLeases leaseZ (elsJ jnNodes nodeZ (elsJ jnJobs jobZ (numEnd σ1).2).2).2).2) from by rw [← hσ1]; rfl)
    have Hb2 := Lib.hid hb2
    have HR2 := Lib.hid hR2
    have HTab := Lib.hid (fun W (hb : Below w.heap.size w W) => hT.below hb)
    have HPow := Lib.hid (fun W (hb : Below w.heap.size w W) => (show Lib.TabBelow Tryz.prog W.heap.size W "internal/strconv.uint64pow10" .u64 Lib.pow10Tab from fun w' h' => htab w' (hb.trans (h'.mono hb.size))))
    have HW2 := Lib.hid hW2
    have Htl := Lib.hid htl
    clear hT htab hES hER hb1 hb2 hG2 hR2 hJ2 hσ1 hl0 hll htl hW2 hl
    go_enter Tryz.func4, Tryz.ntmps4
    go_wp2_with fail
    rw [HW2.out]
    refine Calls.mono HM.out ?_
    rintro e w3 ⟨rfl, hJ3, hg3⟩
    have HN := Lib.hid (jnumber_any (w.heap.size + 1) σ1 w3 hJ3)
    have Hg3 := Lib.hid hg3
    clear hJ3 hg3
    go_wp2_with fail
    refine Calls.mono HN.out ?_
    rintro e w4 ⟨rfl, hJ4, hg4⟩
    obtain ⟨n1, hn1⟩ : ∃ n1, (numEnd σ1).1 = n1 := ⟨_, rfl⟩
    obtain ⟨σ2, hσ2⟩ : ∃ σ2, (numEnd σ1).2 = σ2 := ⟨_, rfl⟩
    rw [hn1, hσ2] at HP
    rw [hσ2] at hJ4
    rw [hn1]
    have hG4 : w.heap.size + 1 < w4.heap.size := hJ4.at_.lt
    have H4 := Lib.hid (show PjAt w (w.heap.size + 1) w4.heap.size σ2 ⟨n1, [], [], []⟩ ⟨none, 0, 0, none, 0, 0, none, 0, 0⟩ (w4.alloc (.cells #[.int .i64 n1, .slice none 0 0, .slice none 0 0, .slice none 0 0] 26)) from by
      have hbb := (Below.refl w4.heap.size w4).alloc (Nat.le_refl _) (.cells #[.int .i64 n1, .slice none 0 0, .slice none 0 0, .slice none 0 0] 26)
      have hgg := grow_trans Hg3.out hg4
      exact ⟨hJ4.up hbb, (grow_blk hgg HR2.out (by omega)).below hbb (by omega), heap_alloc_new w4 _, ⟨World.ownsRow_nil _ _ _ _, World.ownsRow_nil _ _ _ _, World.ownsRow_nil _ _ _ _, rfl, rfl, rfl⟩, (grow_keep Hb2.out hgg (by omega)).trans (hbb.mono (by omega))⟩)
    obtain ⟨S, hS⟩ : ∃ S, w4.heap.size = S := ⟨_, rfl⟩
    obtain ⟨W5, hW5⟩ : ∃ W5, w4.alloc (.cells #[.int .i64 n1, .slice none 0 0, .slice none 0 0, .slice none 0 0] 26) = W5 := ⟨_, rfl⟩
    rw [hS, hW5] at H4
    rw [hS] at hG4
    have HE1 := Lib.hid (els_job (w.heap.size + 1) σ2 jnJobs W5 H4.out.rd (by decide))
    have HW5 := Lib.hid hW5
    have HS := Lib.hid hS
    have hS5 : S < W5.heap.size := H4.out.box.lt
    clear hJ4 hg4 hn1 hσ2 hW5 hS HN HM
    go_wp2_with fail
    rw [HW5.out]
    simp only [HS.out]
    refine Calls.mono HE1.out ?_
    rintro e w6 ⟨a1, m1, c1, rfl, hm1, hmb1, ho1, hr1, hg1⟩
    obtain ⟨js, hjs⟩ : ∃ js, (elsJ jnJobs jobZ σ2).1.map jobOfF = js := ⟨_, rfl⟩
    obtain ⟨σ3, hσ3⟩ : ∃ σ3, (elsJ jnJobs jobZ σ2).2 = σ3 := ⟨_, rfl⟩
    rw [hjs, hσ3] at HP
    rw [hσ3] at hr1
    rw [hjs] at ho1
    have Hok1 := Lib.hid (show _ from by have := els_jobs (name := jnJobs) (σ := σ2) H4.out.rd.len; rw [hjs] at this; exact this)
    have hln1 : js.length = m1 := by rw [← hjs, List.length_map]; exact hm1
    have h6 := H4.out.call hr1 hg1 (by omega) hG4
    have hset1 := grow_set w6 S 1 (.slice a1 m1 c1)
    have H6 := Lib.hid (h6.put (st' := ⟨n1, js, [], []⟩) (x' := ⟨a1, m1, c1, none, 0, 0, none, 0, 0⟩) 1 (.slice a1 m1 c1) rfl (by omega) hG4 hlS hlR
      ⟨ownT_grow (ownT_base ho1 (by omega)) hset1 (by omega), World.ownsRow_nil _ _ _ _, World.ownsRow_nil _ _ _ _, hln1, rfl, rfl⟩)
    have y1 : w6.cell? ⟨S, 1, none⟩ = some (.slice none 0 0) := h6.box.cell 1
    have z1 : w6.frozen? ⟨S, 1, none⟩ = false := h6.box.thaw 1
    have hS6 : S < w6.heap.size := h6.box.lt
    obtain ⟨w7, hw7⟩ : ∃ w7, w6.setCell ⟨S, 1, none⟩ (.slice a1 m1 c1) = w7 := ⟨_, rfl⟩
    rw [hw7] at H6
    have Hw7 := Lib.hid hw7
    have hS7 : S < w7.heap.size := H6.out.box.lt
    have HE2 := Lib.hid (els_node (w.heap.size + 1) σ3 jnNodes w7 H6.out.rd (by decide))
    clear hjs hσ3 hr1 ho1 hg1 h6 hset1 hw7 hm1 HE1
    go_wp2_with fail
    rw [Hw7.out]
    refine Calls.mono HE2.out ?_
    rintro e w8 ⟨a2, m2, c2, rfl, hm2, hmb2, ho2, hr2, hg2⟩
    obtain ⟨ns, hns⟩ : ∃ ns, (elsJ jnNodes nodeZ σ3).1.map nodeOfF = ns := ⟨_, rfl⟩
    obtain ⟨σ4, hσ4⟩ : ∃ σ4, (elsJ jnNodes nodeZ σ3).2 = σ4 := ⟨_, rfl⟩
    rw [hns, hσ4] at HP
    rw [hσ4] at hr2
    rw [hns] at ho2
    have Hok2 := Lib.hid (show _ from by have := els_nodes (name := jnNodes) (σ := σ3) H6.out.rd.len; rw [hns] at this; exact this)
    have hln2 : ns.length = m2 := by rw [← hns, List.length_map]; exact hm2
    have h8 := H6.out.call hr2 hg2 (by omega) hG4
    have hset2 := grow_set w8 S 2 (.slice a2 m2 c2)
    have H8 := Lib.hid (h8.put (st' := ⟨n1, js, ns, []⟩) (x' := ⟨a1, m1, c1, a2, m2, c2, none, 0, 0⟩) 2 (.slice a2 m2 c2) rfl (by omega) hG4 hlS hlR
      ⟨ownT_grow h8.own.j hset2 (by omega), ownT_grow (ownT_base ho2 (by omega)) hset2 (by omega), World.ownsRow_nil _ _ _ _, h8.own.lj, hln2, rfl⟩)
    have y2 : w8.cell? ⟨S, 2, none⟩ = some (.slice none 0 0) := h8.box.cell 2
    have z2 : w8.frozen? ⟨S, 2, none⟩ = false := h8.box.thaw 2
    have hS8 : S < w8.heap.size := h8.box.lt
    obtain ⟨w9, hw9⟩ : ∃ w9, w8.setCell ⟨S, 2, none⟩ (.slice a2 m2 c2) = w9 := ⟨_, rfl⟩
    rw [hw9] at H8
    have Hw9 := Lib.hid hw9
    have hS9 : S < w9.heap.size := H8.out.box.lt
    have HE3 := Lib.hid (els_lease (w.heap.size + 1) σ4 jnLeases w9 H8.out.rd (by decide))
    clear hns hσ4 hr2 ho2 hg2 h8 hset2 hw9 hm2 HE2
    go_wp2_with fail
    rw [Hw9.out]
    refine Calls.mono HE3.out ?_
    rintro e w10 ⟨a3, m3, c3, rfl, hm3, hmb3, ho3, hr3, hg3⟩
    obtain ⟨ls, hls⟩ : ∃ ls, (elsJ jnLeases leaseZ σ4).1.map leaseOfF = ls := ⟨_, rfl⟩
    obtain ⟨σ5, hσ5⟩ : ∃ σ5, (elsJ jnLeases leaseZ σ4).2 = σ5 := ⟨_, rfl⟩
    rw [hls, hσ5] at HP
    rw [hσ5] at hr3
    rw [hls] at ho3
    have Hok3 := Lib.hid (show _ from by have := els_leases (name := jnLeases) (σ := σ4) H8.out.rd.len; rw [hls] at this; exact this)
    have hln3 : ls.length = m3 := by rw [← hls, List.length_map]; exact hm3
    have h10 := H8.out.call hr3 hg3 (by omega) hG4
    have hset3 := grow_set w10 S 3 (.slice a3 m3 c3)
    have H10 := Lib.hid (h10.put (st' := ⟨n1, js, ns, ls⟩) (x' := ⟨a1, m1, c1, a2, m2, c2, a3, m3, c3⟩) 3 (.slice a3 m3 c3) rfl (by omega) hG4 hlS hlR
      ⟨ownT_grow h10.own.j hset3 (by omega), ownT_grow h10.own.n hset3 (by omega), ownT_grow (ownT_base ho3 (by omega)) hset3 (by omega), h10.own.lj, h10.own.ln, hln3⟩)
    have y3 : w10.cell? ⟨S, 3, none⟩ = some (.slice none 0 0) := h10.box.cell 3
    have z3 : w10.frozen? ⟨S, 3, none⟩ = false := h10.box.thaw 3
    have hS10 : S < w10.heap.size := h10.box.lt
    obtain ⟨w11, hw11⟩ : ∃ w11, w10.setCell ⟨S, 3, none⟩ (.slice a3 m3 c3) = w11 := ⟨_, rfl⟩
    rw [hw11] at H10
    have Hw11 := Lib.hid hw11
    have hS11 : S < w11.heap.size := H10.out.box.lt
    have HM2 := Lib.hid (jmust_any (w.heap.size + 1) σ5 ⟨#[125]⟩ w11 H10.out.rd)
    rw [show (⟨#[125]⟩ : ByteArray).data.toList = [125] from rfl] at HM2
    clear hls hσ5 hr3 ho3 hg3 h10 hset3 hw11 hm3 HE3
    go_wp2_with fail
    rw [Hw11.out]
    refine Calls.mono HM2.out ?_
    rintro e w12 ⟨rfl, hJ12, hg12⟩
    obtain ⟨⟨lr, br⟩, hσ6⟩ : ∃ σ6, mustJ [125] σ5 = σ6 := ⟨_, rfl⟩
    rw [hσ6] at hJ12 HP
    have h12 := H10.out.call hJ12 hg12 (by omega) hG4
    have H12 := Lib.hid h12
    have HAt := Lib.hid (show StAt w12 w12.heap.size ⟨n1, js, ns, ls⟩ ⟨a1, m1, c1, a2, m2, c2, a3, m3, c3⟩ from ⟨own_slAt h12.own.j, own_slAt h12.own.n, own_slAt h12.own.l, h12.own.lj, h12.own.ln, h12.own.ll, by show m1 ≤ _; omega, by show m2 ≤ _; omega, by show m3 ≤ _; omega, Hok1.out, Hok2.out, Hok3.out⟩)
    have HB12 := Lib.hid h12.below
    have hRl := h12.res.lt
    have hGl := h12.rd.at_.lt
    have hSl := h12.box.lt
    have hGS : w.heap.size + 1 < S := hG4
    have v1 : w12.cell? ⟨w.heap.size + 1, 1, none⟩ = some (.bool br) := Blk.cell h12.rd.at_ 1
    have v0 : w12.cell? ⟨w.heap.size + 1, 0, none⟩ = some (.string (BA lr)) := Blk.cell h12.rd.at_ 0
    have s0 : w12.cell? ⟨S, 0, none⟩ = some (.int .i64 n1) := h12.box.cell 0
    have s1 : w12.cell? ⟨S, 1, none⟩ = some (.slice a1 m1 c1) := h12.box.cell 1
    have s2 : w12.cell? ⟨S, 2, none⟩ = some (.slice a2 m2 c2) := h12.box.cell 2
    have s3 : w12.cell? ⟨S, 3, none⟩ = some (.slice a3 m3 c3) := h12.box.cell 3
    have r0 : w12.cell? ⟨w.heap.size, 0, none⟩ = some (.int .i64 0) := h12.res.cell 0
    have r1 : w12.cell? ⟨w.heap.size, 1, none⟩ = some (.slice none 0 0) := h12.res.cell 1
    have r2 : w12.cell? ⟨w.heap.size, 2, none⟩ = some (.slice none 0 0) := h12.res.cell 2
    have r3 : w12.cell? ⟨w.heap.size, 3, none⟩ = some (.slice none 0 0) := h12.res.cell 3
    have u0 : w12.frozen? ⟨w.heap.size, 0, none⟩ = false := h12.res.thaw 0
    have u1 : w12.frozen? ⟨w.heap.size, 1, none⟩ = false := h12.res.thaw 1
    have u2 : w12.frozen? ⟨w.heap.size, 2, none⟩ = false := h12.res.thaw 2
    have u3 : w12.frozen? ⟨w.heap.size, 3, none⟩ = false := h12.res.thaw 3
    have Hset := Lib.hid (fun (W : World) (hb : Below w.heap.size w W) => (show Below w.heap.size w ((((W.setCell ⟨w.heap.size, 0, none⟩ (.int .i64 0)).setCell ⟨w.heap.size, 1, none⟩ (.slice none 0 0)).setCell ⟨w.heap.size, 2, none⟩ (.slice none 0 0)).setCell ⟨w.heap.size, 3, none⟩ (.slice none 0 0)) from
      grow_keep (grow_keep (grow_keep (grow_keep hb (grow_set _ _ _ _) (Nat.le_refl _)) (grow_set _ _ _ _) (Nat.le_refl _)) (grow_set _ _ _ _) (Nat.le_refl _)) (grow_set _ _ _ _) (Nat.le_refl _)))
    clear hJ12 hg12 h12 hσ6
    by_cases hbr : br = true
    · subst hbr
      have Hend := Lib.hid (Hbad.out (.inl (by rw [HP.out])) _ (Hset.out _ HB12.out))
      clear HP
      go_wp2
      refine bodyPost_ret (v := .tuple #[.agg #[.int .i64 0, .slice none 0 0, .slice none 0 0, .slice none 0 0], .int .i64 4]) (by simp [results, Tryz.results4, go_sem, *]) rfl ?_
      exact Hend.out
    · have hbf : br = false := by simpa using hbr
      subst hbf
      clear hbr
      by_cases hlr : lr = []
      · subst hlr
        rw [show BA ([] : List UInt8) = ⟨#[]⟩ from rfl] at v0
        obtain ⟨st, hst⟩ : ∃ st : StateD, (⟨n1, js, ns, ls⟩ : StateD) = st := ⟨_, rfl⟩
        have HPs := Lib.hid (show (parseS l).1 = st from by rw [HP.out]; exact hst)
        have Hst := Lib.hid hst
        rw [hst] at HAt
        have HC := Lib.hid (scheck_any st ⟨a1, m1, c1, a2, m2, c2, a3, m3, c3⟩ w12 HAt.out (HTab.out _ HB12.out))
        have Hpr := Lib.hid (fun (hc : checkE st = 0) (W : World) (hA : StAt W W.heap.size st ⟨a1, m1, c1, a2, m2, c2, a3, m3, c3⟩) (hb : Below w.heap.size w W) => printed_any st ⟨a1, m1, c1, a2, m2, c2, a3, m3, c3⟩ W hA hc (HPow.out _ hb))
        have Hrev := Lib.hid (show stC st ⟨a1, m1, c1, a2, m2, c2, a3, m3, c3⟩ = #[.int .i64 n1, .slice a1 m1 c1, .slice a2 m2 c2, .slice a3 m3 c3] from by rw [← hst]; rfl)
        rw [Hrev.out] at HC Hpr
        obtain ⟨E, hE⟩ : ∃ E, checkE st = E := ⟨_, rfl⟩
        rw [hE] at HC
        have HE := Lib.hid hE
        clear hE hst HP
        by_cases hE0 : E = 0
        · subst hE0
          go_wp2_with fail
          refine Calls.mono HC.out ?_
          rintro e w13 ⟨rfl, hb13⟩
          have H13 := Lib.hid (H12.out.up hb13 (by omega) hG4)
          have HA13 := Lib.hid ((HAt.out.below hb13).more hb13.size)
          have hb14 := H13.out.below
          have t0 : w13.cell? ⟨S, 0, none⟩ = some (.int .i64 n1) := H13.out.box.cell 0
          have t1 : w13.cell? ⟨S, 1, none⟩ = some (.slice a1 m1 c1) := H13.out.box.cell 1
          have t2 : w13.cell? ⟨S, 2, none⟩ = some (.slice a2 m2 c2) := H13.out.box.cell 2
          have t3 : w13.cell? ⟨S, 3, none⟩ = some (.slice a3 m3 c3) := H13.out.box.cell 3
          have hS13 : S < w13.heap.size := H13.out.box.lt
          have Hp13 := Lib.hid (Hpr.out HE.out w13 HA13.out hb14)
          clear s0 s1 s2 s3 r0 r1 r2 r3 u0 u1 u2 u3 v0 v1 hb13 hb14 HC
          go_wp2_with fail
          refine Calls.mono Hp13.out ?_
          rintro e w14 ⟨rfl, hb14⟩
          have H14 := Lib.hid (H13.out.up hb14 (by omega) hG4)
          have HA14 := Lib.hid ((HA13.out.below hb14).more hb14.size)
          have HB14 := Lib.hid H14.out.below
          have hR14 := H14.out.res.lt
          have t0 : w14.cell? ⟨S, 0, none⟩ = some (.int .i64 n1) := H14.out.box.cell 0
          have t1 : w14.cell? ⟨S, 1, none⟩ = some (.slice a1 m1 c1) := H14.out.box.cell 1
          have t2 : w14.cell? ⟨S, 2, none⟩ = some (.slice a2 m2 c2) := H14.out.box.cell 2
          have t3 : w14.cell? ⟨S, 3, none⟩ = some (.slice a3 m3 c3) := H14.out.box.cell 3
          have r0 : w14.cell? ⟨w.heap.size, 0, none⟩ = some (.int .i64 0) := H14.out.res.cell 0
          have r1 : w14.cell? ⟨w.heap.size, 1, none⟩ = some (.slice none 0 0) := H14.out.res.cell 1
          have r2 : w14.cell? ⟨w.heap.size, 2, none⟩ = some (.slice none 0 0) := H14.out.res.cell 2
          have r3 : w14.cell? ⟨w.heap.size, 3, none⟩ = some (.slice none 0 0) := H14.out.res.cell 3
          have u0 : w14.frozen? ⟨w.heap.size, 0, none⟩ = false := H14.out.res.thaw 0
          have u1 : w14.frozen? ⟨w.heap.size, 1, none⟩ = false := H14.out.res.thaw 1
          have u2 : w14.frozen? ⟨w.heap.size, 2, none⟩ = false := H14.out.res.thaw 2
          have u3 : w14.frozen? ⟨w.heap.size, 3, none⟩ = false := H14.out.res.thaw 3
          have hS14 : S < w14.heap.size := H14.out.box.lt
          obtain ⟨P, hP⟩ : ∃ P, (⟨(printL st).toArray⟩ : ByteArray) = P := ⟨_, rfl⟩
          rw [hP]
          have HPP := Lib.hid hP
          clear hP hb14 Hp13
          by_cases hpt : P = t
          · subst hpt
            have Hfin := Lib.hid (Hok.out st HE.out HPP.out)
            have hg1 := bes_set (bes_set (bes_set (bes_set (grow_refl w14 w.heap.size) 0 (.int .i64 n1)) 1 (.slice a1 m1 c1)) 2 (.slice a2 m2 c2)) 3 (.slice a3 m3 c3)
            have HO := Lib.hid (H14.out.own.grow hg1 (by omega))
            have HB15 := Lib.hid (grow_keep HB14.out hg1 (Nat.le_refl _))
            have hq := ((((Blk.set H14.out.res 0 (.int .i64 n1)).set 1 (.slice a1 m1 c1)).set 2 (.slice a2 m2 c2)).set 3 (.slice a3 m3 c3))
            have q0 := (show _ = (some (.int .i64 n1) : Option Value) from hq.cell 0)
            have q1 := (show _ = (some (.slice a1 m1 c1) : Option Value) from hq.cell 1)
            have q2 := (show _ = (some (.slice a2 m2 c2) : Option Value) from hq.cell 2)
            have q3 := (show _ = (some (.slice a3 m3 c3) : Option Value) from hq.cell 3)
            clear hg1 hq
            go_wp2
            refine bodyPost_ret (v := .tuple #[.agg #[.int .i64 n1, .slice a1 m1 c1, .slice a2 m2 c2, .slice a3 m3 c3], .int .i64 0]) (by simp [results, Tryz.results4, go_sem, *]) rfl ?_
            exact ⟨st, _, 0, by rw [Hrev.out], Hfin.out, by rw [← Hst.out]; exact ⟨own_slAt HO.out.j, own_slAt HO.out.n, own_slAt HO.out.l, HO.out.lj, HO.out.ln, HO.out.ll, by show m1 ≤ _; omega, by show m2 ≤ _; omega, by show m3 ≤ _; omega, Hok1.out, Hok2.out, Hok3.out⟩, HB15.out⟩
          · have Hend := Lib.hid (Hbad.out (.inr (.inr (.inr (by rw [HPs.out, HPP.out]; exact hpt)))) _ (Hset.out _ HB14.out))
            have hpt2 : (P.toList == t.toList) = false := by
              rw [beq_eq_false_iff_ne]
              exact fun e => hpt (by rw [ByteArray.toList_eq, ByteArray.toList_eq] at e; exact ByteArray.ext (Array.toList_inj.1 e))
            clear hpt
            go_wp2
            refine bodyPost_ret (v := .tuple #[.agg #[.int .i64 0, .slice none 0 0, .slice none 0 0, .slice none 0 0], .int .i64 4]) (by simp [results, Tryz.results4, go_sem, *]) rfl ?_
            exact Hend.out
        · have hne : (E == 0) = false := beq_eq_false_iff_ne.2 hE0
          have hne2 : (E != 0) = true := by simpa using hE0
          have Hb4 := Lib.hid (Hbad.out (.inr (.inr (.inl (by rw [HPs.out, HE.out]; exact hE0)))))
          clear hE0
          go_wp2_with fail
          refine Calls.mono HC.out ?_
          rintro e w13 ⟨rfl, hb13⟩
          have H13 := Lib.hid (H12.out.up hb13 (by omega) hG4)
          have HB13 := Lib.hid H13.out.below
          have hR13 := H13.out.res.lt
          have r0 : w13.cell? ⟨w.heap.size, 0, none⟩ = some (.int .i64 0) := H13.out.res.cell 0
          have r1 : w13.cell? ⟨w.heap.size, 1, none⟩ = some (.slice none 0 0) := H13.out.res.cell 1
          have r2 : w13.cell? ⟨w.heap.size, 2, none⟩ = some (.slice none 0 0) := H13.out.res.cell 2
          have r3 : w13.cell? ⟨w.heap.size, 3, none⟩ = some (.slice none 0 0) := H13.out.res.cell 3
          have u0 : w13.frozen? ⟨w.heap.size, 0, none⟩ = false := H13.out.res.thaw 0
          have u1 : w13.frozen? ⟨w.heap.size, 1, none⟩ = false := H13.out.res.thaw 1
          have u2 : w13.frozen? ⟨w.heap.size, 2, none⟩ = false := H13.out.res.thaw 2
          have u3 : w13.frozen? ⟨w.heap.size, 3, none⟩ = false := H13.out.res.thaw 3
          have Hend := Lib.hid (Hb4.out _ (Hset.out _ HB13.out))
          clear hb13 s0 s1 s2 s3 HC v0 v1
          go_wp2
          refine bodyPost_ret (v := .tuple #[.agg #[.int .i64 0, .slice none 0 0, .slice none 0 0, .slice none 0 0], .int .i64 4]) (by simp [results, Tryz.results4, go_sem, *]) rfl ?_
          exact Hend.out
      · have hz : (BA lr).size ≠ 0 := by rw [BA_size]; exact fun h => hlr (List.length_eq_zero_iff.1 h)
        have hne := isEmpty_no hz
        have hne2 := beq_nil hz
        have Hend := Lib.hid (Hbad.out (.inr (.inl (by rw [HP.out]; exact hlr))) _ (Hset.out _ HB12.out))
        obtain ⟨sr, hsr⟩ : ∃ sr, BA lr = sr := ⟨_, rfl⟩
        rw [hsr] at v0 hne hne2
        clear HP hz hsr hlr
        go_wp2
        refine bodyPost_ret (v := .tuple #[.agg #[.int .i64 0, .slice none 0 0, .slice none 0 0, .slice none 0 0], .int .i64 4]) (by simp [results, Tryz.results4, go_sem, *]) rfl ?_
        exact Hend.out
end Go.Proofs.YtcodhhabfacnjaaGreatDoor
