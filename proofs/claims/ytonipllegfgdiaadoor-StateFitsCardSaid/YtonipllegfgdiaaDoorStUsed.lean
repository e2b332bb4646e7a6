/- The walk of state.Used. -/
import Derived.Test.YtonipllegfgdiaaDoorStTop
namespace Go.Proofs.YtonipllegfgdiaaDoor
open Go.RowKit
def sUsed (st : StateD) (s : ByteArray) : Int × Int := if checkE st ≠ 0 then (0, checkE st) else if (nodeOf st.nodes s).isSome = true then (usedE st s, 0) else (0, 6)
def SUPost (st : StateD) (s : ByteArray) (w : World) (e : Ending) (w' : World) : Prop := e = .returned (.tuple #[.int .i64 (sUsed st s).1, .int .i64 (sUsed st s).2]) ∧ Below w.heap.size w w'
theorem SUPost.mk' {st : StateD} {s : ByteArray} {w w' : World} {a b : Int} (h : sUsed st s = (a, b)) (hb : Below w.heap.size w w') : SUPost st s w (.returned (.tuple #[.int .i64 a, .int .i64 b])) w' := ⟨by rw [h], hb⟩
set_option maxRecDepth 100000 in
set_option maxHeartbeats 1000000 in
theorem sused_any (st : StateD) (x : StA) (s : ByteArray) (w : World) (hS : StAt w w.heap.size st x) (hT : Tabs w) (hs : s.size ≤ maxLen) :
    Calls Tryd.prog 11 #[.agg (stC st x), .string s] w (SUPost st s w) := by
  have hb1 : Below w.heap.size w (w.alloc (.cells (stC st x) 26)) := (Below.refl _ _).alloc (Nat.le_refl _) _
  have hC := Lib.hid (check_any st x _ ((hS.below hb1).more hb1.size) (hT.below hb1))
  have Hb1 := Lib.hid hb1
  have hfin := Lib.hid (fun a b (h : sUsed st s = (a, b)) w' => SUPost.mk' (w := w) (w' := w') h)
  clear hb1 hS hT
  obtain ⟨rev, jobs, nodes, leases⟩ := st
  obtain ⟨aj, nj, cj, an, nn, cn, al, nl, cl⟩ := x
  simp only [stC] at *
  go_enter Tryd.func11, Tryd.ntmps11
  go_wp2_with fail
  refine Calls.mono hC.out ?_
  rintro e w1 ⟨hb, hcase⟩
  have Hb := Lib.hid (Hb1.out.trans (hb.mono Hb1.out.size))
  clear hb hC
  rcases hcase with ⟨hE, rfl⟩ | ⟨hE, T, b1, b2, b3, n1, n2, n3, g3, rfl, ht, hu⟩
  · have hend := Lib.hid (hfin.out 0 (checkE ⟨rev, jobs, nodes, leases⟩) (by unfold sUsed; rw [if_pos hE]) _ Hb.out)
    generalize checkE ⟨rev, jobs, nodes, leases⟩ = E at hE hend ⊢
    have e1 : (E == 0) = false := beq_eq_false_iff_ne.2 hE
    have e2 : (E != 0) = true := bne_iff_ne.2 hE
    go_wp2
    go_ret2
    exact hend.out
  · obtain ⟨n, hn1, hn2⟩ := nodeG_look nodes s
    have z1 : w1.cell? ⟨T, 1, none⟩ = some (.map (some b2)) := ht.t.cell 1
    have r0 := ht.m2.look_ok Tryd.underlying63 (zeroNode w1) s hs
    rw [hn1, hn2] at r0
    obtain ⟨nn', nr, nz⟩ := n
    have hb2 := (Below.refl w1.heap.size w1).alloc (Nat.le_refl _) (.cells #[.string nn', .int .i64 nr, .string nz] 60)
    have z2 : (w1.alloc (.cells #[.string nn', .int .i64 nr, .string nz] 60)).cell? ⟨T, 2, none⟩ = some (.map (some b3)) := (ht.t.below hb2 ht.t.lt).cell 2
    have r1 := (ht.m3.below hb2 ht.m3.lt).look Tryd.underlying64 (zeroInt _) s hs
    rw [hu s] at r1
    have HB2 := Lib.hid (Hb.out.trans (hb2.mono Hb.out.size))
    have hTl := ht.t.lt
    have hval := Lib.hid (show sUsed ⟨rev, jobs, nodes, leases⟩ s = if (nodeOf nodes s).isSome = true then (usedE ⟨rev, jobs, nodes, leases⟩ s, 0) else (0, 6) by unfold sUsed; rw [if_neg (by simp [hE])])
    generalize usedE ⟨rev, jobs, nodes, leases⟩ s = U at r1 hval
    generalize (nodeOf nodes s).isSome = bn at r0 hval hn2
    clear ht hu hb2 hn1
    cases bn
    · have hend := Lib.hid (hfin.out 0 6 (by rw [hval.out]; rfl) _ HB2.out)
      clear r1
      go_wp2
      go_ret2
      exact hend.out
    · have hend := Lib.hid (hfin.out U 0 (by rw [hval.out]; rfl) _ HB2.out)
      go_wp2
      go_ret2
      exact hend.out
end Go.Proofs.YtonipllegfgdiaaDoor
