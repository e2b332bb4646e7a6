/- The walks of Fits, in the program and in the reference. -/
import Derived.Test.YtbbagnfmoecdfaaDoorStTop
set_option linter.unusedVariables false
set_option linter.unusedSimpArgs false
namespace Go.Proofs.YtbbagnfmoecdfaaDoor
open Go.RowKit
def okJ (v : Int) (j : JobD) : Bool := (decide (2 < v) || decide (j.tag.size = 0)) && (decide (1 < v) || decide (j.tries = 0))
def okN (v : Int) (n : NodeD) : Bool := decide (1 < v) || decide (n.zone.size = 0)
def fitsE (st : StateD) (v : Int) : Bool := (decide (v = 3) || decide (st.rev = 0)) && st.jobs.all (okJ v) && st.nodes.all (okN v)
def fitsF (st : StateD) (v : Int) : Bool × Int := if checkE st ≠ 0 then (false, checkE st) else if ranged v 1 3 = false then (false, 1) else (fitsE st v, 0)
def FtPost (st : StateD) (v : Int) (w : World) (e : Ending) (w' : World) : Prop := e = .returned (.tuple #[.bool (fitsF st v).1, .int .i64 (fitsF st v).2]) ∧ Below w.heap.size w w'
theorem FtPost.mk' {st : StateD} {v : Int} {w w' : World} {a : Bool} {b : Int} (h : fitsF st v = (a, b)) (hb : Below w.heap.size w w') : FtPost st v w (.returned (.tuple #[.bool a, .int .i64 b])) w' := ⟨by rw [h], hb⟩
theorem all_step {α : Type} {p : α → Bool} {l : List α} {k : Nat} {x : α} (h : l[k]? = some x) : (l.take (k + 1)).all p = ((l.take k).all p && p x) := by
  rw [take_snoc h, List.all_append]; simp
def FJInv (st : StateD) (x : StA) (v : Int) (b0 : Bool) (w : World) (n : Nat) (f i : Value) (wr : World) : Prop :=
  ∃ k : Nat, k ≤ n ∧ i = .int .i64 k ∧ f = .bool (b0 && (st.jobs.take k).all (okJ v)) ∧ Below w.heap.size w wr ∧ Blk wr w.heap.size 26 (stC st x)
def FNInv (st : StateD) (x : StA) (v : Int) (b0 : Bool) (w : World) (n : Nat) (f i : Value) (wr : World) : Prop :=
  ∃ k : Nat, k ≤ n ∧ i = .int .i64 k ∧ f = .bool (b0 && (st.nodes.take k).all (okN v)) ∧ Below w.heap.size w wr ∧ Blk wr w.heap.size 26 (stC st x)
theorem okJ_eq {v : Int} {j : JobD} {a b p q : Bool} (ht : decide (j.tag.size = 0) = a) (hr : decide (j.tries = 0) = b) (h1 : decide (1 < v) = p) (h2 : decide (2 < v) = q) : okJ v j = ((q || a) && (p || b)) := by unfold okJ; rw [ht, hr, h1, h2]
theorem okN_eq {v : Int} {n : NodeD} {a p : Bool} (ht : decide (n.zone.size = 0) = a) (h1 : decide (1 < v) = p) : okN v n = (p || a) := by unfold okN; rw [ht, h1]
theorem ranged_v {v : Int} (h : ranged v 1 3 = true) : v = 1 ∨ v = 2 ∨ v = 3 := by have := ranged_iff.1 h; omega
set_option maxRecDepth 100000 in
set_option maxHeartbeats 4000000 in
theorem fits_any (st : StateD) (x : StA) (v : Int) (w : World) (hS : StAt w w.heap.size st x) (hT : Tabs w) :
    Calls Tryd.prog 19 #[.agg (stC st x), .int .i64 v] w (FtPost st v w) := by
  have HS := Lib.hid hS
  have hb1 : Below w.heap.size w (w.alloc (.cells (stC st x) 26)) := (Below.refl _ _).alloc (Nat.le_refl _) _
  have hB1 : Blk (w.alloc (.cells (stC st x) 26)) w.heap.size 26 (stC st x) := heap_alloc_new w _
  have hC := Lib.hid (scheck_any st x _ ((hS.below hb1).more hb1.size) (hT.below hb1))
  have Hb1 := Lib.hid hb1
  have HB1 := Lib.hid hB1
  have hfin := Lib.hid (fun a b (h : fitsF st v = (a, b)) w' => FtPost.mk' (w := w) (w' := w') h)
  have hval : fitsF st v = if checkE st ≠ 0 then (false, checkE st) else if ranged v 1 3 = false then (false, 1) else (fitsE st v, 0) := rfl
  have Hval := Lib.hid hval
  clear hb1 hB1 hS hT hval
  obtain ⟨rev, jobs, nodes, leases⟩ := st
  obtain ⟨aj, nj, cj, an, nn, cn, al, nl, cl⟩ := x
  simp only [stC] at *
  go_enter Tryd.func19, Tryd.ntmps19
  go_wp2_with fail
  refine Calls.mono hC.out ?_
  rintro e w1 ⟨rfl, hb⟩
  have Hb := Lib.hid (Hb1.out.trans (hb.mono Hb1.out.size))
  have HB := Lib.hid (HB1.out.below hb HB1.out.lt)
  clear hb hC HB1
  obtain ⟨E, hE⟩ : ∃ E, checkE ⟨rev, jobs, nodes, leases⟩ = E := ⟨_, rfl⟩
  rw [hE] at Hval ⊢
  by_cases he : E = 0
  rotate_left
  · have hend := Lib.hid (hfin.out false E (by rw [Hval.out, if_pos he]) _ Hb.out)
    have e1 : (E == 0) = false := beq_eq_false_iff_ne.2 he
    have e2 : (E != 0) = true := bne_iff_ne.2 he
    go_wp2
    go_ret2
    exact hend.out
  subst he
  go_wp2_with fail
  refine Calls.mono (swithin_any _ _ _ _) ?_
  rintro e w2 ⟨rfl, rfl⟩
  cases hr : ranged v 1 3
  · have hend := Lib.hid (hfin.out false 1 (by rw [Hval.out, if_neg (by simp), if_pos hr]) _ Hb.out)
    go_wp2
    go_ret2
    exact hend.out
  have Hfit := Lib.hid (show fitsF ⟨rev, jobs, nodes, leases⟩ v = (fitsE ⟨rev, jobs, nodes, leases⟩ v, 0) by rw [Hval.out, if_neg (by simp), if_neg (by rw [hr]; simp)])
  have hlj := HS.out.lj
  have hln := HS.out.ln
  have hbj := HS.out.bj
  have hbn := HS.out.bn
  simp only at hlj hln hbj hbn
  have y0 : w1.cell? ⟨w.heap.size, 0, none⟩ = some (.int .i64 rev) := HB.out.cell 0
  have y1 : w1.cell? ⟨w.heap.size, 1, none⟩ = some (.slice aj nj cj) := HB.out.cell 1
  obtain ⟨b0, hb0⟩ : ∃ b0, (decide (v = 3) || decide (rev = 0)) = b0 := ⟨_, rfl⟩
  have HFE := Lib.hid (show fitsE ⟨rev, jobs, nodes, leases⟩ v = (b0 && jobs.all (okJ v) && nodes.all (okN v)) by unfold fitsE; rw [← hb0])
  have hv3 := ranged_v hr
  clear hr Hval hE
  have hend0 := Lib.hid (fun f w' (h : f = fitsE ⟨rev, jobs, nodes, leases⟩ v) => hfin.out f 0 (by rw [Hfit.out, h]) w')
  clear hfin Hfit
  have hd : (decide (1 < v) = false ∧ decide (2 < v) = false ∧ (v == 3) = false) ∨ (decide (1 < v) = true ∧ decide (2 < v) = false ∧ (v == 3) = false) ∨ (decide (1 < v) = true ∧ decide (2 < v) = true ∧ (v == 3) = true) := by
    rcases hv3 with rfl | rfl | rfl
    · exact .inl ⟨rfl, rfl, rfl⟩
    · exact .inr (.inl ⟨rfl, rfl, rfl⟩)
    · exact .inr (.inr ⟨rfl, rfl, rfl⟩)
  have hb3 : (v == 3) = decide (v = 3) := by by_cases h : v = 3 <;> simp [h]
  have hr0 : (rev == 0) = decide (rev = 0) := by by_cases h : rev = 0 <;> simp [h]
  rw [← hb3, ← hr0] at hb0
  clear hb3 hr0 hv3
  obtain ⟨z, hz⟩ : ∃ z, (rev == 0) = z := ⟨_, rfl⟩
  rw [hz] at hb0
  rcases hd with ⟨d1, d2, d3⟩ | ⟨d1, d2, d3⟩ | ⟨d1, d2, d3⟩
  all_goals rw [d3] at hb0
  all_goals cases z
  all_goals simp only [Bool.or_true, Bool.or_false, Bool.true_or, Bool.false_or] at hb0
  all_goals have HB0 := Lib.hid hb0
  all_goals clear hb0
  all_goals go_wp2
  all_goals clear y0 y1 hz d3
  all_goals (
    go_loopw [7, 9, 30] (fun f _ i wr => FJInv ⟨rev, jobs, nodes, leases⟩ ⟨aj, nj, cj, an, nn, cn, al, nl, cl⟩ v b0 w nj f i wr) (fun _ _ i _ => nj - (intOf i).toNat)
    case atStart => exact ⟨0, Nat.zero_le _, rfl, by rw [← HB0.out]; simp, Hb.out, HB.out⟩
    case round =>
      clear Hb HB
      obtain ⟨k, hk, rfl, rfl, hb, hB⟩ := hrel
      have Hb := Lib.hid hb
      have HB := Lib.hid hB
      have hsz := hb.size
      by_cases hlt : k < nj
      · obtain ⟨y, hf⟩ : ∃ y, jobs[k]? = some y := ⟨_, List.getElem?_eq_getElem (by omega)⟩
        obtain ⟨b, off, hao, hbB, hc⟩ := (HS.out.j.below hb).rec_ jobV_len hlj hf
        have hstep := Lib.hid (all_step (p := okJ v) hf)
        simp only at hao
        subst hao
        obtain ⟨name, prio, need, tries, tag⟩ := y
        have c0 : wr.cell? ⟨b, off + k * 5, none⟩ = some (.string name) := hc 0 _ rfl
        have c1 : wr.cell? ⟨b, off + k * 5 + 1, none⟩ = some (.int .i64 prio) := hc 1 _ rfl
        have c2 : wr.cell? ⟨b, off + k * 5 + 2, none⟩ = some (.int .i64 need) := hc 2 _ rfl
        have c3 : wr.cell? ⟨b, off + k * 5 + 3, none⟩ = some (.int .i64 tries) := hc 3 _ rfl
        have c4 : wr.cell? ⟨b, off + k * 5 + 4, none⟩ = some (.string tag) := hc 4 _ rfl
        have hlb : b < wr.heap.size := by omega
        have hba := Lib.hid (Hb.out.alloc Hb.out.size (.cells #[.string name, .int .i64 prio, .int .i64 need, .int .i64 tries, .string tag] 49))
        have hBa := Lib.hid (HB.out.alloc (.cells #[.string name, .int .i64 prio, .int .i64 need, .int .i64 tries, .string tag] 49))
        clear hc hf hb hB
        obtain ⟨B, hBB⟩ : ∃ B, (b0 && (jobs.take k).all (okJ v)) = B := ⟨_, rfl⟩
        have HBB := Lib.hid hBB
        simp only [hBB]
        clear hBB
        by_cases htag : tag.size = 0
        · have hoka := Lib.hid (fun (b : Bool) (h : decide (tries = 0) = b) => okJ_eq (j := ⟨name, prio, need, tries, tag⟩) (decide_eq_true htag) h d1 d2)
          obtain rfl := empty_of htag
          by_cases htr : tries = 0
          · have e2 : (tries == 0) = true := beq_iff_eq.2 htr
            have hokv := Lib.hid (hoka.out true (decide_eq_true htr))
            subst htr
            clear hoka
            cases B
            all_goals go_wp2
            all_goals go_roundw
            all_goals (first
              | exact ⟨k + 1, by omega, by go_num, by rw [hstep.out, ← Bool.and_assoc, HBB.out, hokv.out]; rfl, hba.out, hBa.out⟩
              | (simp [intOf]; omega))
          · have e2 : (tries == 0) = false := beq_eq_false_iff_ne.2 htr
            have hokv := Lib.hid (hoka.out false (decide_eq_false htr))
            cases B
            all_goals go_wp2
            all_goals go_roundw
            all_goals (first
              | exact ⟨k + 1, by omega, by go_num, by rw [hstep.out, ← Bool.and_assoc, HBB.out, hokv.out]; rfl, hba.out, hBa.out⟩
              | (simp [intOf]; omega))
        · have hoka := Lib.hid (fun (b : Bool) (h : decide (tries = 0) = b) => okJ_eq (j := ⟨name, prio, need, tries, tag⟩) (decide_eq_false htag) h d1 d2)
          have e1 := beq_nil htag
          have e1' := beq_empty htag
          by_cases htr : tries = 0
          · have e2 : (tries == 0) = true := beq_iff_eq.2 htr
            have hokv := Lib.hid (hoka.out true (decide_eq_true htr))
            subst htr
            clear hoka
            cases B
            all_goals go_wp2
            all_goals go_roundw
            all_goals (first
              | exact ⟨k + 1, by omega, by go_num, by rw [hstep.out, ← Bool.and_assoc, HBB.out, hokv.out]; rfl, hba.out, hBa.out⟩
              | (simp [intOf]; omega))
          · have e2 : (tries == 0) = false := beq_eq_false_iff_ne.2 htr
            have hokv := Lib.hid (hoka.out false (decide_eq_false htr))
            cases B
            all_goals go_wp2
            all_goals go_roundw
            all_goals (first
              | exact ⟨k + 1, by omega, by go_num, by rw [hstep.out, ← Bool.and_assoc, HBB.out, hokv.out]; rfl, hba.out, hBa.out⟩
              | (simp [intOf]; omega))
      · have htk : jobs.take k = jobs := List.take_of_length_le (by omega)
        obtain ⟨b1, hb1⟩ : ∃ b1, (b0 && jobs.all (okJ v)) = b1 := ⟨_, rfl⟩
        have HB1 := Lib.hid hb1
        have y2 : wr.cell? ⟨w.heap.size, 2, none⟩ = some (.slice an nn cn) := HB.out.cell 2
        simp only [htk, hb1]
        clear hb1 htk hb hB
        go_wp2
        clear y2
        go_loopw [7, 11, 57] (fun f _ i wr => FNInv ⟨rev, jobs, nodes, leases⟩ ⟨aj, nj, cj, an, nn, cn, al, nl, cl⟩ v b1 w nn f i wr) (fun _ _ i _ => nn - (intOf i).toNat)
        case atStart => exact ⟨0, Nat.zero_le _, rfl, by simp, Hb.out, HB.out⟩
        case round =>
          clear Hb HB
          obtain ⟨q, hq, rfl, rfl, hb, hB⟩ := hrel
          have Hb := Lib.hid hb
          have HB := Lib.hid hB
          have hsz := hb.size
          by_cases hltq : q < nn
          · obtain ⟨y, hf⟩ : ∃ y, nodes[q]? = some y := ⟨_, List.getElem?_eq_getElem (by omega)⟩
            obtain ⟨b, off, hao, hbB, hc⟩ := (HS.out.n.below hb).rec_ nodeV_len hln hf
            have hstep := Lib.hid (all_step (p := okN v) hf)
            simp only at hao
            subst hao
            obtain ⟨name, room, zone⟩ := y
            have c0 : wr.cell? ⟨b, off + q * 3, none⟩ = some (.string name) := hc 0 _ rfl
            have c1 : wr.cell? ⟨b, off + q * 3 + 1, none⟩ = some (.int .i64 room) := hc 1 _ rfl
            have c2 : wr.cell? ⟨b, off + q * 3 + 2, none⟩ = some (.string zone) := hc 2 _ rfl
            have hlb : b < wr.heap.size := by omega
            have hba := Lib.hid (Hb.out.alloc Hb.out.size (.cells #[.string name, .int .i64 room, .string zone] 54))
            have hBa := Lib.hid (HB.out.alloc (.cells #[.string name, .int .i64 room, .string zone] 54))
            clear hc hf hb hB
            obtain ⟨B, hBB⟩ : ∃ B, (b1 && (nodes.take q).all (okN v)) = B := ⟨_, rfl⟩
            have HBB := Lib.hid hBB
            simp only [hBB]
            clear hBB
            by_cases htag : zone.size = 0
            · have hokv := Lib.hid (okN_eq (n := ⟨name, room, zone⟩) (decide_eq_true htag) d1)
              obtain rfl := empty_of htag
              cases B
              all_goals go_wp2
              all_goals go_roundw
              all_goals (first
                | exact ⟨q + 1, by omega, by go_num, by rw [hstep.out, ← Bool.and_assoc, HBB.out, hokv.out]; rfl, hba.out, hBa.out⟩
                | (simp [intOf]; omega))
            · have hokv := Lib.hid (okN_eq (n := ⟨name, room, zone⟩) (decide_eq_false htag) d1)
              have e1 := beq_nil htag
              have e1' := beq_empty htag
              cases B
              all_goals go_wp2
              all_goals go_roundw
              all_goals (first
                | exact ⟨q + 1, by omega, by go_num, by rw [hstep.out, ← Bool.and_assoc, HBB.out, hokv.out]; rfl, hba.out, hBa.out⟩
                | (simp [intOf]; omega))
          · have htk : nodes.take q = nodes := List.take_of_length_le (by omega)
            have hend := Lib.hid (hend0.out (b1 && nodes.all (okN v)) wr (by rw [HFE.out, HB1.out]) Hb.out)
            simp only [htk]
            clear htk hb hB
            go_wp2
            go_ret2
            exact hend.out)
end Go.Proofs.YtbbagnfmoecdfaaDoor
