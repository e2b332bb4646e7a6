/- Of the proof of a statement: RJ1. -/
import Derived.Test.YtcodhhabfacnjaaGreatDoorSRJ1a
set_option linter.unusedVariables false
set_option linter.unusedSimpArgs false
/- The walk of the closure in the reference's JSONParse. -/
namespace Go.Proofs.YtcodhhabfacnjaaGreatDoor
open Go.RowKit
theorem rj_until {α : Type} {p : ByteArray → RR α} {n : Nat} {acc : List α} {s : ByteArray} {T : RR (List α)} (h : untilR p (n + 1) acc s = T) (hb : hasR ⟨#[93]⟩ s = false) : ((commaR acc.length s).bind fun _ s => (p s).bind fun a s => untilR p n (acc ++ [a]) s) = T := by
  rw [untilR, if_neg (by rw [hb]; simp)] at h; exact h
theorem rj_done {α : Type} {p : ByteArray → RR α} {n : Nat} {acc : List α} {s : ByteArray} {T : RR (List α)} (h : untilR p (n + 1) acc s = T) (hb : hasR ⟨#[93]⟩ s = true) : T = .ok acc (s.extract 1 s.size) := by
  rw [untilR, if_pos hb] at h; exact h.symm
def RjInv {α : Type} (p : ByteArray → RR α) (mk : List α → StateD) (W0 : World) (g S : Nat) (T : RR (List α)) (i : Value) (wr : World) : Prop :=
  ∃ (k : Nat) (l : List α) (x : StA) (s : ByteArray) (n : Nat), i = .int .i64 k ∧ l.length = k ∧ JcAt W0 g S (mk l) x s wr ∧ untilR p n l s = T ∧ s.size < n ∧ k + s.size ≤ 60000
theorem comma_shr (i : Nat) (s : ByteArray) : Shr s.size (commaR i s) := by
  unfold commaR; split
  · exact mustR_shr _ _
  · exact Shr.ok _ _
set_option maxRecDepth 100000 in
set_option maxHeartbeats 32000000 in
theorem rj1_any (g S : Nat) (b : ByteArray) (w : World) (hx : SxAt w g b) (hS : Blk w S 26 #[.int .i64 0, .slice none 0 0, .slice none 0 0, .slice none 0 0]) (hSg : S ≠ g) (hb : b.size ≤ 60000) :
    Calls Tryz.prog 18 #[.pointer (some ⟨g, 0, none⟩), .pointer (some ⟨S, 0, none⟩)] w (JcPost g S (stateR b) w) := by
  have hgW := hx.1.lt
  have hSW := hS.lt
  have H0 := Lib.hid (show JcAt w g S ⟨0, [], [], []⟩ ⟨none, 0, 0, none, 0, 0, none, 0, 0⟩ b w from ⟨hx, hS, ⟨World.ownsRow_nil _ _ _ _, World.ownsRow_nil _ _ _ _, World.ownsRow_nil _ _ _ _, rfl, rfl, rfl⟩, Two.refl w g S, (fun _ h => by cases h), (fun _ h => by cases h), (fun _ h => by cases h), hb, by decide, by decide, by decide⟩)
  obtain ⟨R, hR⟩ : ∃ R, stateR b = R := ⟨_, rfl⟩
  have E0 := Lib.hid hR
  unfold stateR at E0
  rw [hR]
  obtain ⟨W0, hW0⟩ : ∃ W0, W0 = w := ⟨_, rfl⟩
  have HW0 := Lib.hid (show JcAt W0 g S ⟨0, [], [], []⟩ ⟨none, 0, 0, none, 0, 0, none, 0, 0⟩ b w from by rw [hW0]; exact H0.out)
  have hgW : g < W0.heap.size := by rw [hW0]; exact hgW
  have hSW : S < W0.heap.size := by rw [hW0]; exact hSW
  have HWw := Lib.hid hW0
  clear H0 hR hx hS hb hW0
  have H0 := HW0
  go_enter Tryz.func18, Tryz.ntmps18
  have HC1 := Lib.hid (smust g b kRev w H0.out.sx)
  rcases hr1 : mustR kRev b with ⟨v1, s1⟩ | y1
  rotate_left
  · have Hr1 := Lib.hid hr1
    have HR1 := Lib.hid ((bad_here E0.out hr1))
    clear hr1
    go_wp2_with fail
    skip
    refine Calls.mono HC1.out ?_
    intro e w1 hp
    obtain ⟨rfl, hg1⟩ := hp.bad Hr1.out
    have HF1 := Lib.hid (show JcPost g S R w (thrown y1) w1 from by rw [← HWw.out]; exact JcPost.bad HR1.out (H0.out.lost hg1 hgW hSg))
    clear hp hg1
    unfold thrown
    go_wp2
    exact ⟨rfl, HF1.out⟩
  have Hr1 := Lib.hid hr1
  have HE1 := Lib.hid (ok_here E0.out hr1)
  have hz1 : s1.size ≤ 60000 := Nat.le_trans (mustR_shr _ _ v1 s1 hr1) H0.out.sz
  clear hr1
  go_wp2_with fail
  skip
  refine Calls.mono HC1.out ?_
  intro e w1 hp
  obtain ⟨rfl, hx1, hg1⟩ := hp.ok Hr1.out
  have H1 := Lib.hid (H0.out.call hx1 hg1 hz1 hgW hSg)
  clear hp hx1 hg1 HC1
  have HC2 := Lib.hid (sdigits g s1 w1 H1.out.sx)
  rcases hr2 : digR s1 with ⟨v2, s2⟩ | y2
  rotate_left
  · have Hr2 := Lib.hid hr2
    have HR2 := Lib.hid ((bad_here HE1.out hr2))
    clear hr2
    go_wp2_with fail
    skip
    refine Calls.mono HC2.out ?_
    intro e w2 hp
    obtain ⟨rfl, hg2⟩ := hp.bad Hr2.out
    have HF2 := Lib.hid (show JcPost g S R w (thrown y2) w2 from by rw [← HWw.out]; exact JcPost.bad HR2.out (H1.out.lost hg2 hgW hSg))
    clear hp hg2
    unfold thrown
    go_wp2
    exact ⟨rfl, HF2.out⟩
  have Hr2 := Lib.hid hr2
  have HE2 := Lib.hid (ok_here HE1.out hr2)
  have hz2 : s2.size ≤ 60000 := Nat.le_trans (digR_shr _ v2 s2 hr2) H1.out.sz
  have hq2 := digR_int hr2
  clear hr2
  go_wp2_with fail
  skip
  refine Calls.mono HC2.out ?_
  intro e w2 hp
  obtain ⟨rfl, hx2, hg2⟩ := hp.ok Hr2.out
  have H2 := Lib.hid (H1.out.call hx2 hg2 hz2 hgW hSg)
  clear hp hx2 hg2 HC2
  have y3 : w2.cell? ⟨S, 0, none⟩ = some (.int .i64 0) := H2.out.box.cell 0
  have z3 : w2.frozen? ⟨S, 0, none⟩ = false := H2.out.box.thaw 0
  have hl3 : S < w2.heap.size := H2.out.box.lt
  have H3 := Lib.hid (H2.out.setRev v2 hSW hSg)
  obtain ⟨w3, hw3⟩ : ∃ q, w2.setCell ⟨S, 0, none⟩ (.int .i64 v2) = q := ⟨_, rfl⟩
  rw [hw3] at H3
  have Hw3 := Lib.hid hw3
  clear hw3
  have HC4 := Lib.hid (smust g s2 kJobs w3 H3.out.sx)
  rcases hr4 : mustR kJobs s2 with ⟨v4, s4⟩ | y4
  rotate_left
  · have Hr4 := Lib.hid hr4
    have HR4 := Lib.hid ((bad_here HE2.out hr4))
    clear hr4
    go_wp2_with fail
    rw [Hw3.out]
    refine Calls.mono HC4.out ?_
    intro e w4 hp
    obtain ⟨rfl, hg4⟩ := hp.bad Hr4.out
    have HF4 := Lib.hid (show JcPost g S R w (thrown y4) w4 from by rw [← HWw.out]; exact JcPost.bad HR4.out (H3.out.lost hg4 hgW hSg))
    clear hp hg4
    unfold thrown
    go_wp2
    exact ⟨rfl, HF4.out⟩
  have Hr4 := Lib.hid hr4
  have HE4 := Lib.hid (ok_here HE2.out hr4)
  have hz4 : s4.size ≤ 60000 := Nat.le_trans (mustR_shr _ _ v4 s4 hr4) H3.out.sz
  clear hr4
  go_wp2_with fail
  rw [Hw3.out]
  refine Calls.mono HC4.out ?_
  intro e w4 hp
  obtain ⟨rfl, hx4, hg4⟩ := hp.ok Hr4.out
  have H4 := Lib.hid (H3.out.call hx4 hg4 hz4 hgW hSg)
  clear hp hx4 hg4 HC4
  obtain ⟨T5, hT5⟩ : ∃ T, elsR jobR s4 = T := ⟨_, rfl⟩
  have HT5 := Lib.hid (show T5.bind _ = R from by rw [← hT5]; exact HE4.out)
  have HU5 := Lib.hid (show untilR jobR (s4.size + 1) [] s4 = T5 from hT5)
  clear hT5
  go_wp2_with fail
  go_loopw [3] (fun i wr => RjInv jobR (fun l => ⟨v2, l, [], []⟩) W0 g S T5 i wr) (fun _ wr => sxM g wr)
  case atStart => exact ⟨0, [], _, s4, _, rfl, rfl, H4.out, HU5.out, Nat.lt_succ_self _, by have := H4.out.sz; omega⟩
  case round =>
    clear H4 HU5
    obtain ⟨k, l5, ⟨aj, nj, cj, an, nn, cn, al, nl, cl⟩, s, N, rfl, hlen, hc, hu, hlt, hks⟩ := hrel
    obtain ⟨m, rfl⟩ : ∃ m, N = m + 1 := ⟨N - 1, by omega⟩
    have HQ5 := Lib.hid hc
    have Hm5 := Lib.hid (sxM_at hc.sx)
    obtain ⟨M5, hM5⟩ : ∃ M, sxM g wr = M := ⟨_, rfl⟩
    rw [hM5] at Hm5 ⊢
    have HK5 := Lib.hid (sskip g s ⟨#[93]⟩ wr hc.sx)
    have Hu5 := Lib.hid hu
    have Hlen5 := Lib.hid hlen
    clear hc hu hM5 hlen
    cases h93 : hasR ⟨#[93]⟩ s with
    | true =>
      have HD5 := Lib.hid (rj_done Hu5.out h93)
      have hcz := cut_size s 1
      rw [h93, skipS_yes h93] at HK5
      clear h93
      go_wp2_with fail
      refine Calls.mono HK5.out ?_
      rintro e w5x ⟨rfl, hx, hg⟩
      have hx : SxAt w5x g (s.extract 1 s.size) := hx
      have HX5 := Lib.hid (HQ5.out.call hx hg (by rw [hcz]; have := HQ5.out.sz; omega) hgW hSg)
      obtain ⟨s5x, hs5x⟩ : ∃ q, s.extract 1 s.size = q := ⟨_, rfl⟩
      rw [hs5x] at HX5 HD5
      have HEx5 := Lib.hid (ok_here HT5.out HD5.out)
      clear hx hg hs5x HK5 hcz hlt hks Hm5 Hu5 HQ5
      have HC6 := Lib.hid (smust g s5x kNodes w5x HX5.out.sx)
      rcases hr6 : mustR kNodes s5x with ⟨v6, s6⟩ | y6
      rotate_left
      · have Hr6 := Lib.hid hr6
        have HR6 := Lib.hid ((bad_here HEx5.out hr6))
        clear hr6
        go_wp2_with fail
        skip
        refine Calls.mono HC6.out ?_
        intro e w6 hp
        obtain ⟨rfl, hg6⟩ := hp.bad Hr6.out
        have HF6 := Lib.hid (show JcPost g S R w (thrown y6) w6 from by rw [← HWw.out]; exact JcPost.bad HR6.out (HX5.out.lost hg6 hgW hSg))
        clear hp hg6
        unfold thrown
        go_wp2
        exact ⟨rfl, HF6.out⟩
      have Hr6 := Lib.hid hr6
      have HE6 := Lib.hid (ok_here HEx5.out hr6)
      have hz6 : s6.size ≤ 60000 := Nat.le_trans (mustR_shr _ _ v6 s6 hr6) HX5.out.sz
      clear hr6
      go_wp2_with fail
      skip
      refine Calls.mono HC6.out ?_
      intro e w6 hp
      obtain ⟨rfl, hx6, hg6⟩ := hp.ok Hr6.out
      have H6 := Lib.hid (HX5.out.call hx6 hg6 hz6 hgW hSg)
      clear hp hx6 hg6 HC6
      obtain ⟨T7, hT7⟩ : ∃ T, elsR nodeR s6 = T := ⟨_, rfl⟩
      have HT7 := Lib.hid (show T7.bind _ = R from by rw [← hT7]; exact HE6.out)
      have HU7 := Lib.hid (show untilR nodeR (s6.size + 1) [] s6 = T7 from hT7)
      clear hT7
      go_wp2_with fail
      go_loopw [5] (fun i wr => RjInv nodeR (fun l => ⟨v2, l5, l, []⟩) W0 g S T7 i wr) (fun _ wr => sxM g wr)
      case atStart => exact ⟨0, [], _, s6, _, rfl, rfl, H6.out, HU7.out, Nat.lt_succ_self _, by have := H6.out.sz; omega⟩
      case round =>
        clear H6 HU7
        obtain ⟨k, l7, ⟨aj, nj, cj, an, nn, cn, al, nl, cl⟩, s, N, rfl, hlen, hc, hu, hlt, hks⟩ := hrel
        obtain ⟨m, rfl⟩ : ∃ m, N = m + 1 := ⟨N - 1, by omega⟩
        have HQ7 := Lib.hid hc
        have Hm7 := Lib.hid (sxM_at hc.sx)
        obtain ⟨M7, hM7⟩ : ∃ M, sxM g wr = M := ⟨_, rfl⟩
        rw [hM7] at Hm7 ⊢
        have HK7 := Lib.hid (sskip g s ⟨#[93]⟩ wr hc.sx)
        have Hu7 := Lib.hid hu
        have Hlen7 := Lib.hid hlen
        clear hc hu hM7 hlen
        cases h93 : hasR ⟨#[93]⟩ s with
        | true =>
          have HD7 := Lib.hid (rj_done Hu7.out h93)
          have hcz := cut_size s 1
          rw [h93, skipS_yes h93] at HK7
          clear h93
          go_wp2_with fail
          refine Calls.mono HK7.out ?_
          rintro e w7x ⟨rfl, hx, hg⟩
          have hx : SxAt w7x g (s.extract 1 s.size) := hx
          have HX7 := Lib.hid (HQ7.out.call hx hg (by rw [hcz]; have := HQ7.out.sz; omega) hgW hSg)
          obtain ⟨s7x, hs7x⟩ : ∃ q, s.extract 1 s.size = q := ⟨_, rfl⟩
          rw [hs7x] at HX7 HD7
          have HEx7 := Lib.hid (ok_here HT7.out HD7.out)
          clear hx hg hs7x HK7 hcz hlt hks Hm7 Hu7 HQ7
          have HC8 := Lib.hid (smust g s7x kLeases w7x HX7.out.sx)
          rcases hr8 : mustR kLeases s7x with ⟨v8, s8⟩ | y8
          rotate_left
          · have Hr8 := Lib.hid hr8
            have HR8 := Lib.hid ((bad_here HEx7.out hr8))
            clear hr8
            go_wp2_with fail
            skip
            refine Calls.mono HC8.out ?_
            intro e w8 hp
            obtain ⟨rfl, hg8⟩ := hp.bad Hr8.out
            have HF8 := Lib.hid (show JcPost g S R w (thrown y8) w8 from by rw [← HWw.out]; exact JcPost.bad HR8.out (HX7.out.lost hg8 hgW hSg))
            clear hp hg8
            unfold thrown
            go_wp2
            exact ⟨rfl, HF8.out⟩
          have Hr8 := Lib.hid hr8
          have HE8 := Lib.hid (ok_here HEx7.out hr8)
          have hz8 : s8.size ≤ 60000 := Nat.le_trans (mustR_shr _ _ v8 s8 hr8) HX7.out.sz
          clear hr8
          go_wp2_with fail
          skip
          refine Calls.mono HC8.out ?_
          intro e w8 hp
          obtain ⟨rfl, hx8, hg8⟩ := hp.ok Hr8.out
          have H8 := Lib.hid (HX7.out.call hx8 hg8 hz8 hgW hSg)
          clear hp hx8 hg8 HC8
          obtain ⟨T9, hT9⟩ : ∃ T, elsR leaseR s8 = T := ⟨_, rfl⟩
          have HT9 := Lib.hid (show T9.bind _ = R from by rw [← hT9]; exact HE8.out)
          have HU9 := Lib.hid (show untilR leaseR (s8.size + 1) [] s8 = T9 from hT9)
          clear hT9
          go_wp2_with fail
          go_loopw [7] (fun i wr => RjInv leaseR (fun l => ⟨v2, l5, l7, l⟩) W0 g S T9 i wr) (fun _ wr => sxM g wr)
          case atStart => exact ⟨0, [], _, s8, _, rfl, rfl, H8.out, HU9.out, Nat.lt_succ_self _, by have := H8.out.sz; omega⟩
          case round =>
            clear H8 HU9
            obtain ⟨k, l9, ⟨aj, nj, cj, an, nn, cn, al, nl, cl⟩, s, N, rfl, hlen, hc, hu, hlt, hks⟩ := hrel
            obtain ⟨m, rfl⟩ : ∃ m, N = m + 1 := ⟨N - 1, by omega⟩
            have HQ9 := Lib.hid hc
            have Hm9 := Lib.hid (sxM_at hc.sx)
            obtain ⟨M9, hM9⟩ : ∃ M, sxM g wr = M := ⟨_, rfl⟩
            rw [hM9] at Hm9 ⊢
            have HK9 := Lib.hid (sskip g s ⟨#[93]⟩ wr hc.sx)
            have Hu9 := Lib.hid hu
            have Hlen9 := Lib.hid hlen
            clear hc hu hM9 hlen
            cases h93 : hasR ⟨#[93]⟩ s with
            | true =>
              have HD9 := Lib.hid (rj_done Hu9.out h93)
              have hcz := cut_size s 1
              rw [h93, skipS_yes h93] at HK9
              clear h93
              go_wp2_with fail
              refine Calls.mono HK9.out ?_
              rintro e w9x ⟨rfl, hx, hg⟩
              have hx : SxAt w9x g (s.extract 1 s.size) := hx
              have HX9 := Lib.hid (HQ9.out.call hx hg (by rw [hcz]; have := HQ9.out.sz; omega) hgW hSg)
              obtain ⟨s9x, hs9x⟩ : ∃ q, s.extract 1 s.size = q := ⟨_, rfl⟩
              rw [hs9x] at HX9 HD9
              have HEx9 := Lib.hid (ok_here HT9.out HD9.out)
              clear hx hg hs9x HK9 hcz hlt hks Hm9 Hu9 HQ9
              have HC10 := Lib.hid (smust g s9x kEnd w9x HX9.out.sx)
              rcases hr10 : mustR kEnd s9x with ⟨v10, s10⟩ | y10
              rotate_left
              · have Hr10 := Lib.hid hr10
                have HR10 := Lib.hid ((bad_here HEx9.out hr10))
                clear hr10
                go_wp2_with fail
                skip
                refine Calls.mono HC10.out ?_
                intro e w10 hp
                obtain ⟨rfl, hg10⟩ := hp.bad Hr10.out
                have HF10 := Lib.hid (show JcPost g S R w (thrown y10) w10 from by rw [← HWw.out]; exact JcPost.bad HR10.out (HX9.out.lost hg10 hgW hSg))
                clear hp hg10
                unfold thrown
                go_wp2
                exact ⟨rfl, HF10.out⟩
              have Hr10 := Lib.hid hr10
              have HE10 := Lib.hid (ok_here HEx9.out hr10)
              have hz10 : s10.size ≤ 60000 := Nat.le_trans (mustR_shr _ _ v10 s10 hr10) HX9.out.sz
              clear hr10
              go_wp2_with fail
              skip
              refine Calls.mono HC10.out ?_
              intro e w10 hp
              obtain ⟨rfl, hx10, hg10⟩ := hp.ok Hr10.out
              have H10 := Lib.hid (HX9.out.call hx10 hg10 hz10 hgW hSg)
              clear hp hx10 hg10 HC10
              have HF := Lib.hid (show JcPost g S R w (.returned (.tuple #[])) w10 from by rw [← HWw.out]; exact JcPost.ok HE10.out H10.out)
              go_wp2
              go_end0
              exact HF.out
            | false =>
              have HV9 := Lib.hid (show ((commaR k s).bind fun _ s => (leaseR s).bind fun a s => untilR leaseR m (l9 ++ [a]) s) = T9 from by have h := rj_until Hu9.out h93; rw [Hlen9.out] at h; exact h)
              rw [h93, skipS_no h93] at HK9
              clear h93
              go_wp2_with fail
              refine Calls.mono HK9.out ?_
              rintro e w9y ⟨rfl, hx, hg⟩
              have hcs := HQ9.out.sz
              have HY9 := Lib.hid (HQ9.out.call hx hg hcs hgW hSg)
              clear hx hg HK9 Hu9 HQ9 hcs
              have HC11 := Lib.hid (scomma g s k w9y HY9.out.sx)
              rcases hr11 : commaR k s with ⟨v11, s11⟩ | y11
              rotate_left
              · have Hr11 := Lib.hid hr11
                have HR11 := Lib.hid (bad_up HT9.out (bad_here HV9.out hr11))
                clear hr11
                go_wp2_with fail
                skip
                refine Calls.mono HC11.out ?_
                intro e w11 hp
                obtain ⟨rfl, hg11⟩ := hp.bad Hr11.out
                have HF11 := Lib.hid (show JcPost g S R w (thrown y11) w11 from by rw [← HWw.out]; exact JcPost.bad HR11.out (HY9.out.lost hg11 hgW hSg))
                clear hp hg11
                unfold thrown
                go_wp2
                exact ⟨rfl, HF11.out⟩
              have Hr11 := Lib.hid hr11
              have HE11 := Lib.hid (ok_here HV9.out hr11)
              have hz11 : s11.size ≤ 60000 := Nat.le_trans (comma_shr _ _ v11 s11 hr11) HY9.out.sz
              have hk11 : s11.size ≤ s.size := comma_shr _ _ v11 s11 hr11
              clear hr11
              go_wp2_with fail
              skip
              refine Calls.mono HC11.out ?_
              intro e w11 hp
              obtain ⟨rfl, hx11, hg11⟩ := hp.ok Hr11.out
              have H11 := Lib.hid (HY9.out.call hx11 hg11 hz11 hgW hSg)
              clear hp hx11 hg11 HC11
              obtain ⟨RJ12, hRJ12⟩ : ∃ RJ, leaseR s11 = RJ := ⟨_, rfl⟩
              have HZ12 := Lib.hid (show RJ12.bind _ = T9 from by rw [← hRJ12]; exact HE11.out)
              have E12 := Lib.hid hRJ12
              unfold leaseR at E12
              obtain ⟨J12, hJ12⟩ : ∃ J, w11.heap.size = J := ⟨_, rfl⟩
              have H12 := Lib.hid (H11.out.open_ 47 #[.string ⟨#[]⟩, .string ⟨#[]⟩, .int .i64 0] hgW hSg)
              rw [hJ12] at H12
              obtain ⟨w12, hw12⟩ : ∃ q, w11.alloc (.cells #[.string ⟨#[]⟩, .string ⟨#[]⟩, .int .i64 0] 47) = q := ⟨_, rfl⟩
              rw [hw12] at H12
              have Hw12 := Lib.hid hw12
              have HJ12 := Lib.hid hJ12
              have hJl12 : J12 < w12.heap.size := H12.out.j.lt
              clear hRJ12 hw12 hJ12
              have HC13 := Lib.hid (smust g s11 kJob w12 H12.out.at_.sx)
              rcases hr13 : mustR kJob s11 with ⟨v13, s13⟩ | y13
              rotate_left
              · have Hr13 := Lib.hid hr13
                have HR13 := Lib.hid (bad_up HT9.out (bad_up HZ12.out (bad_here E12.out hr13)))
                clear hr13
                go_wp2_with fail
                rw [Hw12.out, HJ12.out]
                refine Calls.mono HC13.out ?_
                intro e w13 hp
                obtain ⟨rfl, hg13⟩ := hp.bad Hr13.out
                have HF13 := Lib.hid (show JcPost g S R w (thrown y13) w13 from by rw [← HWw.out]; exact JcPost.bad HR13.out (H12.out.at_.lost hg13 hgW hSg))
                clear hp hg13
                unfold thrown
                go_wp2
                exact ⟨rfl, HF13.out⟩
              have Hr13 := Lib.hid hr13
              have HE13 := Lib.hid (ok_here E12.out hr13)
              have hz13 : s13.size ≤ 60000 := Nat.le_trans (mustR_shr _ _ v13 s13 hr13) H12.out.at_.sz
              have hk13 : s13.size + 1 ≤ s11.size := by
                have h := mustR_less hr13
                have e : 1 ≤ (kJob : ByteArray).size := by decide
                omega
              clear hr13
              go_wp2_with fail
              rw [Hw12.out, HJ12.out]
              refine Calls.mono HC13.out ?_
              intro e w13 hp
              obtain ⟨rfl, hx13, hg13⟩ := hp.ok Hr13.out
              have H13 := Lib.hid (H12.out.call hx13 hg13 hz13 hgW hSg)
              clear hp hx13 hg13 HC13
              have HC14 := Lib.hid (squoted g s13 w13 H13.out.at_.sx H13.out.at_.sz)
              rcases hr14 : quotR s13 with ⟨v14, s14⟩ | y14
              rotate_left
              · have Hr14 := Lib.hid hr14
                have HR14 := Lib.hid (bad_up HT9.out (bad_up HZ12.out (bad_here HE13.out hr14)))
                clear hr14
                go_wp2_with fail
                skip
                refine Calls.mono HC14.out ?_
                intro e w14 hp
                obtain ⟨rfl, hg14⟩ := hp.bad Hr14.out
                have HF14 := Lib.hid (show JcPost g S R w (thrown y14) w14 from by rw [← HWw.out]; exact JcPost.bad HR14.out (H13.out.at_.lost hg14 hgW hSg))
                clear hp hg14
                unfold thrown
                go_wp2
                exact ⟨rfl, HF14.out⟩
              have Hr14 := Lib.hid hr14
              have HE14 := Lib.hid (ok_here HE13.out hr14)
              have hz14 : s14.size ≤ 60000 := Nat.le_trans (quotR_shr _ v14 s14 hr14) H13.out.at_.sz
              have hq14 := Nat.le_trans (quotR_room hr14) H13.out.at_.sz
              have hk14 : s14.size ≤ s13.size := quotR_shr _ v14 s14 hr14
              clear hr14
              go_wp2_with fail
              skip
              refine Calls.mono HC14.out ?_
              intro e w14 hp
              obtain ⟨rfl, hx14, hg14⟩ := hp.ok Hr14.out
              have H14 := Lib.hid (H13.out.call hx14 hg14 hz14 hgW hSg)
              clear hp hx14 hg14 HC14
              have y15 : w14.cell? ⟨J12, 0, none⟩ = some (.string ⟨#[]⟩) := H14.out.j.cell 0
              have z15 : w14.frozen? ⟨J12, 0, none⟩ = false := H14.out.j.thaw 0
              have hl15 : J12 < w14.heap.size := H14.out.j.lt
              have H15 := Lib.hid (H14.out.set (cs' := #[.string v14, .string ⟨#[]⟩, .int .i64 0]) 0 (.string v14) rfl hgW hSW)
              obtain ⟨w15, hw15⟩ : ∃ q, w14.setCell ⟨J12, 0, none⟩ (.string v14) = q := ⟨_, rfl⟩
              rw [hw15] at H15
              have Hw15 := Lib.hid hw15
              clear hw15
              have HC16 := Lib.hid (smust g s14 kNode w15 H15.out.at_.sx)
              rcases hr16 : mustR kNode s14 with ⟨v16, s16⟩ | y16
              rotate_left
              · have Hr16 := Lib.hid hr16
                have HR16 := Lib.hid (bad_up HT9.out (bad_up HZ12.out (bad_here HE14.out hr16)))
                clear hr16
                go_wp2_with fail
                rw [Hw15.out]
                refine Calls.mono HC16.out ?_
                intro e w16 hp
                obtain ⟨rfl, hg16⟩ := hp.bad Hr16.out
                have HF16 := Lib.hid (show JcPost g S R w (thrown y16) w16 from by rw [← HWw.out]; exact JcPost.bad HR16.out (H15.out.at_.lost hg16 hgW hSg))
                clear hp hg16
                unfold thrown
                go_wp2
                exact ⟨rfl, HF16.out⟩
              have Hr16 := Lib.hid hr16
              have HE16 := Lib.hid (ok_here HE14.out hr16)
              have hz16 : s16.size ≤ 60000 := Nat.le_trans (mustR_shr _ _ v16 s16 hr16) H15.out.at_.sz
              have hk16 : s16.size + 1 ≤ s14.size := by
                have h := mustR_less hr16
                have e : 1 ≤ (kNode : ByteArray).size := by decide
                omega
              clear hr16
              go_wp2_with fail
              rw [Hw15.out]
              refine Calls.mono HC16.out ?_
              intro e w16 hp
              obtain ⟨rfl, hx16, hg16⟩ := hp.ok Hr16.out
              have H16 := Lib.hid (H15.out.call hx16 hg16 hz16 hgW hSg)
              clear hp hx16 hg16 HC16
              have HC17 := Lib.hid (squoted g s16 w16 H16.out.at_.sx H16.out.at_.sz)
              rcases hr17 : quotR s16 with ⟨v17, s17⟩ | y17
              rotate_left
              · have Hr17 := Lib.hid hr17
                have HR17 := Lib.hid (bad_up HT9.out (bad_up HZ12.out (bad_here HE16.out hr17)))
                clear hr17
                go_wp2_with fail
                skip
                refine Calls.mono HC17.out ?_
                intro e w17 hp
                obtain ⟨rfl, hg17⟩ := hp.bad Hr17.out
                have HF17 := Lib.hid (show JcPost g S R w (thrown y17) w17 from by rw [← HWw.out]; exact JcPost.bad HR17.out (H16.out.at_.lost hg17 hgW hSg))
                clear hp hg17
                unfold thrown
                go_wp2
                exact ⟨rfl, HF17.out⟩
              have Hr17 := Lib.hid hr17
              have HE17 := Lib.hid (ok_here HE16.out hr17)
              have hz17 : s17.size ≤ 60000 := Nat.le_trans (quotR_shr _ v17 s17 hr17) H16.out.at_.sz
              have hq17 := Nat.le_trans (quotR_room hr17) H16.out.at_.sz
              have hk17 : s17.size ≤ s16.size := quotR_shr _ v17 s17 hr17
              clear hr17
              go_wp2_with fail
              skip
              refine Calls.mono HC17.out ?_
              intro e w17 hp
              obtain ⟨rfl, hx17, hg17⟩ := hp.ok Hr17.out
              have H17 := Lib.hid (H16.out.call hx17 hg17 hz17 hgW hSg)
              clear hp hx17 hg17 HC17
              have y18 : w17.cell? ⟨J12, 1, none⟩ = some (.string ⟨#[]⟩) := H17.out.j.cell 1
              have z18 : w17.frozen? ⟨J12, 1, none⟩ = false := H17.out.j.thaw 1
              have hl18 : J12 < w17.heap.size := H17.out.j.lt
              have H18 := Lib.hid (H17.out.set (cs' := #[.string v14, .string v17, .int .i64 0]) 1 (.string v17) rfl hgW hSW)
              obtain ⟨w18, hw18⟩ : ∃ q, w17.setCell ⟨J12, 1, none⟩ (.string v17) = q := ⟨_, rfl⟩
              rw [hw18] at H18
              have Hw18 := Lib.hid hw18
              clear hw18
              have HC19 := Lib.hid (smust g s17 kTill w18 H18.out.at_.sx)
              rcases hr19 : mustR kTill s17 with ⟨v19, s19⟩ | y19
              rotate_left
              · have Hr19 := Lib.hid hr19
                have HR19 := Lib.hid (bad_up HT9.out (bad_up HZ12.out (bad_here HE17.out hr19)))
                clear hr19
                go_wp2_with fail
                rw [Hw18.out]
                refine Calls.mono HC19.out ?_
                intro e w19 hp
                obtain ⟨rfl, hg19⟩ := hp.bad Hr19.out
                have HF19 := Lib.hid (show JcPost g S R w (thrown y19) w19 from by rw [← HWw.out]; exact JcPost.bad HR19.out (H18.out.at_.lost hg19 hgW hSg))
                clear hp hg19
                unfold thrown
                go_wp2
                exact ⟨rfl, HF19.out⟩
              have Hr19 := Lib.hid hr19
              have HE19 := Lib.hid (ok_here HE17.out hr19)
              have hz19 : s19.size ≤ 60000 := Nat.le_trans (mustR_shr _ _ v19 s19 hr19) H18.out.at_.sz
              have hk19 : s19.size + 1 ≤ s17.size := by
                have h := mustR_less hr19
                have e : 1 ≤ (kTill : ByteArray).size := by decide
                omega
              clear hr19
              go_wp2_with fail
              rw [Hw18.out]
              refine Calls.mono HC19.out ?_
              intro e w19 hp
              obtain ⟨rfl, hx19, hg19⟩ := hp.ok Hr19.out
              have H19 := Lib.hid (H18.out.call hx19 hg19 hz19 hgW hSg)
              clear hp hx19 hg19 HC19
              have HC20 := Lib.hid (sdigits g s19 w19 H19.out.at_.sx)
              rcases hr20 : digR s19 with ⟨v20, s20⟩ | y20
              rotate_left
              · have Hr20 := Lib.hid hr20
                have HR20 := Lib.hid (bad_up HT9.out (bad_up HZ12.out (bad_here HE19.out hr20)))
                clear hr20
                go_wp2_with fail
                skip
                refine Calls.mono HC20.out ?_
                intro e w20 hp
                obtain ⟨rfl, hg20⟩ := hp.bad Hr20.out
                have HF20 := Lib.hid (show JcPost g S R w (thrown y20) w20 from by rw [← HWw.out]; exact JcPost.bad HR20.out (H19.out.at_.lost hg20 hgW hSg))
                clear hp hg20
                unfold thrown
                go_wp2
                exact ⟨rfl, HF20.out⟩
              have Hr20 := Lib.hid hr20
              have HE20 := Lib.hid (ok_here HE19.out hr20)
              have hz20 : s20.size ≤ 60000 := Nat.le_trans (digR_shr _ v20 s20 hr20) H19.out.at_.sz
              have hq20 := digR_int hr20
              have hk20 : s20.size ≤ s19.size := digR_shr _ v20 s20 hr20
              clear hr20
              go_wp2_with fail
              skip
              refine Calls.mono HC20.out ?_
              intro e w20 hp
              obtain ⟨rfl, hx20, hg20⟩ := hp.ok Hr20.out
              have H20 := Lib.hid (H19.out.call hx20 hg20 hz20 hgW hSg)
              clear hp hx20 hg20 HC20
              have y21 : w20.cell? ⟨J12, 2, none⟩ = some (.int .i64 0) := H20.out.j.cell 2
              have z21 : w20.frozen? ⟨J12, 2, none⟩ = false := H20.out.j.thaw 2
              have hl21 : J12 < w20.heap.size := H20.out.j.lt
              have H21 := Lib.hid (H20.out.set (cs' := #[.string v14, .string v17, .int .i64 v20]) 2 (.int .i64 v20) rfl hgW hSW)
              obtain ⟨w21, hw21⟩ : ∃ q, w20.setCell ⟨J12, 2, none⟩ (.int .i64 v20) = q := ⟨_, rfl⟩
              rw [hw21] at H21
              have Hw21 := Lib.hid hw21
              clear hw21
              have HC22 := Lib.hid (smust g s20 kEnd w21 H21.out.at_.sx)
              rcases hr22 : mustR kEnd s20 with ⟨v22, s22⟩ | y22
              rotate_left
              · have Hr22 := Lib.hid hr22
                have HR22 := Lib.hid (bad_up HT9.out (bad_up HZ12.out (bad_here HE20.out hr22)))
                clear hr22
                go_wp2_with fail
                rw [Hw21.out]
                refine Calls.mono HC22.out ?_
                intro e w22 hp
                obtain ⟨rfl, hg22⟩ := hp.bad Hr22.out
                have HF22 := Lib.hid (show JcPost g S R w (thrown y22) w22 from by rw [← HWw.out]; exact JcPost.bad HR22.out (H21.out.at_.lost hg22 hgW hSg))
                clear hp hg22
                unfold thrown
                go_wp2
                exact ⟨rfl, HF22.out⟩
              have Hr22 := Lib.hid hr22
              have HE22 := Lib.hid (ok_here HE20.out hr22)
              have hz22 : s22.size ≤ 60000 := Nat.le_trans (mustR_shr _ _ v22 s22 hr22) H21.out.at_.sz
              have hk22 : s22.size + 1 ≤ s20.size := by
                have h := mustR_less hr22
                have e : 1 ≤ (kEnd : ByteArray).size := by decide
                omega
              clear hr22
              go_wp2_with fail
              rw [Hw21.out]
              refine Calls.mono HC22.out ?_
              intro e w22 hp
              obtain ⟨rfl, hx22, hg22⟩ := hp.ok Hr22.out
              have H22 := Lib.hid (H21.out.call hx22 hg22 hz22 hgW hSg)
              clear hp hx22 hg22 HC22
              have HRJ23 := Lib.hid (show RJ12 = .ok ⟨v14, v17, v20⟩ s22 from HE22.out.symm)
              have HT223 := Lib.hid (ok_here HZ12.out HRJ23.out)
              have hB23 := H22.out.at_
              have y23 : w22.cell? ⟨S, 3, none⟩ = some (.slice al nl cl) := hB23.box.cell 3
              have c23_0 : w22.cell? ⟨J12, 0, none⟩ = some (.string v14) := H22.out.j.cell 0
              have c23_1 : w22.cell? ⟨J12, 1, none⟩ = some (.string v17) := H22.out.j.cell 1
              have c23_2 : w22.cell? ⟨J12, 2, none⟩ = some (.int .i64 v20) := H22.out.j.cell 2
              have hJl23 : J12 < w22.heap.size := H22.out.j.lt
              have hSl23 : S < w22.heap.size := hB23.box.lt
              have hnl : l9.length = nl := hB23.own.ll
              have hkn : k = nl := by have := Hlen9.out; omega
              have hnb : nl + 1 ≤ 60000 := by omega
              have hbr := hB23.two.size
              have HB23 := Lib.hid hB23
              have HO23 := Lib.hid (show w22.ownsRow W0.heap.size 47 3 (.slice al nl cl) nl (rowsV leaseV l9) from hB23.own.l)
              clear hB23
              go_wp2_with (at_builtin; refine push_rec leaseV rfl _ _ 24 47 (.agg #[.string ⟨#[]⟩, .string ⟨#[]⟩, .int .i64 0]) 3 40 rfl Tryz.underlying24 infoLeaseT rfl (by decide) leaseV_len leaseV_oneT W0.heap.size _ _ _ l9 rfl HO23.out _ ⟨v14, v17, v20⟩ rfl _ (by simp) rfl (by omega) (by unfold maxLen; omega) hbr ?_; intro A' c' w23 ho hg; have HN23 := Lib.hid (JcAt.push_lease HB23.out ho hg hgW hSW hSg ⟨Nat.le_trans hq14 (by decide), Nat.le_trans hq17 (by decide)⟩ (show l9.length + 1 ≤ 60000 by omega)); have hbx := Blk.grewT HB23.out.box hg (fun k hk => (HO23.out.lt k hk).1) hSW; have yy23 : w23.cell? ⟨S, 3, none⟩ = some (.slice al nl cl) := hbx.cell 3; have zz23 : w23.frozen? ⟨S, 3, none⟩ = false := hbx.thaw 3; have ll23 : S < w23.heap.size := hbx.lt; clear hbx ho hg)
              go_roundw
              case rel => exact ⟨k + 1, l9 ++ [⟨v14, v17, v20⟩], _, s22, m, by go_num, by simp; exact Hlen9.out, HN23.out, HT223.out, by omega, by omega⟩
              case measure => rw [sxM_at HN23.out.sx, Hm9.out]; omega
        | false =>
          have HV7 := Lib.hid (show ((commaR k s).bind fun _ s => (nodeR s).bind fun a s => untilR nodeR m (l7 ++ [a]) s) = T7 from by have h := rj_until Hu7.out h93; rw [Hlen7.out] at h; exact h)
          rw [h93, skipS_no h93] at HK7
          clear h93
          go_wp2_with fail
          refine Calls.mono HK7.out ?_
          rintro e w7y ⟨rfl, hx, hg⟩
          have hcs := HQ7.out.sz
          have HY7 := Lib.hid (HQ7.out.call hx hg hcs hgW hSg)
          clear hx hg HK7 Hu7 HQ7 hcs
          have HC24 := Lib.hid (scomma g s k w7y HY7.out.sx)
          rcases hr24 : commaR k s with ⟨v24, s24⟩ | y24
          rotate_left
          · have Hr24 := Lib.hid hr24
            have HR24 := Lib.hid (bad_up HT7.out (bad_here HV7.out hr24))
            clear hr24
            go_wp2_with fail
            skip
            refine Calls.mono HC24.out ?_
            intro e w24 hp
            obtain ⟨rfl, hg24⟩ := hp.bad Hr24.out
            have HF24 := Lib.hid (show JcPost g S R w (thrown y24) w24 from by rw [← HWw.out]; exact JcPost.bad HR24.out (HY7.out.lost hg24 hgW hSg))
            clear hp hg24
            unfold thrown
            go_wp2
            exact ⟨rfl, HF24.out⟩
          have Hr24 := Lib.hid hr24
          have HE24 := Lib.hid (ok_here HV7.out hr24)
          have hz24 : s24.size ≤ 60000 := Nat.le_trans (comma_shr _ _ v24 s24 hr24) HY7.out.sz
          have hk24 : s24.size ≤ s.size := comma_shr _ _ v24 s24 hr24
          clear hr24
          go_wp2_with fail
          skip
          refine Calls.mono HC24.out ?_
          intro e w24 hp
          obtain ⟨rfl, hx24, hg24⟩ := hp.ok Hr24.out
          have H24 := Lib.hid (HY7.out.call hx24 hg24 hz24 hgW hSg)
          clear hp hx24 hg24 HC24
          obtain ⟨RJ25, hRJ25⟩ : ∃ RJ, nodeR s24 = RJ := ⟨_, rfl⟩
          have HZ25 := Lib.hid (show RJ25.bind _ = T7 from by rw [← hRJ25]; exact HE24.out)
          have E25 := Lib.hid hRJ25
          unfold nodeR at E25
          obtain ⟨J25, hJ25⟩ : ∃ J, w24.heap.size = J := ⟨_, rfl⟩
          have H25 := Lib.hid (H24.out.open_ 43 #[.string ⟨#[]⟩, .int .i64 0, .string ⟨#[]⟩] hgW hSg)
          rw [hJ25] at H25
          obtain ⟨w25, hw25⟩ : ∃ q, w24.alloc (.cells #[.string ⟨#[]⟩, .int .i64 0, .string ⟨#[]⟩] 43) = q := ⟨_, rfl⟩
          rw [hw25] at H25
          have Hw25 := Lib.hid hw25
          have HJ25 := Lib.hid hJ25
          have hJl25 : J25 < w25.heap.size := H25.out.j.lt
          clear hRJ25 hw25 hJ25
          have HC26 := Lib.hid (smust g s24 kName w25 H25.out.at_.sx)
          rcases hr26 : mustR kName s24 with ⟨v26, s26⟩ | y26
          rotate_left
          · have Hr26 := Lib.hid hr26
            have HR26 := Lib.hid (bad_up HT7.out (bad_up HZ25.out (bad_here E25.out hr26)))
            clear hr26
            go_wp2_with fail
            rw [Hw25.out, HJ25.out]
            refine Calls.mono HC26.out ?_
            intro e w26 hp
            obtain ⟨rfl, hg26⟩ := hp.bad Hr26.out
            have HF26 := Lib.hid (show JcPost g S R w (thrown y26) w26 from by rw [← HWw.out]; exact JcPost.bad HR26.out (H25.out.at_.lost hg26 hgW hSg))
            clear hp hg26
            unfold thrown
            go_wp2
            exact ⟨rfl, HF26.out⟩
          have Hr26 := Lib.hid hr26
          have HE26 := Lib.hid (ok_here E25.out hr26)
          have hz26 : s26.size ≤ 60000 := Nat.le_trans (mustR_shr _ _ v26 s26 hr26) H25.out.at_.sz
          have hk26 : s26.size + 1 ≤ s24.size := by
            have h := mustR_less hr26
            have e : 1 ≤ (kName : ByteArray).size := by decide
            omega
          clear hr26
          go_wp2_with fail
          rw [Hw25.out, HJ25.out]
          refine Calls.mono HC26.out ?_
          intro e w26 hp
          obtain ⟨rfl, hx26, hg26⟩ := hp.ok Hr26.out
          have H26 := Lib.hid (H25.out.call hx26 hg26 hz26 hgW hSg)
          clear hp hx26 hg26 HC26
          have HC27 := Lib.hid (squoted g s26 w26 H26.out.at_.sx H26.out.at_.sz)
          rcases hr27 : quotR s26 with ⟨v27, s27⟩ | y27
          rotate_left
          · have Hr27 := Lib.hid hr27
            have HR27 := Lib.hid (bad_up HT7.out (bad_up HZ25.out (bad_here HE26.out hr27)))
            clear hr27
            go_wp2_with fail
            skip
            refine Calls.mono HC27.out ?_
            intro e w27 hp
            obtain ⟨rfl, hg27⟩ := hp.bad Hr27.out
            have HF27 := Lib.hid (show JcPost g S R w (thrown y27) w27 from by rw [← HWw.out]; exact JcPost.bad HR27.out (H26.out.at_.lost hg27 hgW hSg))
            clear hp hg27
            unfold thrown
            go_wp2
            exact ⟨rfl, HF27.out⟩
          have Hr27 := Lib.hid hr27
          have HE27 := Lib.hid (ok_here HE26.out hr27)
          have hz27 : s27.size ≤ 60000 := Nat.le_trans (quotR_shr _ v27 s27 hr27) H26.out.at_.sz
          have hq27 := Nat.le_trans (quotR_room hr27) H26.out.at_.sz
          have hk27 : s27.size ≤ s26.size := quotR_shr _ v27 s27 hr27
          clear hr27
          go_wp2_with fail
          skip
          refine Calls.mono HC27.out ?_
          intro e w27 hp
          obtain ⟨rfl, hx27, hg27⟩ := hp.ok Hr27.out
          have H27 := Lib.hid (H26.out.call hx27 hg27 hz27 hgW hSg)
          clear hp hx27 hg27 HC27
          have y28 : w27.cell? ⟨J25, 0, none⟩ = some (.string ⟨#[]⟩) := H27.out.j.cell 0
          have z28 : w27.frozen? ⟨J25, 0, none⟩ = false := H27.out.j.thaw 0
          have hl28 : J25 < w27.heap.size := H27.out.j.lt
          have H28 := Lib.hid (H27.out.set (cs' := #[.string v27, .int .i64 0, .string ⟨#[]⟩]) 0 (.string v27) rfl hgW hSW)
          obtain ⟨w28, hw28⟩ : ∃ q, w27.setCell ⟨J25, 0, none⟩ (.string v27) = q := ⟨_, rfl⟩
          rw [hw28] at H28
          have Hw28 := Lib.hid hw28
          clear hw28
          have HC29 := Lib.hid (smust g s27 kRoom w28 H28.out.at_.sx)
          rcases hr29 : mustR kRoom s27 with ⟨v29, s29⟩ | y29
          rotate_left
          · have Hr29 := Lib.hid hr29
            have HR29 := Lib.hid (bad_up HT7.out (bad_up HZ25.out (bad_here HE27.out hr29)))
            clear hr29
            go_wp2_with fail
            rw [Hw28.out]
            refine Calls.mono HC29.out ?_
            intro e w29 hp
            obtain ⟨rfl, hg29⟩ := hp.bad Hr29.out
            have HF29 := Lib.hid (show JcPost g S R w (thrown y29) w29 from by rw [← HWw.out]; exact JcPost.bad HR29.out (H28.out.at_.lost hg29 hgW hSg))
            clear hp hg29
            unfold thrown
            go_wp2
            exact ⟨rfl, HF29.out⟩
          have Hr29 := Lib.hid hr29
          have HE29 := Lib.hid (ok_here HE27.out hr29)
          have hz29 : s29.size ≤ 60000 := Nat.le_trans (mustR_shr _ _ v29 s29 hr29) H28.out.at_.sz
          have hk29 : s29.size + 1 ≤ s27.size := by
            have h := mustR_less hr29
            have e : 1 ≤ (kRoom : ByteArray).size := by decide
            omega
          clear hr29
          go_wp2_with fail
          rw [Hw28.out]
          refine Calls.mono HC29.out ?_
          intro e w29 hp
          obtain ⟨rfl, hx29, hg29⟩ := hp.ok Hr29.out
          have H29 := Lib.hid (H28.out.call hx29 hg29 hz29 hgW hSg)
          clear hp hx29 hg29 HC29
          have HC30 := Lib.hid (sdigits g s29 w29 H29.out.at_.sx)
          rcases hr30 : digR s29 with ⟨v30, s30⟩ | y30
          rotate_left
          · have Hr30 := Lib.hid hr30
            have HR30 := Lib.hid (bad_up HT7.out (bad_up HZ25.out (bad_here HE29.out hr30)))
            clear hr30
            go_wp2_with fail
            skip
            refine Calls.mono HC30.out ?_
            intro e w30 hp
            obtain ⟨rfl, hg30⟩ := hp.bad Hr30.out
            have HF30 := Lib.hid (show JcPost g S R w (thrown y30) w30 from by rw [← HWw.out]; exact JcPost.bad HR30.out (H29.out.at_.lost hg30 hgW hSg))
            clear hp hg30
            unfold thrown
            go_wp2
            exact ⟨rfl, HF30.out⟩
          have Hr30 := Lib.hid hr30
          have HE30 := Lib.hid (ok_here HE29.out hr30)
          have hz30 : s30.size ≤ 60000 := Nat.le_trans (digR_shr _ v30 s30 hr30) H29.out.at_.sz
          have hq30 := digR_int hr30
          have hk30 : s30.size ≤ s29.size := digR_shr _ v30 s30 hr30
          clear hr30
          go_wp2_with fail
          skip
          refine Calls.mono HC30.out ?_
          intro e w30 hp
          obtain ⟨rfl, hx30, hg30⟩ := hp.ok Hr30.out
          have H30 := Lib.hid (H29.out.call hx30 hg30 hz30 hgW hSg)
          clear hp hx30 hg30 HC30
          have y31 : w30.cell? ⟨J25, 1, none⟩ = some (.int .i64 0) := H30.out.j.cell 1
          have z31 : w30.frozen? ⟨J25, 1, none⟩ = false := H30.out.j.thaw 1
          have hl31 : J25 < w30.heap.size := H30.out.j.lt
          have H31 := Lib.hid (H30.out.set (cs' := #[.string v27, .int .i64 v30, .string ⟨#[]⟩]) 1 (.int .i64 v30) rfl hgW hSW)
          obtain ⟨w31, hw31⟩ : ∃ q, w30.setCell ⟨J25, 1, none⟩ (.int .i64 v30) = q := ⟨_, rfl⟩
          rw [hw31] at H31
          have Hw31 := Lib.hid hw31
          clear hw31
          have HC32 := Lib.hid (smust g s30 kZone w31 H31.out.at_.sx)
          rcases hr32 : mustR kZone s30 with ⟨v32, s32⟩ | y32
          rotate_left
          · have Hr32 := Lib.hid hr32
            have HR32 := Lib.hid (bad_up HT7.out (bad_up HZ25.out (bad_here HE30.out hr32)))
            clear hr32
            go_wp2_with fail
            rw [Hw31.out]
            refine Calls.mono HC32.out ?_
            intro e w32 hp
            obtain ⟨rfl, hg32⟩ := hp.bad Hr32.out
            have HF32 := Lib.hid (show JcPost g S R w (thrown y32) w32 from by rw [← HWw.out]; exact JcPost.bad HR32.out (H31.out.at_.lost hg32 hgW hSg))
            clear hp hg32
            unfold thrown
            go_wp2
            exact ⟨rfl, HF32.out⟩
          have Hr32 := Lib.hid hr32
          have HE32 := Lib.hid (ok_here HE30.out hr32)
          have hz32 : s32.size ≤ 60000 := Nat.le_trans (mustR_shr _ _ v32 s32 hr32) H31.out.at_.sz
          have hk32 : s32.size + 1 ≤ s30.size := by
            have h := mustR_less hr32
            have e : 1 ≤ (kZone : ByteArray).size := by decide
            omega
          clear hr32
          go_wp2_with fail
          rw [Hw31.out]
          refine Calls.mono HC32.out ?_
          intro e w32 hp
          obtain ⟨rfl, hx32, hg32⟩ := hp.ok Hr32.out
          have H32 := Lib.hid (H31.out.call hx32 hg32 hz32 hgW hSg)
          clear hp hx32 hg32 HC32
          have HC33 := Lib.hid (squoted g s32 w32 H32.out.at_.sx H32.out.at_.sz)
          rcases hr33 : quotR s32 with ⟨v33, s33⟩ | y33
          rotate_left
          · have Hr33 := Lib.hid hr33
            have HR33 := Lib.hid (bad_up HT7.out (bad_up HZ25.out (bad_here HE32.out hr33)))
            clear hr33
            go_wp2_with fail
            skip
            refine Calls.mono HC33.out ?_
            intro e w33 hp
            obtain ⟨rfl, hg33⟩ := hp.bad Hr33.out
            have HF33 := Lib.hid (show JcPost g S R w (thrown y33) w33 from by rw [← HWw.out]; exact JcPost.bad HR33.out (H32.out.at_.lost hg33 hgW hSg))
            clear hp hg33
            unfold thrown
            go_wp2
            exact ⟨rfl, HF33.out⟩
          have Hr33 := Lib.hid hr33
          have HE33 := Lib.hid (ok_here HE32.out hr33)
          have hz33 : s33.size ≤ 60000 := Nat.le_trans (quotR_shr _ v33 s33 hr33) H32.out.at_.sz
          have hq33 := Nat.le_trans (quotR_room hr33) H32.out.at_.sz
          have hk33 : s33.size ≤ s32.size := quotR_shr _ v33 s33 hr33
          clear hr33
          go_wp2_with fail
          skip
          refine Calls.mono HC33.out ?_
          intro e w33 hp
          obtain ⟨rfl, hx33, hg33⟩ := hp.ok Hr33.out
          have H33 := Lib.hid (H32.out.call hx33 hg33 hz33 hgW hSg)
          clear hp hx33 hg33 HC33
          have y34 : w33.cell? ⟨J25, 2, none⟩ = some (.string ⟨#[]⟩) := H33.out.j.cell 2
          have z34 : w33.frozen? ⟨J25, 2, none⟩ = false := H33.out.j.thaw 2
          have hl34 : J25 < w33.heap.size := H33.out.j.lt
          have H34 := Lib.hid (H33.out.set (cs' := #[.string v27, .int .i64 v30, .string v33]) 2 (.string v33) rfl hgW hSW)
          obtain ⟨w34, hw34⟩ : ∃ q, w33.setCell ⟨J25, 2, none⟩ (.string v33) = q := ⟨_, rfl⟩
          rw [hw34] at H34
          have Hw34 := Lib.hid hw34
          clear hw34
          have HC35 := Lib.hid (smust g s33 kEnd w34 H34.out.at_.sx)
          rcases hr35 : mustR kEnd s33 with ⟨v35, s35⟩ | y35
          rotate_left
          · have Hr35 := Lib.hid hr35
            have HR35 := Lib.hid (bad_up HT7.out (bad_up HZ25.out (bad_here HE33.out hr35)))
            clear hr35
            go_wp2_with fail
            rw [Hw34.out]
            refine Calls.mono HC35.out ?_
            intro e w35 hp
            obtain ⟨rfl, hg35⟩ := hp.bad Hr35.out
            have HF35 := Lib.hid (show JcPost g S R w (thrown y35) w35 from by rw [← HWw.out]; exact JcPost.bad HR35.out (H34.out.at_.lost hg35 hgW hSg))
            clear hp hg35
            unfold thrown
            go_wp2
            exact ⟨rfl, HF35.out⟩
          have Hr35 := Lib.hid hr35
          have HE35 := Lib.hid (ok_here HE33.out hr35)
          have hz35 : s35.size ≤ 60000 := Nat.le_trans (mustR_shr _ _ v35 s35 hr35) H34.out.at_.sz
          have hk35 : s35.size + 1 ≤ s33.size := by
            have h := mustR_less hr35
            have e : 1 ≤ (kEnd : ByteArray).size := by decide
            omega
          clear hr35
          go_wp2_with fail
          rw [Hw34.out]
          refine Calls.mono HC35.out ?_
          intro e w35 hp
          obtain ⟨rfl, hx35, hg35⟩ := hp.ok Hr35.out
          have H35 := Lib.hid (H34.out.call hx35 hg35 hz35 hgW hSg)
          clear hp hx35 hg35 HC35
          have HRJ36 := Lib.hid (show RJ25 = .ok ⟨v27, v30, v33⟩ s35 from HE35.out.symm)
          have HT236 := Lib.hid (ok_here HZ25.out HRJ36.out)
          have hB36 := H35.out.at_
          have y36 : w35.cell? ⟨S, 2, none⟩ = some (.slice an nn cn) := hB36.box.cell 2
          have c36_0 : w35.cell? ⟨J25, 0, none⟩ = some (.string v27) := H35.out.j.cell 0
          have c36_1 : w35.cell? ⟨J25, 1, none⟩ = some (.int .i64 v30) := H35.out.j.cell 1
          have c36_2 : w35.cell? ⟨J25, 2, none⟩ = some (.string v33) := H35.out.j.cell 2
          have hJl36 : J25 < w35.heap.size := H35.out.j.lt
          have hSl36 : S < w35.heap.size := hB36.box.lt
          have hnl : l7.length = nn := hB36.own.ln
          have hkn : k = nn := by have := Hlen7.out; omega
          have hnb : nn + 1 ≤ 60000 := by omega
          have hbr := hB36.two.size
          have HB36 := Lib.hid hB36
          have HO36 := Lib.hid (show w35.ownsRow W0.heap.size 43 3 (.slice an nn cn) nn (rowsV nodeV l7) from hB36.own.n)
          clear hB36
          go_wp2_with (at_builtin; refine push_rec nodeV rfl _ _ 23 43 (.agg #[.string ⟨#[]⟩, .int .i64 0, .string ⟨#[]⟩]) 3 40 rfl Tryz.underlying23 infoNodeT rfl (by decide) nodeV_len nodeV_oneT W0.heap.size _ _ _ l7 rfl HO36.out _ ⟨v27, v30, v33⟩ rfl _ (by simp) rfl (by omega) (by unfold maxLen; omega) hbr ?_; intro A' c' w36 ho hg; have HN36 := Lib.hid (JcAt.push_node HB36.out ho hg hgW hSW hSg ⟨Nat.le_trans hq27 (by decide), Nat.le_trans hq33 (by decide)⟩ (show l7.length + 1 ≤ 60000 by omega)); have hbx := Blk.grewT HB36.out.box hg (fun k hk => (HO36.out.lt k hk).1) hSW; have yy36 : w36.cell? ⟨S, 2, none⟩ = some (.slice an nn cn) := hbx.cell 2; have zz36 : w36.frozen? ⟨S, 2, none⟩ = false := hbx.thaw 2; have ll36 : S < w36.heap.size := hbx.lt; clear hbx ho hg)
          go_roundw
          case rel => exact ⟨k + 1, l7 ++ [⟨v27, v30, v33⟩], _, s35, m, by go_num, by simp; exact Hlen7.out, HN36.out, HT236.out, by omega, by omega⟩
          case measure => rw [sxM_at HN36.out.sx, Hm7.out]; omega
    | false =>
      have HV5 := Lib.hid (show ((commaR k s).bind fun _ s => (jobR s).bind fun a s => untilR jobR m (l5 ++ [a]) s) = T5 from by have h := rj_until Hu5.out h93; rw [Hlen5.out] at h; exact h)
      rw [h93, skipS_no h93] at HK5
      clear h93
      go_wp2_with fail
      refine Calls.mono HK5.out ?_
      rintro e w5y ⟨rfl, hx, hg⟩
      have hcs := HQ5.out.sz
      have HY5 := Lib.hid (HQ5.out.call hx hg hcs hgW hSg)
      clear hx hg HK5 Hu5 HQ5 hcs
      have HC37 := Lib.hid (scomma g s k w5y HY5.out.sx)
      rcases hr37 : commaR k s with ⟨v37, s37⟩ | y37
      rotate_left
      · have Hr37 := Lib.hid hr37
        have HR37 := Lib.hid (bad_up HT5.out (bad_here HV5.out hr37))
        clear hr37
        go_wp2_with fail
        skip
        refine Calls.mono HC37.out ?_
        intro e w37 hp
        obtain ⟨rfl, hg37⟩ := hp.bad Hr37.out
        have HF37 := Lib.hid (show JcPost g S R w (thrown y37) w37 from by rw [← HWw.out]; exact JcPost.bad HR37.out (HY5.out.lost hg37 hgW hSg))
        clear hp hg37
        unfold thrown
        go_wp2
        exact ⟨rfl, HF37.out⟩
      have Hr37 := Lib.hid hr37
      have HE37 := Lib.hid (ok_here HV5.out hr37)
      have hz37 : s37.size ≤ 60000 := Nat.le_trans (comma_shr _ _ v37 s37 hr37) HY5.out.sz
      have hk37 : s37.size ≤ s.size := comma_shr _ _ v37 s37 hr37
      clear hr37
      go_wp2_with fail
      skip
      refine Calls.mono HC37.out ?_
      intro e w37 hp
      obtain ⟨rfl, hx37, hg37⟩ := hp.ok Hr37.out
      have H37 := Lib.hid (HY5.out.call hx37 hg37 hz37 hgW hSg)
      clear hp hx37 hg37 HC37
      obtain ⟨RJ38, hRJ38⟩ : ∃ RJ, jobR s37 = RJ := ⟨_, rfl⟩
      have HZ38 := Lib.hid (show RJ38.bind _ = T5 from by rw [← hRJ38]; exact HE37.out)
      have E38 := Lib.hid hRJ38
      unfold jobR at E38
      obtain ⟨J38, hJ38⟩ : ∃ J, w37.heap.size = J := ⟨_, rfl⟩
      have H38 := Lib.hid (H37.out.open_ 39 #[.string ⟨#[]⟩, .int .i64 0, .int .i64 0, .int .i64 0, .string ⟨#[]⟩] hgW hSg)
      rw [hJ38] at H38
      obtain ⟨w38, hw38⟩ : ∃ q, w37.alloc (.cells #[.string ⟨#[]⟩, .int .i64 0, .int .i64 0, .int .i64 0, .string ⟨#[]⟩] 39) = q := ⟨_, rfl⟩
      rw [hw38] at H38
      have Hw38 := Lib.hid hw38
      have HJ38 := Lib.hid hJ38
      have hJl38 : J38 < w38.heap.size := H38.out.j.lt
      clear hRJ38 hw38 hJ38
      have HC39 := Lib.hid (smust g s37 kName w38 H38.out.at_.sx)
      rcases hr39 : mustR kName s37 with ⟨v39, s39⟩ | y39
      rotate_left
      · have Hr39 := Lib.hid hr39
        have HR39 := Lib.hid (bad_up HT5.out (bad_up HZ38.out (bad_here E38.out hr39)))
        clear hr39
        go_wp2_with fail
        rw [Hw38.out, HJ38.out]
        refine Calls.mono HC39.out ?_
        intro e w39 hp
        obtain ⟨rfl, hg39⟩ := hp.bad Hr39.out
        have HF39 := Lib.hid (show JcPost g S R w (thrown y39) w39 from by rw [← HWw.out]; exact JcPost.bad HR39.out (H38.out.at_.lost hg39 hgW hSg))
        clear hp hg39
        unfold thrown
        go_wp2
        exact ⟨rfl, HF39.out⟩
      have Hr39 := Lib.hid hr39
      have HE39 := Lib.hid (ok_here E38.out hr39)
      have hz39 : s39.size ≤ 60000 := Nat.le_trans (mustR_shr _ _ v39 s39 hr39) H38.out.at_.sz
      have hk39 : s39.size + 1 ≤ s37.size := by
        have h := mustR_less hr39
        have e : 1 ≤ (kName : ByteArray).size := by decide
        omega
      clear hr39
      go_wp2_with fail
      rw [Hw38.out, HJ38.out]
      refine Calls.mono HC39.out ?_
      intro e w39 hp
      obtain ⟨rfl, hx39, hg39⟩ := hp.ok Hr39.out
      have H39 := Lib.hid (H38.out.call hx39 hg39 hz39 hgW hSg)
      clear hp hx39 hg39 HC39
      have HC40 := Lib.hid (squoted g s39 w39 H39.out.at_.sx H39.out.at_.sz)
      rcases hr40 : quotR s39 with ⟨v40, s40⟩ | y40
      rotate_left
      · have Hr40 := Lib.hid hr40
        have HR40 := Lib.hid (bad_up HT5.out (bad_up HZ38.out (bad_here HE39.out hr40)))
        clear hr40
        go_wp2_with fail
        skip
        refine Calls.mono HC40.out ?_
        intro e w40 hp
        obtain ⟨rfl, hg40⟩ := hp.bad Hr40.out
        have HF40 := Lib.hid (show JcPost g S R w (thrown y40) w40 from by rw [← HWw.out]; exact JcPost.bad HR40.out (H39.out.at_.lost hg40 hgW hSg))
        clear hp hg40
        unfold thrown
        go_wp2
        exact ⟨rfl, HF40.out⟩
      have Hr40 := Lib.hid hr40
      have HE40 := Lib.hid (ok_here HE39.out hr40)
      have hz40 : s40.size ≤ 60000 := Nat.le_trans (quotR_shr _ v40 s40 hr40) H39.out.at_.sz
      have hq40 := Nat.le_trans (quotR_room hr40) H39.out.at_.sz
      have hk40 : s40.size ≤ s39.size := quotR_shr _ v40 s40 hr40
      clear hr40
      go_wp2_with fail
      skip
      refine Calls.mono HC40.out ?_
      intro e w40 hp
      obtain ⟨rfl, hx40, hg40⟩ := hp.ok Hr40.out
      have H40 := Lib.hid (H39.out.call hx40 hg40 hz40 hgW hSg)
      clear hp hx40 hg40 HC40
      have y41 : w40.cell? ⟨J38, 0, none⟩ = some (.string ⟨#[]⟩) := H40.out.j.cell 0
      have z41 : w40.frozen? ⟨J38, 0, none⟩ = false := H40.out.j.thaw 0
      have hl41 : J38 < w40.heap.size := H40.out.j.lt
      have H41 := Lib.hid (H40.out.set (cs' := #[.string v40, .int .i64 0, .int .i64 0, .int .i64 0, .string ⟨#[]⟩]) 0 (.string v40) rfl hgW hSW)
      obtain ⟨w41, hw41⟩ : ∃ q, w40.setCell ⟨J38, 0, none⟩ (.string v40) = q := ⟨_, rfl⟩
      rw [hw41] at H41
      have Hw41 := Lib.hid hw41
      clear hw41
      have HC42 := Lib.hid (smust g s40 kPrio w41 H41.out.at_.sx)
      rcases hr42 : mustR kPrio s40 with ⟨v42, s42⟩ | y42
      rotate_left
      · have Hr42 := Lib.hid hr42
        have HR42 := Lib.hid (bad_up HT5.out (bad_up HZ38.out (bad_here HE40.out hr42)))
        clear hr42
        go_wp2_with fail
        rw [Hw41.out]
        refine Calls.mono HC42.out ?_
        intro e w42 hp
        obtain ⟨rfl, hg42⟩ := hp.bad Hr42.out
        have HF42 := Lib.hid (show JcPost g S R w (thrown y42) w42 from by rw [← HWw.out]; exact JcPost.bad HR42.out (H41.out.at_.lost hg42 hgW hSg))
        clear hp hg42
        unfold thrown
        go_wp2
        exact ⟨rfl, HF42.out⟩
      have Hr42 := Lib.hid hr42
      have HE42 := Lib.hid (ok_here HE40.out hr42)
      have hz42 : s42.size ≤ 60000 := Nat.le_trans (mustR_shr _ _ v42 s42 hr42) H41.out.at_.sz
      have hk42 : s42.size + 1 ≤ s40.size := by
        have h := mustR_less hr42
        have e : 1 ≤ (kPrio : ByteArray).size := by decide
        omega
      clear hr42
      go_wp2_with fail
      rw [Hw41.out]
      refine Calls.mono HC42.out ?_
      intro e w42 hp
      obtain ⟨rfl, hx42, hg42⟩ := hp.ok Hr42.out
      have H42 := Lib.hid (H41.out.call hx42 hg42 hz42 hgW hSg)
      clear hp hx42 hg42 HC42
      have HC43 := Lib.hid (sdigits g s42 w42 H42.out.at_.sx)
      rcases hr43 : digR s42 with ⟨v43, s43⟩ | y43
      rotate_left
      · have Hr43 := Lib.hid hr43
        have HR43 := Lib.hid (bad_up HT5.out (bad_up HZ38.out (bad_here HE42.out hr43)))
        clear hr43
        go_wp2_with fail
        skip
        refine Calls.mono HC43.out ?_
        intro e w43 hp
        obtain ⟨rfl, hg43⟩ := hp.bad Hr43.out
        have HF43 := Lib.hid (show JcPost g S R w (thrown y43) w43 from by rw [← HWw.out]; exact JcPost.bad HR43.out (H42.out.at_.lost hg43 hgW hSg))
        clear hp hg43
        unfold thrown
        go_wp2
        exact ⟨rfl, HF43.out⟩
      have Hr43 := Lib.hid hr43
      have HE43 := Lib.hid (ok_here HE42.out hr43)
      have hz43 : s43.size ≤ 60000 := Nat.le_trans (digR_shr _ v43 s43 hr43) H42.out.at_.sz
      have hq43 := digR_int hr43
      have hk43 : s43.size ≤ s42.size := digR_shr _ v43 s43 hr43
      clear hr43
      go_wp2_with fail
      skip
      refine Calls.mono HC43.out ?_
      intro e w43 hp
      obtain ⟨rfl, hx43, hg43⟩ := hp.ok Hr43.out
      have H43 := Lib.hid (H42.out.call hx43 hg43 hz43 hgW hSg)
      clear hp hx43 hg43 HC43
      have y44 : w43.cell? ⟨J38, 1, none⟩ = some (.int .i64 0) := H43.out.j.cell 1
      have z44 : w43.frozen? ⟨J38, 1, none⟩ = false := H43.out.j.thaw 1
      have hl44 : J38 < w43.heap.size := H43.out.j.lt
      have H44 := Lib.hid (H43.out.set (cs' := #[.string v40, .int .i64 v43, .int .i64 0, .int .i64 0, .string ⟨#[]⟩]) 1 (.int .i64 v43) rfl hgW hSW)
      obtain ⟨w44, hw44⟩ : ∃ q, w43.setCell ⟨J38, 1, none⟩ (.int .i64 v43) = q := ⟨_, rfl⟩
      rw [hw44] at H44
      have Hw44 := Lib.hid hw44
      clear hw44
      have HC45 := Lib.hid (smust g s43 kNeed w44 H44.out.at_.sx)
      rcases hr45 : mustR kNeed s43 with ⟨v45, s45⟩ | y45
      rotate_left
      · have Hr45 := Lib.hid hr45
        have HR45 := Lib.hid (bad_up HT5.out (bad_up HZ38.out (bad_here HE43.out hr45)))
        clear hr45
        go_wp2_with fail
        rw [Hw44.out]
        refine Calls.mono HC45.out ?_
        intro e w45 hp
        obtain ⟨rfl, hg45⟩ := hp.bad Hr45.out
        have HF45 := Lib.hid (show JcPost g S R w (thrown y45) w45 from by rw [← HWw.out]; exact JcPost.bad HR45.out (H44.out.at_.lost hg45 hgW hSg))
        clear hp hg45
        unfold thrown
        go_wp2
        exact ⟨rfl, HF45.out⟩
      have Hr45 := Lib.hid hr45
      have HE45 := Lib.hid (ok_here HE43.out hr45)
      have hz45 : s45.size ≤ 60000 := Nat.le_trans (mustR_shr _ _ v45 s45 hr45) H44.out.at_.sz
      have hk45 : s45.size + 1 ≤ s43.size := by
        have h := mustR_less hr45
        have e : 1 ≤ (kNeed : ByteArray).size := by decide
        omega
      clear hr45
      go_wp2_with fail
      rw [Hw44.out]
      refine Calls.mono HC45.out ?_
      intro e w45 hp
      obtain ⟨rfl, hx45, hg45⟩ := hp.ok Hr45.out
      have H45 := Lib.hid (H44.out.call hx45 hg45 hz45 hgW hSg)
      clear hp hx45 hg45 HC45
      have HC46 := Lib.hid (sdigits g s45 w45 H45.out.at_.sx)
      rcases hr46 : digR s45 with ⟨v46, s46⟩ | y46
      rotate_left
      · have Hr46 := Lib.hid hr46
        have HR46 := Lib.hid (bad_up HT5.out (bad_up HZ38.out (bad_here HE45.out hr46)))
        clear hr46
        go_wp2_with fail
        skip
        refine Calls.mono HC46.out ?_
        intro e w46 hp
        obtain ⟨rfl, hg46⟩ := hp.bad Hr46.out
        have HF46 := Lib.hid (show JcPost g S R w (thrown y46) w46 from by rw [← HWw.out]; exact JcPost.bad HR46.out (H45.out.at_.lost hg46 hgW hSg))
        clear hp hg46
        unfold thrown
        go_wp2
        exact ⟨rfl, HF46.out⟩
      have Hr46 := Lib.hid hr46
      have HE46 := Lib.hid (ok_here HE45.out hr46)
      have hz46 : s46.size ≤ 60000 := Nat.le_trans (digR_shr _ v46 s46 hr46) H45.out.at_.sz
      have hq46 := digR_int hr46
      have hk46 : s46.size ≤ s45.size := digR_shr _ v46 s46 hr46
      clear hr46
      go_wp2_with fail
      skip
      refine Calls.mono HC46.out ?_
      intro e w46 hp
      obtain ⟨rfl, hx46, hg46⟩ := hp.ok Hr46.out
      have H46 := Lib.hid (H45.out.call hx46 hg46 hz46 hgW hSg)
      clear hp hx46 hg46 HC46
      have y47 : w46.cell? ⟨J38, 2, none⟩ = some (.int .i64 0) := H46.out.j.cell 2
      have z47 : w46.frozen? ⟨J38, 2, none⟩ = false := H46.out.j.thaw 2
      have hl47 : J38 < w46.heap.size := H46.out.j.lt
      have H47 := Lib.hid (H46.out.set (cs' := #[.string v40, .int .i64 v43, .int .i64 v46, .int .i64 0, .string ⟨#[]⟩]) 2 (.int .i64 v46) rfl hgW hSW)
      obtain ⟨w47, hw47⟩ : ∃ q, w46.setCell ⟨J38, 2, none⟩ (.int .i64 v46) = q := ⟨_, rfl⟩
      rw [hw47] at H47
      have Hw47 := Lib.hid hw47
      clear hw47
      have HC48 := Lib.hid (smust g s46 kTries w47 H47.out.at_.sx)
      rcases hr48 : mustR kTries s46 with ⟨v48, s48⟩ | y48
      rotate_left
      · have Hr48 := Lib.hid hr48
        have HR48 := Lib.hid (bad_up HT5.out (bad_up HZ38.out (bad_here HE46.out hr48)))
        clear hr48
        go_wp2_with fail
        rw [Hw47.out]
        refine Calls.mono HC48.out ?_
        intro e w48 hp
        obtain ⟨rfl, hg48⟩ := hp.bad Hr48.out
        have HF48 := Lib.hid (show JcPost g S R w (thrown y48) w48 from by rw [← HWw.out]; exact JcPost.bad HR48.out (H47.out.at_.lost hg48 hgW hSg))
        clear hp hg48
        unfold thrown
        go_wp2
        exact ⟨rfl, HF48.out⟩
      have Hr48 := Lib.hid hr48
      have HE48 := Lib.hid (ok_here HE46.out hr48)
      have hz48 : s48.size ≤ 60000 := Nat.le_trans (mustR_shr _ _ v48 s48 hr48) H47.out.at_.sz
      have hk48 : s48.size + 1 ≤ s46.size := by
        have h := mustR_less hr48
        have e : 1 ≤ (kTries : ByteArray).size := by decide
        omega
      clear hr48
      go_wp2_with fail
      rw [Hw47.out]
      refine Calls.mono HC48.out ?_
      intro e w48 hp
      obtain ⟨rfl, hx48, hg48⟩ := hp.ok Hr48.out
      have H48 := Lib.hid (H47.out.call hx48 hg48 hz48 hgW hSg)
      clear hp hx48 hg48 HC48
      have HC49 := Lib.hid (sdigits g s48 w48 H48.out.at_.sx)
      rcases hr49 : digR s48 with ⟨v49, s49⟩ | y49
      rotate_left
      · have Hr49 := Lib.hid hr49
        have HR49 := Lib.hid (bad_up HT5.out (bad_up HZ38.out (bad_here HE48.out hr49)))
        clear hr49
        go_wp2_with fail
        skip
        refine Calls.mono HC49.out ?_
        intro e w49 hp
        obtain ⟨rfl, hg49⟩ := hp.bad Hr49.out
        have HF49 := Lib.hid (show JcPost g S R w (thrown y49) w49 from by rw [← HWw.out]; exact JcPost.bad HR49.out (H48.out.at_.lost hg49 hgW hSg))
        clear hp hg49
        unfold thrown
        go_wp2
        exact ⟨rfl, HF49.out⟩
      have Hr49 := Lib.hid hr49
      have HE49 := Lib.hid (ok_here HE48.out hr49)
      have hz49 : s49.size ≤ 60000 := Nat.le_trans (digR_shr _ v49 s49 hr49) H48.out.at_.sz
      have hq49 := digR_int hr49
      have hk49 : s49.size ≤ s48.size := digR_shr _ v49 s49 hr49
      clear hr49
      go_wp2_with fail
      skip
      refine Calls.mono HC49.out ?_
      intro e w49 hp
      obtain ⟨rfl, hx49, hg49⟩ := hp.ok Hr49.out
      have H49 := Lib.hid (H48.out.call hx49 hg49 hz49 hgW hSg)
      clear hp hx49 hg49 HC49
      have y50 : w49.cell? ⟨J38, 3, none⟩ = some (.int .i64 0) := H49.out.j.cell 3
      have z50 : w49.frozen? ⟨J38, 3, none⟩ = false := H49.out.j.thaw 3
      have hl50 : J38 < w49.heap.size := H49.out.j.lt
      have H50 := Lib.hid (H49.out.set (cs' := #[.string v40, .int .i64 v43, .int .i64 v46, .int .i64 v49, .string ⟨#[]⟩]) 3 (.int .i64 v49) rfl hgW hSW)
      obtain ⟨w50, hw50⟩ : ∃ q, w49.setCell ⟨J38, 3, none⟩ (.int .i64 v49) = q := ⟨_, rfl⟩
      rw [hw50] at H50
      have Hw50 := Lib.hid hw50
      clear hw50
      have HC51 := Lib.hid (smust g s49 kTag w50 H50.out.at_.sx)
      rcases hr51 : mustR kTag s49 with ⟨v51, s51⟩ | y51
      rotate_left
      · have Hr51 := Lib.hid hr51
        have HR51 := Lib.hid (bad_up HT5.out (bad_up HZ38.out (bad_here HE49.out hr51)))
        clear hr51
        go_wp2_with fail
        rw [Hw50.out]
        refine Calls.mono HC51.out ?_
        intro e w51 hp
        obtain ⟨rfl, hg51⟩ := hp.bad Hr51.out
        have HF51 := Lib.hid (show JcPost g S R w (thrown y51) w51 from by rw [← HWw.out]; exact JcPost.bad HR51.out (H50.out.at_.lost hg51 hgW hSg))
        clear hp hg51
        unfold thrown
        go_wp2
        exact ⟨rfl, HF51.out⟩
      have Hr51 := Lib.hid hr51
      have HE51 := Lib.hid (ok_here HE49.out hr51)
      have hz51 : s51.size ≤ 60000 := Nat.le_trans (mustR_shr _ _ v51 s51 hr51) H50.out.at_.sz
      have hk51 : s51.size + 1 ≤ s49.size := by
        have h := mustR_less hr51
        have e : 1 ≤ (kTag : ByteArray).size := by decide
        omega
      clear hr51
      go_wp2_with fail
      rw [Hw50.out]
      refine Calls.mono HC51.out ?_
      intro e w51 hp
      obtain ⟨rfl, hx51, hg51⟩ := hp.ok Hr51.out
      have H51 := Lib.hid (H50.out.call hx51 hg51 hz51 hgW hSg)
      clear hp hx51 hg51 HC51
      have HC52 := Lib.hid (squoted g s51 w51 H51.out.at_.sx H51.out.at_.sz)
      rcases hr52 : quotR s51 with ⟨v52, s52⟩ | y52
      rotate_left
      · have Hr52 := Lib.hid hr52
        have HR52 := Lib.hid (bad_up HT5.out (bad_up HZ38.out (bad_here HE51.out hr52)))
        clear hr52
        go_wp2_with fail
        skip
        refine Calls.mono HC52.out ?_
        intro e w52 hp
        obtain ⟨rfl, hg52⟩ := hp.bad Hr52.out
        have HF52 := Lib.hid (show JcPost g S R w (thrown y52) w52 from by rw [← HWw.out]; exact JcPost.bad HR52.out (H51.out.at_.lost hg52 hgW hSg))
        clear hp hg52
        unfold thrown
        go_wp2
        exact ⟨rfl, HF52.out⟩
      have Hr52 := Lib.hid hr52
      have HE52 := Lib.hid (ok_here HE51.out hr52)
      have hz52 : s52.size ≤ 60000 := Nat.le_trans (quotR_shr _ v52 s52 hr52) H51.out.at_.sz
      have hq52 := Nat.le_trans (quotR_room hr52) H51.out.at_.sz
      have hk52 : s52.size ≤ s51.size := quotR_shr _ v52 s52 hr52
      clear hr52
      go_wp2_with fail
      skip
      refine Calls.mono HC52.out ?_
      intro e w52 hp
      obtain ⟨rfl, hx52, hg52⟩ := hp.ok Hr52.out
      have H52 := Lib.hid (H51.out.call hx52 hg52 hz52 hgW hSg)
      clear hp hx52 hg52 HC52
      have y53 : w52.cell? ⟨J38, 4, none⟩ = some (.string ⟨#[]⟩) := H52.out.j.cell 4
      have z53 : w52.frozen? ⟨J38, 4, none⟩ = false := H52.out.j.thaw 4
      have hl53 : J38 < w52.heap.size := H52.out.j.lt
      have H53 := Lib.hid (H52.out.set (cs' := #[.string v40, .int .i64 v43, .int .i64 v46, .int .i64 v49, .string v52]) 4 (.string v52) rfl hgW hSW)
      obtain ⟨w53, hw53⟩ : ∃ q, w52.setCell ⟨J38, 4, none⟩ (.string v52) = q := ⟨_, rfl⟩
      rw [hw53] at H53
      have Hw53 := Lib.hid hw53
      clear hw53
      have HC54 := Lib.hid (smust g s52 kEnd w53 H53.out.at_.sx)
      rcases hr54 : mustR kEnd s52 with ⟨v54, s54⟩ | y54
      rotate_left
      · have Hr54 := Lib.hid hr54
        have HR54 := Lib.hid (bad_up HT5.out (bad_up HZ38.out (bad_here HE52.out hr54)))
        clear hr54
        go_wp2_with fail
        rw [Hw53.out]
        refine Calls.mono HC54.out ?_
        intro e w54 hp
        obtain ⟨rfl, hg54⟩ := hp.bad Hr54.out
        have HF54 := Lib.hid (show JcPost g S R w (thrown y54) w54 from by rw [← HWw.out]; exact JcPost.bad HR54.out (H53.out.at_.lost hg54 hgW hSg))
        clear hp hg54
        unfold thrown
        go_wp2
        exact ⟨rfl, HF54.out⟩
      have Hr54 := Lib.hid hr54
      have HE54 := Lib.hid (ok_here HE52.out hr54)
      have hz54 : s54.size ≤ 60000 := Nat.le_trans (mustR_shr _ _ v54 s54 hr54) H53.out.at_.sz
      have hk54 : s54.size + 1 ≤ s52.size := by
        have h := mustR_less hr54
        have e : 1 ≤ (kEnd : ByteArray).size := by decide
        omega
      clear hr54
      go_wp2_with fail
      rw [Hw53.out]
      refine Calls.mono HC54.out ?_
      intro e w54 hp
      obtain ⟨rfl, hx54, hg54⟩ := hp.ok Hr54.out
      have H54 := Lib.hid (H53.out.call hx54 hg54 hz54 hgW hSg)
      clear hp hx54 hg54 HC54
      have HRJ55 := Lib.hid (show RJ38 = .ok ⟨v40, v43, v46, v49, v52⟩ s54 from HE54.out.symm)
      have HT255 := Lib.hid (ok_here HZ38.out HRJ55.out)
      have hB55 := H54.out.at_
      have y55 : w54.cell? ⟨S, 1, none⟩ = some (.slice aj nj cj) := hB55.box.cell 1
      have c55_0 : w54.cell? ⟨J38, 0, none⟩ = some (.string v40) := H54.out.j.cell 0
      have c55_1 : w54.cell? ⟨J38, 1, none⟩ = some (.int .i64 v43) := H54.out.j.cell 1
      have c55_2 : w54.cell? ⟨J38, 2, none⟩ = some (.int .i64 v46) := H54.out.j.cell 2
      have c55_3 : w54.cell? ⟨J38, 3, none⟩ = some (.int .i64 v49) := H54.out.j.cell 3
      have c55_4 : w54.cell? ⟨J38, 4, none⟩ = some (.string v52) := H54.out.j.cell 4
      have hJl55 : J38 < w54.heap.size := H54.out.j.lt
      have hSl55 : S < w54.heap.size := hB55.box.lt
      have hnl : l5.length = nj := hB55.own.lj
      have hkn : k = nj := by have := Hlen5.out; omega
      have hnb : nj + 1 ≤ 60000 := by omega
      have hbr := hB55.two.size
      have HB55 := Lib.hid hB55
      have HO55 := Lib.hid (show w54.ownsRow W0.heap.size 39 5 (.slice aj nj cj) nj (rowsV jobV l5) from hB55.own.j)
      clear hB55
      go_wp2_with (at_builtin; refine push_rec jobV rfl _ _ 22 39 (.agg #[.string ⟨#[]⟩, .int .i64 0, .int .i64 0, .int .i64 0, .string ⟨#[]⟩]) 5 56 rfl Tryz.underlying22 infoJobT rfl (by decide) jobV_len jobV_oneT W0.heap.size _ _ _ l5 rfl HO55.out _ ⟨v40, v43, v46, v49, v52⟩ rfl _ (by simp) rfl (by omega) (by unfold maxLen; omega) hbr ?_; intro A' c' w55 ho hg; have HN55 := Lib.hid (JcAt.push_job HB55.out ho hg hgW hSW hSg ⟨Nat.le_trans hq40 (by decide), Nat.le_trans hq52 (by decide)⟩ (show l5.length + 1 ≤ 60000 by omega)); have hbx := Blk.grewT HB55.out.box hg (fun k hk => (HO55.out.lt k hk).1) hSW; have yy55 : w55.cell? ⟨S, 1, none⟩ = some (.slice aj nj cj) := hbx.cell 1; have zz55 : w55.frozen? ⟨S, 1, none⟩ = false := hbx.thaw 1; have ll55 : S < w55.heap.size := hbx.lt; clear hbx ho hg)
      go_roundw
      case rel => exact ⟨k + 1, l5 ++ [⟨v40, v43, v46, v49, v52⟩], _, s54, m, by go_num, by simp; exact Hlen5.out, HN55.out, HT255.out, by omega, by omega⟩
      case measure => rw [sxM_at HN55.out.sx, Hm5.out]; omega
end Go.Proofs.YtcodhhabfacnjaaGreatDoor
