/- The walk of up.Bytes. -/
import Derived.Test.YtbbagnfmoecdfaaGreatDoorPlUpB
import Derived.Test.YtbbagnfmoecdfaaGreatDoorDecG
import Derived.Test.YtbbagnfmoecdfaaGreatDoorEnc
set_option linter.unusedVariables false
set_option linter.unusedSimpArgs false
namespace Go.Proofs.YtbbagnfmoecdfaaGreatDoor
open Go.RowKit
set_option maxRecDepth 100000 in
set_option maxHeartbeats 4000000 in
theorem upbytes_any (b : ByteArray) (a c : Int) (w : World) (hb : b.size ≤ 9223372036854775807) (hT : Tabs w) :
    Calls Tryz.prog 8 #[.string b, .int .i64 a, .int .i64 c] w (UBPost b a c w) := by
  have Hend := Lib.hid (fun s E (h : upbF b a c = (s, E)) w' => UBPost.mk' (w := w) (w' := w') h)
  have HD := Lib.hid (wdecode_any b a w hb hT)
  have HT := Lib.hid hT
  clear hb hT
  go_enter Tryz.func8, Tryz.ntmps8
  go_wp2_with fail
  refine Calls.mono (isway_any a c _) ?_
  rintro e w0 ⟨rfl, rfl⟩
  cases hway : isWayB a c
  · have hend := Lib.hid (Hend.out _ _ (upbF_way hway) _ (Below.refl _ _))
    go_wp2
    go_ret2
    exact hend.out
  have hw3 : 1 ≤ a ∧ a ≤ c ∧ c ≤ 3 := by unfold isWayB at hway; simp at hway; omega
  have Hway := Lib.hid hway
  clear hway
  obtain ⟨ha1, hac, hc3⟩ := hw3
  go_wp2_with fail
  refine Calls.mono HD.out ?_
  rintro e w1 ⟨st, x, E, rfl, hd, hA, hb1⟩
  by_cases h0 : E = 0
  rotate_left
  · have e2 : (E != 0) = true := bne_iff_ne.2 h0
    have hend := Lib.hid (Hend.out _ _ (upbF_bad Hway.out hd h0))
    obtain ⟨rev, jobs, nodes, leases⟩ := st
    obtain ⟨aj, nj, cj, an, nn, cn, al, nl, cl⟩ := x
    unfold stC
    dsimp only
    have hB := Lib.hid (hend.out (w1.alloc (.cells #[.int .i64 rev, .slice aj nj cj, .slice an nn cn, .slice al nl cl] 30)) (hb1.trans (Below.mono ((Below.refl w1.heap.size w1).alloc (Nat.le_refl _) _) hb1.size)))
    clear hd hA hb1
    go_wp2
    go_ret2
    exact hB.out
  subst h0
  obtain ⟨hck, htr⟩ := decF_good hd
  have hsz := ck_sizes hck
  have HF := Lib.hid (upbF_ok Hway.out hd)
  have l1 := hA.lj
  have l2 := hA.ln
  have l3 := hA.ll
  have hX : Below w1.heap.size w1 (w1.alloc (.cells (stC st x) 30)) := (Below.refl _ _).alloc (Nat.le_refl _) _
  have hST := steps_any st x a c (w1.alloc (.cells (stC st x) 30)) (hA.up hX) (by omega) (by omega) (by omega) ha1 hac hc3 htr
  have HA := Lib.hid hA
  have HB1 := Lib.hid (hb1.trans (hX.mono hb1.size))
  have HSZ := Lib.hid hsz
  have HOK := Lib.hid (upSt_ok (a := a) (b := c) hA.oj hA.on_)
  have HL := Lib.hid (And.intro l1 (And.intro l2 l3))
  clear hd hA hb1 hck htr hsz l1 l2 l3 hX HD
  obtain ⟨S, hS⟩ : ∃ S, upSt st a c = S := ⟨_, rfl⟩
  rw [hS] at hST
  have HSx := Lib.hid hS
  have HST := Lib.hid hST
  clear hS hST
  obtain ⟨St, hSt⟩ : ∃ S, S = st := ⟨_, rfl⟩
  obtain ⟨X, hXx⟩ : ∃ X, X = x := ⟨_, rfl⟩
  obtain ⟨rev, jobs, nodes, leases⟩ := st
  obtain ⟨aj, nj, cj, an, nn, cn, al, nl, cl⟩ := x
  unfold stC at HST HB1
  dsimp only at HST HB1
  rw [show stC ⟨rev, jobs, nodes, leases⟩ ⟨aj, nj, cj, an, nn, cn, al, nl, cl⟩ = #[.int .i64 rev, .slice aj nj cj, .slice an nn cn, .slice al nl cl] from rfl]
  clear hSt hXx
  go_wp2_with fail
  refine Calls.mono HST.out ?_
  rintro e w2 ⟨x', he, e1, e2, e3, hO, hb⟩
  have he : e = .returned (.agg (stC S x')) := he
  subst he
  have hB2 := HB1.out.trans (hb.mono HB1.out.size)
  have hAt := hO.at_ (by have := HSZ.out; have := HL.out; dsimp only at *; omega) (by have := HSZ.out; have := HL.out; dsimp only at *; omega) (by have := HSZ.out; have := HL.out; dsimp only at *; omega) (by rw [← HSx.out]; exact HOK.out.1) (by rw [← HSx.out]; exact HOK.out.2.1) (by rw [← HSx.out, HOK.out.2.2]; exact HA.out.ol)
  have hEn := wencode_any S x' c w2 hAt (HT.out.below hB2)
  have hF := HF.out
  rw [HSx.out] at hF
  unfold EnPost at hEn
  obtain ⟨T, hT1⟩ : ∃ T, (wencF S c).1 = T := ⟨_, rfl⟩
  obtain ⟨E, hE1⟩ : ∃ E, (wencF S c).2 = E := ⟨_, rfl⟩
  have hp : wencF S c = (T, E) := Prod.ext hT1 hE1
  rw [hT1, hE1] at hEn
  rw [hp] at hF
  have HEn := Lib.hid hEn
  have hend := Lib.hid (Hend.out _ _ hF)
  have HB2 := Lib.hid hB2
  clear hO hb hB2 hAt hEn hF hT1 hE1 hp e1 e2 e3 HST HB1 HOK HSZ HL HA HF HSx
  obtain ⟨rev', jobs', nodes', leases'⟩ := S
  obtain ⟨aj', nj', cj', an', nn', cn', al', nl', cl'⟩ := x'
  unfold stC at HEn ⊢
  dsimp only at HEn ⊢
  go_wp2_with fail
  refine Calls.mono HEn.out ?_
  rintro e w3 ⟨rfl, hb3⟩
  have hfin := Lib.hid (hend.out _ (HB2.out.trans (hb3.mono HB2.out.size)))
  clear hb3
  go_wp2
  go_ret2
  exact hfin.out
end Go.Proofs.YtbbagnfmoecdfaaGreatDoor
