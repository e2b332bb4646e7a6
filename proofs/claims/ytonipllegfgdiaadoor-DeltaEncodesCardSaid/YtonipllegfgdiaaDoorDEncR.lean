/- The walk of the reference's DeltaEncode. -/
import Derived.Test.YtonipllegfgdiaaDoorRRows
import Derived.Test.YtonipllegfgdiaaDoorPlEnc
import Derived.Test.YtonipllegfgdiaaDoorDChkR
namespace Go.Proofs.YtonipllegfgdiaaDoor
open Go.RowKit
theorem putL_len90 {α : Type} {enc : α → List UInt8} {xs : List α} (h : ∀ x, (enc x).length ≤ 85) (hn : xs.length ≤ 40) : (putL enc xs).length ≤ 4000 := by
  have h1 := flat_len h xs
  have h2 := numL_len xs.length
  unfold putL
  rw [List.length_append]; omega
theorem txtL_len90 (x : ByteArray) : (txtL x).length ≤ 85 := by have := txtL_len x; omega
def ROut (P : List UInt8) (gs : List (List ByteArray)) (S : Nat) (ss : Array Value) (w : World) (s i : Value) (wr : World) : Prop :=
  ∃ (k : Nat) (T : ByteArray), k ≤ 3 ∧ i = .int .i64 k ∧ s = .string T ∧ T = bs (P ++ (gs.take k).flatMap (putL txtL)) ∧ T.size ≤ 100000 + 4000 * k ∧ Below w.heap.size w wr ∧ Blk wr S 38 ss
def RIn (N : Nat) (P : List UInt8) (xs : List ByteArray) (n : Nat) (S : Nat) (ss : Array Value) (w : World) (s i : Value) (wr : World) : Prop :=
  ∃ (k : Nat) (T : ByteArray), k ≤ n ∧ i = .int .i64 k ∧ s = .string T ∧ T = bs (P ++ (xs.take k).flatMap txtL) ∧ T.size ≤ N + 85 * k ∧ Below w.heap.size w wr ∧ Blk wr S 38 ss
set_option maxRecDepth 100000 in
set_option maxHeartbeats 4000000 in
theorem rdencode_any (d : DeltaD) (x : DelA) (w : World) (hD : DelAt w w.heap.size d x) :
    Calls Tryd.prog 28 #[.agg (dC d x)] w (DEPost d w) := by
  have hb1 : Below w.heap.size w (w.alloc (.cells (dC d x) 40)) := (Below.refl _ _).alloc (Nat.le_refl _) _
  have hB1 : Blk (w.alloc (.cells (dC d x) 40)) w.heap.size 40 (dC d x) := heap_alloc_new w _
  have hC := rdcheck_any d x _ (hD.up hb1)
  obtain ⟨E, hE⟩ : ∃ E, deltaE d = E := ⟨_, rfl⟩
  unfold DCPost at hC
  rw [hE] at hC
  have HC := Lib.hid hC
  have HE := Lib.hid hE
  have HD := Lib.hid hD
  have Hb1 := Lib.hid hb1
  have HB1 := Lib.hid hB1
  have Hbad := Lib.hid (fun (h : E ≠ 0) w' => DEPost.bad (w := w) (w' := w') hE h)
  have Hlarge := Lib.hid (fun (h : E = 0) w' => DEPost.large (w := w) (w' := w') (hE.trans h))
  have Hok := Lib.hid (fun (h : E = 0) w' s => DEPost.ok (w := w) (w' := w') (s := s) (hE.trans h))
  have Hgood := Lib.hid (fun (h : E = 0) => dgood (hE.trans h))
  clear hC hE hD hb1 hB1
  obtain ⟨from_, to_, jobs, nodes, leases, gj, gn, gl⟩ := d
  obtain ⟨aj, nj, cj, an, nn, cn, al, nl, cl, agj, ngj, cgj, agn, ngn, cgn, agl, ngl, cgl⟩ := x
  unfold dC at *
  dsimp only at *
  go_enter Tryd.func28, Tryd.ntmps28
  go_wp2_with fail
  refine Calls.mono HC.out ?_
  rintro e w1 ⟨rfl, hb2⟩
  have hbA := Hb1.out.trans (hb2.mono Hb1.out.size)
  by_cases h0 : E = 0
  rotate_left
  · have hne : (E != 0) = true := bne_iff_ne.2 h0
    have Hend := Lib.hid (Hbad.out h0 w1 hbA)
    clear hb2 hbA
    go_wp2
    go_ret2
    exact Hend.out
  subst h0
  have G := Lib.hid (Hgood.out rfl)
  have gt0 := G.out.t0
  have gt1 := G.out.t1
  have gt2 := G.out.t2
  dsimp only at gt0 gt1 gt2
  have HY := Lib.hid (show Blk w1 w.heap.size 40 _ from HB1.out.below hb2 HB1.out.lt)
  have hsz : w.heap.size < w1.heap.size := HY.out.lt
  have HbA := Lib.hid hbA
  have b0 := fun d os => cell_regrown (show w1.cell? ⟨w.heap.size, 0, none⟩ = some (.int .i64 from_) from HY.out.cell 0) d os
  have b1 := fun d os => cell_regrown (show w1.cell? ⟨w.heap.size, 1, none⟩ = some (.int .i64 to_) from HY.out.cell 1) d os
  have b2 := fun d os => cell_regrown (show w1.cell? ⟨w.heap.size, 2, none⟩ = some (.slice aj nj cj) from HY.out.cell 2) d os
  have b3 := fun d os => cell_regrown (show w1.cell? ⟨w.heap.size, 3, none⟩ = some (.slice an nn cn) from HY.out.cell 3) d os
  have b4 := fun d os => cell_regrown (show w1.cell? ⟨w.heap.size, 4, none⟩ = some (.slice al nl cl) from HY.out.cell 4) d os
  have b5 := fun d os => cell_regrown (show w1.cell? ⟨w.heap.size, 5, none⟩ = some (.slice agj ngj cgj) from HY.out.cell 5) d os
  have b6 := fun d os => cell_regrown (show w1.cell? ⟨w.heap.size, 6, none⟩ = some (.slice agn ngn cgn) from HY.out.cell 6) d os
  have b7 := fun d os => cell_regrown (show w1.cell? ⟨w.heap.size, 7, none⟩ = some (.slice agl ngl cgl) from HY.out.cell 7) d os
  have hl1 := HD.out.lj
  have hl2 := HD.out.ln
  have hl3 := HD.out.ll
  have hg1 := G.out.nj
  have hg2 := G.out.nn
  have hg3 := G.out.nl
  dsimp only at hl1 hl2 hl3 hg1 hg2 hg3
  have C1 := fun d os => rnum_any from_ (Sort.grow (redrawn w1 d) os) (by omega)
  have C2 := fun d os => rnum_any (to_ - from_) (Sort.grow (redrawn w1 d) os) (by omega)
  have C3 := fun d os => rrows_any jobs nodes leases aj nj cj an nn cn al nl cl 3 (Sort.grow (redrawn w1 d) os)
    ((HD.out.j.below (HbA.out.trans ((below_regrown w1 d os).mono HbA.out.size))).more (Nat.le_trans HbA.out.size (below_regrown w1 d os).size)) hl1 (by omega) G.out.jobs
    ((HD.out.n.below (HbA.out.trans ((below_regrown w1 d os).mono HbA.out.size))).more (Nat.le_trans HbA.out.size (below_regrown w1 d os).size)) hl2 (by omega) G.out.nodes
    ((HD.out.l.below (HbA.out.trans ((below_regrown w1 d os).mono HbA.out.size))).more (Nat.le_trans HbA.out.size (below_regrown w1 d os).size)) hl3 (by omega) G.out.leases
  have s1 : (bs (numL from_.toNat)).size ≤ 17 := by rw [bs_size]; exact numL_len _
  have s2 : (bs (numL (to_ - from_).toNat)).size ≤ 17 := by rw [bs_size]; exact numL_len _
  have s3 : (bs (rowsL jobs nodes leases 3)).size ≤ 12000 := by
    rw [bs_size]
    have q1 := putL_len90 (enc := fun x => jobL x 3) (xs := jobs) (fun x => jobL_len x 3) (by omega)
    have q2 := putL_len90 (enc := fun x => nodeL x 3) (xs := nodes) (fun x => nodeL_len x 3) (by omega)
    have q3 := putL_len90 (enc := leaseL) (xs := leases) leaseL_len (by omega)
    unfold rowsL
    simp only [List.length_append]; omega
  have hfin : bs (numL from_.toNat) ++ bs (numL (to_ - from_).toNat) ++ bs (rowsL jobs nodes leases 3) = bs (numL from_.toNat ++ numL (to_ - from_).toNat ++ rowsL jobs nodes leases 3) := by simp only [bs_append]
  unfold BsPost at C1 C2 C3
  generalize bs (numL from_.toNat) = S1 at C1 s1 hfin
  generalize bs (numL (to_ - from_).toNat) = S2 at C2 s2 hfin
  generalize bs (rowsL jobs nodes leases 3) = S3 at C3 s3 hfin
  have Hfin := Lib.hid hfin
  have H1 := Lib.hid C1
  have H2 := Lib.hid C2
  have H3 := Lib.hid C3
  clear hfin C1 C2 C3 hb2 hbA hl1 hl2 hl3 hg1 hg2 hg3
  go_wp2_with fail
  refine wp_region_quiet_below (by kernel_rfl) (by kernel_rfl) ?_
  go_big_quiet_step ((fail))
  go_big_quiet_step ((fail))
  go_big_quiet_step ((go_at_call 78; exact Calls.regrown_of (H1.out _ _)))
  go_big_quiet_step ((fail))
  go_big_quiet_step ((fail))
  go_big_quiet_step ((fail))
  go_big_quiet_step ((fail))
  go_big_quiet_step ((fail))
  go_big_quiet_step ((go_at_call 78; exact Calls.regrown_of (H2.out _ _)))
  go_big_quiet_step ((fail))
  go_big_quiet_step ((fail))
  go_big_quiet_step ((fail))
  go_big_quiet_step ((fail))
  go_big_quiet_step ((fail))
  go_big_quiet_step ((fail))
  go_big_quiet_step ((fail))
  go_big_quiet_step ((go_at_call 79; exact Calls.regrown_of (H3.out _ _)))
  go_big_quiet_step ((fail))
  go_big_quiet_step ((fail))
  refine wpQuiet_nil ?_
  intro _ hw'
  obtain ⟨⟨nq, osq⟩, hw''⟩ := hw'
  subst hw''
  have hb3 := HbA.out.trans ((below_regrown w1 nq osq).mono HbA.out.size)
  have y5 := b5 nq osq
  have y6 := b6 nq osq
  have y7 := b7 nq osq
  have hsz2 : w.heap.size < (Sort.grow (redrawn w1 nq) osq).heap.size := Nat.lt_of_lt_of_le hsz (below_regrown w1 nq osq).size
  clear b0 b1 b2 b3 b4 b5 b6 b7 H1 H2 H3 hsz
  dsimp only
  generalize Sort.grow (redrawn w1 nq) osq = w2 at hb3 y5 y6 y7 hsz2 ⊢
  have HT := Lib.hid (show (S1 ++ S2 ++ S3).size ≤ 100000 by simp only [ByteArray.size_append]; omega)
  generalize S1 ++ S2 ++ S3 = T0 at Hfin HT ⊢
  have HS := Lib.hid (show Blk (w2.alloc (.cells #[.slice agj ngj cgj, .slice agn ngn cgn, .slice agl ngl cgl] 38)) w2.heap.size 38 #[.slice agj ngj cgj, .slice agn ngn cgn, .slice agl ngl cgl] from heap_alloc_new w2 _)
  have Hb4 := Lib.hid (hb3.alloc hb3.size (.cells #[.slice agj ngj cgj, .slice agn ngn cgn, .slice agl ngl cgl] 38))
  clear hb3 s1 s2 s3
  go_wp2
  generalize hS : w2.heap.size = S at HS
  clear y5 y6 y7
  go_loopw [5, 7, 9, 41, 52] (fun s _ _ i _ wr => ROut (numL from_.toNat ++ numL (to_ - from_).toNat ++ rowsL jobs nodes leases 3) [gj, gn, gl] S #[.slice agj ngj cgj, .slice agn ngn cgn, .slice agl ngl cgl] w s i wr) (fun _ _ _ i _ _ => 3 - (intOf i).toNat)
  case atStart => exact ⟨0, _, by omega, rfl, rfl, by rw [Hfin.out]; simp, by have := HT.out; omega, Hb4.out, HS.out⟩
  case round =>
    clear hS
    obtain ⟨k, T, hk, rfl, rfl, hT, hTs, hb, hB⟩ := hrel
    have HTT := Lib.hid hT
    have Hb := Lib.hid hb
    have HB := Lib.hid hB
    have hSl : S < wr.heap.size := hB.lt
    have hws := hb.size
    clear hT
    by_cases hlt : k < 3
    · obtain ⟨ss, aA, nA, cA, hcell, hget, hsl, hlen, hn, hok⟩ : ∃ (ss : List ByteArray) (aA : Option Addr) (nA cA : Nat), (#[.slice agj ngj cgj, .slice agn ngn cgn, .slice agl ngl cgl] : Array Value)[k]? = some (.slice aA nA cA) ∧ [gj, gn, gl][k]? = some ss ∧ SlAt w w.heap.size 1 aA nA (rowsV strV ss) ∧ ss.length = nA ∧ nA ≤ 40 ∧ NamesOk ss := by
        have q1 := G.out.ngj
        have q2 := G.out.ngn
        have q3 := G.out.ngl
        have p1 := HD.out.lgj
        have p2 := HD.out.lgn
        have p3 := HD.out.lgl
        dsimp only at q1 q2 q3 p1 p2 p3
        rcases (show k = 0 ∨ k = 1 ∨ k = 2 by omega) with rfl | rfl | rfl
        · exact ⟨gj, agj, ngj, cgj, rfl, rfl, HD.out.gj, p1, by omega, HD.out.ogj⟩
        · exact ⟨gn, agn, ngn, cgn, rfl, rfl, HD.out.gn, p2, by omega, HD.out.ogn⟩
        · exact ⟨gl, agl, ngl, cgl, rfl, rfl, HD.out.gl, p3, by omega, HD.out.ogl⟩
      have yS : wr.cell? ⟨S, k, none⟩ = some (.slice aA nA cA) := (hB.cell k).trans hcell
      have HN := Lib.hid (rnum_any (nA : Int) wr (by omega))
      have Hst := Lib.hid (flat_step (putL txtL) hget)
      have Hsl := Lib.hid hsl
      have Hlen := Lib.hid hlen
      have HokN := Lib.hid hok
      have hs4 : (bs (numL nA)).size ≤ 17 := by rw [bs_size]; exact numL_len _
      generalize hX : bs (numL nA) = X at hs4
      have HX := Lib.hid hX
      clear hX hsl hlen hok hcell hget hb hB
      go_wp2_with fail
      refine Calls.mono HN.out ?_
      rintro e w3 ⟨rfl, hb3⟩
      rw [show ((nA : Int)).toNat = nA from by omega, HX.out]
      have Hb3 := Lib.hid (Hb.out.trans (hb3.mono hws))
      have HB3 := Lib.hid (HB.out.below hb3 hSl)
      clear hb3 yS
      go_wp2
      go_loopw [5, 9, 52] (fun s _ i wr => RIn (T.size + 17) (numL from_.toNat ++ numL (to_ - from_).toNat ++ rowsL jobs nodes leases 3 ++ ([gj, gn, gl].take k).flatMap (putL txtL) ++ numL nA) ss nA S #[.slice agj ngj cgj, .slice agn ngn cgn, .slice agl ngl cgl] w s i wr) (fun _ _ i _ => nA - (intOf i).toNat)
      case atStart => exact ⟨0, _, Nat.zero_le _, rfl, rfl, by rw [HTT.out, ← HX.out, bs_append]; simp, by simp only [ByteArray.size_append]; omega, Hb3.out, HB3.out⟩
      case round =>
        obtain ⟨j, U, hj, rfl, rfl, hU, hUs, hbj, hBj⟩ := hrel
        have HU := Lib.hid hU
        have Hbj := Lib.hid hbj
        have HBj := Lib.hid hBj
        have hwj := hbj.size
        clear hU
        by_cases hjl : j < nA
        · obtain ⟨s, hf⟩ : ∃ s, ss[j]? = some s := ⟨_, List.getElem?_eq_getElem (by rw [Hlen.out]; exact hjl)⟩
          obtain ⟨b, off, rfl, hbB, hc⟩ := (Hsl.out.below hbj).rec_ strV_len Hlen.out hf
          have c0 : wr.cell? ⟨b, off + j * 1, none⟩ = some (.string s) := hc 0 _ rfl
          rw [Nat.mul_one] at c0
          have hlb : b < wr.heap.size := by omega
          have HXt := Lib.hid (rtextb_any s wr (HokN.out s (List.mem_of_getElem? hf)))
          have Hst2 := Lib.hid (flat_step txtL hf)
          have hs5 : (bs (txtL s)).size ≤ 85 := by rw [bs_size]; exact txtL_len90 s
          generalize hZ : bs (txtL s) = Z at hs5
          have HZ := Lib.hid hZ
          clear hZ hc hf hbj hBj
          go_wp2_with fail
          refine Calls.mono HXt.out ?_
          rintro e w4 ⟨rfl, hb4⟩
          rw [HZ.out]
          have Hb5 := Lib.hid (Hbj.out.trans (hb4.mono hwj))
          have HB5 := Lib.hid (HBj.out.below hb4 HBj.out.lt)
          clear hb4 c0
          go_wp2
          go_roundw
          case rel => exact ⟨j + 1, U ++ Z, by omega, by go_num, rfl, by rw [HU.out, ← HZ.out, bs_append, Hst2.out, List.append_assoc], by simp only [ByteArray.size_append]; omega, Hb5.out, HB5.out⟩
          case measure => simp [intOf]; omega
        · obtain rfl : nA = j := by omega
          clear hbj hBj
          go_wp2
          go_roundw
          case rel => exact ⟨k + 1, U, by omega, by go_num, rfl, by rw [HU.out, Hst.out]; unfold putL; rw [Hlen.out, ← Hlen.out, List.take_length]; simp only [List.append_assoc], by omega, Hbj.out, HBj.out⟩
          case measure => simp [intOf]; omega
    · obtain rfl : k = 3 := by omega
      have hL : numL from_.toNat ++ numL (to_ - from_).toNat ++ rowsL jobs nodes leases 3 ++ ([gj, gn, gl].take 3).flatMap (putL txtL) = deltaL ⟨from_, to_, jobs, nodes, leases, gj, gn, gl⟩ := by simp [deltaL, rowsL]
      have hTL : T = bs (deltaL ⟨from_, to_, jobs, nodes, leases, gj, gn, gl⟩) := by rw [HTT.out, hL]
      have hTz : T.size = (deltaL ⟨from_, to_, jobs, nodes, leases, gj, gn, gl⟩).length := by rw [hTL, bs_size]
      clear hb hB
      by_cases hbig : 6000 < T.size
      · have Hend := Lib.hid (Hlarge.out trivial wr (by omega) Hb.out)
        have hd : decide ((6000 : Int) < (T.size : Int)) = true := decide_eq_true (by omega)
        clear hTL hTz hL
        go_wp2
        go_ret2
        exact Hend.out
      · have Hend := Lib.hid (Hok.out trivial wr T (by omega) hTL Hb.out)
        have hd : decide ((6000 : Int) < (T.size : Int)) = false := decide_eq_false (by omega)
        clear hTL hTz hL
        go_wp2
        go_ret2
        exact Hend.out
end Go.Proofs.YtonipllegfgdiaaDoor
