/- The walk of delta.Encode. -/
import Derived.Test.YtonipllegfgdiaaDoorPlEnc
import Derived.Test.YtonipllegfgdiaaDoorDChk
namespace Go.Proofs.YtonipllegfgdiaaDoor
open Go.RowKit
/-- On the way: the writer has written l; the delta's box and the variable of the writer stand. -/
structure EGo (w0 w : World) (base g p D : Nat) (l : List UInt8) (cs : Array Value) (N : Nat) : Prop where
  ok : WrOk w base g l
  keep : WKeep base g w0 w
  bD : Blk w D 40 cs
  bp : Blk w p 98 #[.pointer (some ⟨g, 0, none⟩)]
  nD : D ≠ g
  np : p ≠ g
  len : l.length ≤ N
theorem EGo.next {w0 w w' : World} {base g p D N : Nat} {l k : List UInt8} {cs : Array Value} (h : EGo w0 w base g p D l cs N) (ha : WrOk w' base g (l ++ k)) (hk : WKeep base g w w') (hkl : k.length ≤ 4000) : EGo w0 w' base g p D (l ++ k) cs (N + 4000) :=
  ⟨ha, h.keep.trans hk, hk.blk h.bD (by decide) h.nD, hk.blk h.bp (by decide) h.np, h.nD, h.np, by have := h.len; rw [List.length_append]; omega⟩
theorem EGo.alloc {w0 w : World} {base g p D N : Nat} {l : List UInt8} {cs : Array Value} (h : EGo w0 w base g p D l cs N) (o : Obj) : EGo w0 (w.alloc o) base g p D l cs N :=
  have hb : Below w.heap.size w (w.alloc o) := (Below.refl _ _).alloc (Nat.le_refl _) _
  ⟨h.ok.below hb, h.keep.trans (WKeep.of_below hb), h.bD.alloc _, h.bp.alloc _, h.nD, h.np, h.len⟩
theorem numL_len4 (n : Nat) : (numL n).length ≤ 4000 := by have := numL_length n; omega
theorem putL_len4 {α : Type} {enc : α → List UInt8} {xs : List α} (h : ∀ x, (enc x).length ≤ 85) (hn : xs.length ≤ 40) : (putL enc xs).length ≤ 4000 := by
  have h1 := flat_len h xs
  have h2 := numL_len xs.length
  unfold putL
  rw [List.length_append]; omega
theorem txtL_len85 (x : ByteArray) : (txtL x).length ≤ 85 := by have := txtL_len x; omega
/-- A writer just made. -/
theorem WrOk.new {w : World} {base : Nat} (hT : Tabs w) (h3 : ren.g 3 < base) (h4 : ren.g 4 < base) (hb : base ≤ w.heap.size) : WrOk (w.alloc (.cells #[.slice none 0 0] 101)) base w.heap.size [] :=
  have hbl : Below w.heap.size w (w.alloc (.cells #[.slice none 0 0] 101)) := (Below.refl _ _).alloc (Nat.le_refl _) _
  ⟨⟨hb, none, 0, 0, heap_alloc_new w _, World.ownsRow_nil _ _ _ _⟩, hT.below hbl, h3, h4, Nat.le_trans hb hbl.size⟩
theorem Tabs.lt {w : World} (h : Tabs w) : ren.g 3 < w.heap.size ∧ ren.g 4 < w.heap.size := by
  have lt : ∀ {a : Addr} {v : Value}, w.cell? a = some v → a.block < w.heap.size := fun {a v} hc => by
    rcases Nat.lt_or_ge a.block w.heap.size with h' | h'
    · exact h'
    · simp [World.cell?, Array.getElem?_eq_none h'] at hc
  exact ⟨lt (h.1 0 (by decide)), lt (h.2 0 (by decide)).1⟩
/-- The loop over the three lists of names. -/
def LoopE (w0 : World) (base g p S : Nat) (L5 : List UInt8) (cs ss : Array Value) (gs : List (List ByteArray)) (i : Value) (wr : World) : Prop :=
  ∃ k : Nat, k ≤ 3 ∧ i = .int .i64 k ∧ EGo w0 wr base g p base (L5 ++ (gs.take k).flatMap (putL txtL)) cs (20000 + 4000 * k) ∧ Blk wr S 38 ss
set_option maxRecDepth 100000 in
set_option maxHeartbeats 4000000 in
theorem dencode_any (d : DeltaD) (x : DelA) (w : World) (hD : DelAt w w.heap.size d x) (hT : Tabs w) (hf1 : -9223372036854775808 ≤ d.from_) (hf2 : d.from_ ≤ 9223372036854775807) :
    Calls Tryd.prog 27 #[.agg (dC d x)] w (DEPost d w) := by
  have hb1 : Below w.heap.size w (w.alloc (.cells (dC d x) 40)) := (Below.refl _ _).alloc (Nat.le_refl _) _
  have hB1 : Blk (w.alloc (.cells (dC d x) 40)) w.heap.size 40 (dC d x) := heap_alloc_new w _
  have hC := dcheck_any d x _ (hD.up hb1) (hT.below hb1) hf1 hf2
  obtain ⟨E, hE⟩ : ∃ E, deltaE d = E := ⟨_, rfl⟩
  unfold DCPost at hC
  rw [hE] at hC
  have HC := Lib.hid hC
  have HE := Lib.hid hE
  have HD := Lib.hid hD
  have HT := Lib.hid hT
  have Hb1 := Lib.hid hb1
  have HB1 := Lib.hid hB1
  have Hbad := Lib.hid (fun (h : E ≠ 0) w' => DEPost.bad (w := w) (w' := w') hE h)
  have Hlarge := Lib.hid (fun (h : E = 0) w' => DEPost.large (w := w) (w' := w') (hE.trans h))
  have Hok := Lib.hid (fun (h : E = 0) w' s => DEPost.ok (w := w) (w' := w') (s := s) (hE.trans h))
  have Hgood := Lib.hid (fun (h : E = 0) => dgood (hE.trans h))
  clear hC hE hD hT hb1 hB1 hf1 hf2
  obtain ⟨from_, to_, jobs, nodes, leases, gj, gn, gl⟩ := d
  obtain ⟨aj, nj, cj, an, nn, cn, al, nl, cl, agj, ngj, cgj, agn, ngn, cgn, agl, ngl, cgl⟩ := x
  unfold dC at *
  dsimp only at *
  go_enter Tryd.func27, Tryd.ntmps27
  go_wp2_with fail
  refine Calls.mono HC.out ?_
  rintro e w1 ⟨rfl, hb2⟩
  by_cases h0 : E = 0
  rotate_left
  · have hne : (E != 0) = true := bne_iff_ne.2 h0
    have Hend := Lib.hid (Hbad.out h0 w1 (Hb1.out.trans (hb2.mono Hb1.out.size)))
    go_wp2
    go_ret2
    exact Hend.out
  subst h0
  have G := Lib.hid (Hgood.out rfl)
  have gt0 := G.out.t0
  have gt1 := G.out.t1
  have gt2 := G.out.t2
  dsimp only at gt0 gt1 gt2
  have hbA := Hb1.out.trans (hb2.mono Hb1.out.size)
  have hBD : Blk w1 w.heap.size 40 _ := HB1.out.below hb2 HB1.out.lt
  have hsz : w.heap.size < w1.heap.size := hBD.lt
  have hTl := HT.out.lt
  have hw0 := WrOk.new (HT.out.below hbA) hTl.1 hTl.2 (Nat.le_of_lt hsz)
  have hbW : Below w1.heap.size w1 (w1.alloc (.cells #[.slice none 0 0] 101)) := (Below.refl _ _).alloc (Nat.le_refl _) _
  have hsW : (w1.alloc (.cells #[.slice none 0 0] 101)).heap.size = w1.heap.size + 1 := by simp
  have hbP : Below (w1.alloc (.cells #[.slice none 0 0] 101)).heap.size (w1.alloc (.cells #[.slice none 0 0] 101)) ((w1.alloc (.cells #[.slice none 0 0] 101)).alloc (.cells #[.pointer (some ⟨w1.heap.size, 0, none⟩)] 98)) := (Below.refl _ _).alloc (Nat.le_refl _) _
  have hbp : Blk ((w1.alloc (.cells #[.slice none 0 0] 101)).alloc (.cells #[.pointer (some ⟨w1.heap.size, 0, none⟩)] 98)) (w1.heap.size + 1) 98 #[.pointer (some ⟨w1.heap.size, 0, none⟩)] := by
    have := heap_alloc_new (w1.alloc (.cells #[.slice none 0 0] 101)) (.cells #[.pointer (some ⟨w1.heap.size, 0, none⟩)] 98)
    rw [hsW] at this
    exact this
  have H0 := Lib.hid (EGo.mk (w0 := w) (N := 0) (hw0.below hbP) (((WKeep.of_below hbA).trans (WKeep.of_below hbW)).trans (WKeep.of_below hbP)) ((hBD.alloc _).alloc _) hbp (Nat.ne_of_lt hsz) (by omega) (by simp))
  have HY := Lib.hid hBD
  clear hb2 hbA hBD hTl hw0 hbW hsW hbP hbp
  have y0 : w1.cell? ⟨w.heap.size, 0, none⟩ = some (.int .i64 from_) := HY.out.cell 0
  have y1 : w1.cell? ⟨w.heap.size, 1, none⟩ = some (.int .i64 to_) := HY.out.cell 1
  have y2 : w1.cell? ⟨w.heap.size, 2, none⟩ = some (.slice aj nj cj) := HY.out.cell 2
  have y3 : w1.cell? ⟨w.heap.size, 3, none⟩ = some (.slice an nn cn) := HY.out.cell 3
  have y4 : w1.cell? ⟨w.heap.size, 4, none⟩ = some (.slice al nl cl) := HY.out.cell 4
  have y5 : w1.cell? ⟨w.heap.size, 5, none⟩ = some (.slice agj ngj cgj) := HY.out.cell 5
  have y6 : w1.cell? ⟨w.heap.size, 6, none⟩ = some (.slice agn ngn cgn) := HY.out.cell 6
  have y7 : w1.cell? ⟨w.heap.size, 7, none⟩ = some (.slice agl ngl cgl) := HY.out.cell 7
  go_wp2_with fail
  refine Calls.mono (wnumO w.heap.size w1.heap.size _ (from_) _ (by omega) H0.out.ok (by have := H0.out.len; omega)) ?_
  rintro e wk1 ⟨rfl, ok1, k1⟩
  have H1 := Lib.hid (H0.out.next ok1 k1 (numL_len4 _))
  clear y0 y1 y2 y3 y4 y5 y6 y7
  have yp : wk1.cell? ⟨w1.heap.size + 1, 0, none⟩ = some (.pointer (some ⟨w1.heap.size, 0, none⟩)) := H1.out.bp.cell 0
  have hpl : w1.heap.size + 1 < wk1.heap.size := H1.out.bp.lt
  have y0 : wk1.cell? ⟨w.heap.size, 0, none⟩ = some (.int .i64 from_) := H1.out.bD.cell 0
  have y1 : wk1.cell? ⟨w.heap.size, 1, none⟩ = some (.int .i64 to_) := H1.out.bD.cell 1
  have y2 : wk1.cell? ⟨w.heap.size, 2, none⟩ = some (.slice aj nj cj) := H1.out.bD.cell 2
  have y3 : wk1.cell? ⟨w.heap.size, 3, none⟩ = some (.slice an nn cn) := H1.out.bD.cell 3
  have y4 : wk1.cell? ⟨w.heap.size, 4, none⟩ = some (.slice al nl cl) := H1.out.bD.cell 4
  have y5 : wk1.cell? ⟨w.heap.size, 5, none⟩ = some (.slice agj ngj cgj) := H1.out.bD.cell 5
  have y6 : wk1.cell? ⟨w.heap.size, 6, none⟩ = some (.slice agn ngn cgn) := H1.out.bD.cell 6
  have y7 : wk1.cell? ⟨w.heap.size, 7, none⟩ = some (.slice agl ngl cgl) := H1.out.bD.cell 7
  clear ok1 k1 H0
  go_wp2_with fail
  refine Calls.mono (wnumO w.heap.size w1.heap.size _ (to_ - from_) _ (by omega) H1.out.ok (by have := H1.out.len; omega)) ?_
  rintro e wk2 ⟨rfl, ok2, k2⟩
  have H2 := Lib.hid (H1.out.next ok2 k2 (numL_len4 _))
  clear yp hpl y0 y1 y2 y3 y4 y5 y6 y7
  have yp : wk2.cell? ⟨w1.heap.size + 1, 0, none⟩ = some (.pointer (some ⟨w1.heap.size, 0, none⟩)) := H2.out.bp.cell 0
  have hpl : w1.heap.size + 1 < wk2.heap.size := H2.out.bp.lt
  have y2 : wk2.cell? ⟨w.heap.size, 2, none⟩ = some (.slice aj nj cj) := H2.out.bD.cell 2
  have y3 : wk2.cell? ⟨w.heap.size, 3, none⟩ = some (.slice an nn cn) := H2.out.bD.cell 3
  have y4 : wk2.cell? ⟨w.heap.size, 4, none⟩ = some (.slice al nl cl) := H2.out.bD.cell 4
  have y5 : wk2.cell? ⟨w.heap.size, 5, none⟩ = some (.slice agj ngj cgj) := H2.out.bD.cell 5
  have y6 : wk2.cell? ⟨w.heap.size, 6, none⟩ = some (.slice agn ngn cgn) := H2.out.bD.cell 6
  have y7 : wk2.cell? ⟨w.heap.size, 7, none⟩ = some (.slice agl ngl cgl) := H2.out.bD.cell 7
  clear ok2 k2 H1
  go_wp2_with fail
  refine Calls.mono (put_job w.heap.size w1.heap.size (w1.heap.size + 1) _ jobs _ _ _ _ (HD.out.j.below (H2.out.keep.below (Nat.le_of_lt hsz) (Nat.le_refl _))) HD.out.lj (by have h1 := HD.out.lj; have h2 := G.out.nj; dsimp only at h1 h2; omega) G.out.jobs H2.out.ok (by have := H2.out.len; omega) H2.out.bp H2.out.np) ?_
  rintro e wk3 ⟨rfl, ok3, k3⟩
  have H3 := Lib.hid (H2.out.next ok3 k3 (putL_len4 (fun x => jobL_len x 3) (by have h2 := G.out.nj; dsimp only at h2; omega)))
  clear yp hpl y2 y3 y4 y5 y6 y7
  have yp : wk3.cell? ⟨w1.heap.size + 1, 0, none⟩ = some (.pointer (some ⟨w1.heap.size, 0, none⟩)) := H3.out.bp.cell 0
  have hpl : w1.heap.size + 1 < wk3.heap.size := H3.out.bp.lt
  have y3 : wk3.cell? ⟨w.heap.size, 3, none⟩ = some (.slice an nn cn) := H3.out.bD.cell 3
  have y4 : wk3.cell? ⟨w.heap.size, 4, none⟩ = some (.slice al nl cl) := H3.out.bD.cell 4
  have y5 : wk3.cell? ⟨w.heap.size, 5, none⟩ = some (.slice agj ngj cgj) := H3.out.bD.cell 5
  have y6 : wk3.cell? ⟨w.heap.size, 6, none⟩ = some (.slice agn ngn cgn) := H3.out.bD.cell 6
  have y7 : wk3.cell? ⟨w.heap.size, 7, none⟩ = some (.slice agl ngl cgl) := H3.out.bD.cell 7
  clear ok3 k3 H2
  go_wp2_with fail
  refine Calls.mono (put_node w.heap.size w1.heap.size (w1.heap.size + 1) _ nodes _ _ _ _ (HD.out.n.below (H3.out.keep.below (Nat.le_of_lt hsz) (Nat.le_refl _))) HD.out.ln (by have h1 := HD.out.ln; have h2 := G.out.nn; dsimp only at h1 h2; omega) G.out.nodes H3.out.ok (by have := H3.out.len; omega) H3.out.bp H3.out.np) ?_
  rintro e wk4 ⟨rfl, ok4, k4⟩
  have H4 := Lib.hid (H3.out.next ok4 k4 (putL_len4 (fun x => nodeL_len x 3) (by have h2 := G.out.nn; dsimp only at h2; omega)))
  clear yp hpl y3 y4 y5 y6 y7
  have yp : wk4.cell? ⟨w1.heap.size + 1, 0, none⟩ = some (.pointer (some ⟨w1.heap.size, 0, none⟩)) := H4.out.bp.cell 0
  have hpl : w1.heap.size + 1 < wk4.heap.size := H4.out.bp.lt
  have y4 : wk4.cell? ⟨w.heap.size, 4, none⟩ = some (.slice al nl cl) := H4.out.bD.cell 4
  have y5 : wk4.cell? ⟨w.heap.size, 5, none⟩ = some (.slice agj ngj cgj) := H4.out.bD.cell 5
  have y6 : wk4.cell? ⟨w.heap.size, 6, none⟩ = some (.slice agn ngn cgn) := H4.out.bD.cell 6
  have y7 : wk4.cell? ⟨w.heap.size, 7, none⟩ = some (.slice agl ngl cgl) := H4.out.bD.cell 7
  clear ok4 k4 H3
  go_wp2_with fail
  refine Calls.mono (put_lease w.heap.size w1.heap.size (w1.heap.size + 1) _ leases _ _ _ _ (HD.out.l.below (H4.out.keep.below (Nat.le_of_lt hsz) (Nat.le_refl _))) HD.out.ll (by have h1 := HD.out.ll; have h2 := G.out.nl; dsimp only at h1 h2; omega) G.out.leases H4.out.ok (by have := H4.out.len; omega)) ?_
  rintro e wk5 ⟨rfl, ok5, k5⟩
  have H5 := Lib.hid (H4.out.next ok5 k5 (putL_len4 (fun x => leaseL_len x) (by have h2 := G.out.nl; dsimp only at h2; omega)))
  clear yp hpl y4 y5 y6 y7
  have yp : wk5.cell? ⟨w1.heap.size + 1, 0, none⟩ = some (.pointer (some ⟨w1.heap.size, 0, none⟩)) := H5.out.bp.cell 0
  have hpl : w1.heap.size + 1 < wk5.heap.size := H5.out.bp.lt
  have y5 : wk5.cell? ⟨w.heap.size, 5, none⟩ = some (.slice agj ngj cgj) := H5.out.bD.cell 5
  have y6 : wk5.cell? ⟨w.heap.size, 6, none⟩ = some (.slice agn ngn cgn) := H5.out.bD.cell 6
  have y7 : wk5.cell? ⟨w.heap.size, 7, none⟩ = some (.slice agl ngl cgl) := H5.out.bD.cell 7
  clear ok5 k5 H4
  have hS : Blk (wk5.alloc (.cells #[.slice agj ngj cgj, .slice agn ngn cgn, .slice agl ngl cgl] 38)) wk5.heap.size 38 #[.slice agj ngj cgj, .slice agn ngn cgn, .slice agl ngl cgl] := heap_alloc_new wk5 _
  have HS := Lib.hid hS
  have HA := Lib.hid (H5.out.alloc (.cells #[.slice agj ngj cgj, .slice agn ngn cgn, .slice agl ngl cgl] 38))
  have hg5 := Lib.hid H5.out.ok.at_.lt
  clear hS H5
  go_wp2
  generalize hL5 : [] ++ numL from_.toNat ++ numL (to_ - from_).toNat ++ putL (fun x => jobL x 3) jobs ++ putL (fun x => nodeL x 3) nodes ++ putL leaseL leases = L5 at HA
  have HL5 := Lib.hid hL5
  generalize hcs : (#[.int .i64 from_, .int .i64 to_, .slice aj nj cj, .slice an nn cn, .slice al nl cl, .slice agj ngj cgj, .slice agn ngn cgn, .slice agl ngl cgl] : Array Value) = CS at HA
  generalize hS : wk5.heap.size = S at HS hg5
  clear hL5 hcs yp hpl y5 y6 y7
  go_loopw [7, 50] (fun _ i wr => LoopE w w.heap.size w1.heap.size (w1.heap.size + 1) S L5 CS #[.slice agj ngj cgj, .slice agn ngn cgn, .slice agl ngl cgl] [gj, gn, gl] i wr) (fun _ i _ => 3 - (intOf i).toNat)
  case atStart => exact ⟨0, by omega, rfl, by simpa using HA.out, HS.out⟩
  case round =>
    obtain ⟨k, hk, rfl, hgo, hS⟩ := hrel
    have Hgo := Lib.hid hgo
    have HS' := Lib.hid hS
    have yp : wr.cell? ⟨w1.heap.size + 1, 0, none⟩ = some (.pointer (some ⟨w1.heap.size, 0, none⟩)) := hgo.bp.cell 0
    have hpl : w1.heap.size + 1 < wr.heap.size := hgo.bp.lt
    have hSl : S < wr.heap.size := hS.lt
    have yS0 : wr.cell? ⟨S, 0, none⟩ = some (.slice agj ngj cgj) := hS.cell 0
    have yS1 : wr.cell? ⟨S, 1, none⟩ = some (.slice agn ngn cgn) := hS.cell 1
    have yS2 : wr.cell? ⟨S, 2, none⟩ = some (.slice agl ngl cgl) := hS.cell 2
    clear hgo hS
    rcases (show k = 0 ∨ k = 1 ∨ k = 2 ∨ k = 3 by omega) with rfl | rfl | rfl | rfl
    · go_wp2_with fail
      refine Calls.mono (put_string w.heap.size w1.heap.size 0 _ gj _ _ _ _ (HD.out.gj.below (Hgo.out.keep.below (Nat.le_of_lt hsz) (Nat.le_refl _))) HD.out.lgj (by have h1 := HD.out.lgj; have h2 := G.out.ngj; dsimp only at h1 h2; omega) HD.out.ogj Hgo.out.ok (by have := Hgo.out.len; omega)) ?_
      rintro e w2 ⟨rfl, ok, kk⟩
      have Hgo' := Lib.hid (Hgo.out.next ok kk (putL_len4 txtL_len85 (by have h2 := G.out.ngj; dsimp only at h2; omega)))
      have HS2 := Lib.hid (kk.blk HS'.out (by decide) (Nat.ne_of_gt hg5.out))
      clear ok kk yS0 yS1 yS2 yp
      go_wp2
      go_roundw
      case rel => exact ⟨1, by omega, by go_num, by simpa [List.append_assoc] using Hgo'.out, HS2.out⟩
      case measure => simp [intOf]
    · go_wp2_with fail
      refine Calls.mono (put_string w.heap.size w1.heap.size 0 _ gn _ _ _ _ (HD.out.gn.below (Hgo.out.keep.below (Nat.le_of_lt hsz) (Nat.le_refl _))) HD.out.lgn (by have h1 := HD.out.lgn; have h2 := G.out.ngn; dsimp only at h1 h2; omega) HD.out.ogn Hgo.out.ok (by have := Hgo.out.len; omega)) ?_
      rintro e w2 ⟨rfl, ok, kk⟩
      have Hgo' := Lib.hid (Hgo.out.next ok kk (putL_len4 txtL_len85 (by have h2 := G.out.ngn; dsimp only at h2; omega)))
      have HS2 := Lib.hid (kk.blk HS'.out (by decide) (Nat.ne_of_gt hg5.out))
      clear ok kk yS0 yS1 yS2 yp
      go_wp2
      go_roundw
      case rel => exact ⟨2, by omega, by go_num, by simpa [List.append_assoc] using Hgo'.out, HS2.out⟩
      case measure => simp [intOf]
    · go_wp2_with fail
      refine Calls.mono (put_string w.heap.size w1.heap.size 0 _ gl _ _ _ _ (HD.out.gl.below (Hgo.out.keep.below (Nat.le_of_lt hsz) (Nat.le_refl _))) HD.out.lgl (by have h1 := HD.out.lgl; have h2 := G.out.ngl; dsimp only at h1 h2; omega) HD.out.ogl Hgo.out.ok (by have := Hgo.out.len; omega)) ?_
      rintro e w2 ⟨rfl, ok, kk⟩
      have Hgo' := Lib.hid (Hgo.out.next ok kk (putL_len4 txtL_len85 (by have h2 := G.out.ngl; dsimp only at h2; omega)))
      have HS2 := Lib.hid (kk.blk HS'.out (by decide) (Nat.ne_of_gt hg5.out))
      clear ok kk yS0 yS1 yS2 yp
      go_wp2
      go_roundw
      case rel => exact ⟨3, by omega, by go_num, by simpa [List.append_assoc] using Hgo'.out, HS2.out⟩
      case measure => simp [intOf]
    · have hL : L5 ++ ([gj, gn, gl].take 3).flatMap (putL txtL) = deltaL ⟨from_, to_, jobs, nodes, leases, gj, gn, gl⟩ := by rw [← HL5.out]; simp [deltaL]
      have hbl := Hgo.out.keep.below (Nat.le_of_lt hsz) (Nat.le_refl _)
      have hat := Hgo.out.ok.at_
      rw [hL] at hat
      obtain ⟨_, A, m, c, hB, ho⟩ := hat
      have hm := bytes_len ho
      have z0 : wr.cell? ⟨w1.heap.size, 0, none⟩ = some (.slice A m c) := hB.cell 0
      have hrun := run_string_own Tryd.underlying99 Tryd.underlying5 Tryd.underlying9 ho
      by_cases hbig : 6000 < m
      · have Hend := Lib.hid (Hlarge.out trivial wr (by omega) hbl)
        have hd : decide ((6000 : Int) < (m : Int)) = true := decide_eq_true (by omega)
        clear hbl hm hrun ho hB
        go_wp2
        go_ret2
        exact Hend.out
      · have Hend := Lib.hid (Hok.out trivial wr _ (by omega) rfl hbl)
        have hd : decide ((6000 : Int) < (m : Int)) = false := decide_eq_false (by omega)
        clear hbl hm ho hB
        go_wp2
        go_ret2
        exact Hend.out
end Go.Proofs.YtonipllegfgdiaaDoor
