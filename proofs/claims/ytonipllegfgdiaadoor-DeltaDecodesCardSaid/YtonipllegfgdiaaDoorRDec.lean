/- The walk of the reference's Decode. -/
import Derived.Test.YtonipllegfgdiaaDoorRDec1
import Derived.Test.YtonipllegfgdiaaDoorOutside
namespace Go.Proofs.YtonipllegfgdiaaDoor
open Go.RowKit
set_option maxRecDepth 100000 in
set_option maxHeartbeats 4000000 in
theorem rdecode_arg (b : ByteArray) (v : Int) (w : World) (hv : v < 1 ∨ 3 < v) : Calls Tryd.prog 30 #[.string b, .int .i64 v] w (DecPost b v w) := by
  have Hend := Lib.hid (fun w' => DecPost.none_ (w := w) (w' := w') (decF_arg (b := b) hv))
  have hb1 : Below w.heap.size w (w.alloc (.cells #[.int .i64 v] 3)) := (Below.refl _ _).alloc (Nat.le_refl _) _
  have Hb2 := Lib.hid (hb1.alloc hb1.size (.cells #[.int .i64 0, .slice none 0 0, .slice none 0 0, .slice none 0 0] 26))
  have HO := Lib.hid (fun W => outside_yes v 1 3 hv W)
  clear hb1 hv
  go_enter Tryd.func30, Tryd.ntmps30
  go_wp2_with fail
  refine Calls.mono (HO.out _) ?_
  rintro e w1 ⟨rfl, rfl⟩
  go_wp2
  refine bodyPost_ret (v := .tuple #[.agg #[.int .i64 0, .slice none 0 0, .slice none 0 0, .slice none 0 0], .int .i64 1]) (by simp [results, Tryd.results30, go_sem]) rfl ?_
  exact Hend.out _ Hb2.out
/-- What the reading leaves for Decode. -/
def DKept (b : ByteArray) (v : Int) (w0 : World) (R S E : Nat) (W : World) : Prop :=
  Below w0.heap.size w0 W ∧ Blk W R 26 #[.int .i64 0, .slice none 0 0, .slice none 0 0, .slice none 0 0] ∧ match stP v b with
  | .ok st _ => ∃ x : StA, Blk W S 26 (stC st x) ∧ StOwn W (E + 1) st x
  | .bad _ => ∃ cs, Blk W S 26 cs
theorem DKept.grow {b : ByteArray} {v : Int} {w0 W W' : World} {R S E : Nat} (h : DKept b v w0 R S E W) (hg : W.grownBy W' (some E)) (h1 : w0.heap.size ≤ E) (hR : R ≠ E) (hS : S ≠ E) : DKept b v w0 R S E W' := by
  obtain ⟨a1, a2, a3⟩ := h
  refine ⟨grow_keep a1 hg h1, grow_blk hg a2 hR, ?_⟩
  revert a3
  cases stP v b with
  | bad x => exact fun ⟨cs, hb⟩ => ⟨cs, grow_blk hg hb hS⟩
  | ok st r => exact fun ⟨x, hb, ho⟩ => ⟨x, grow_blk hg hb hS, ho.grow hg (Nat.lt_succ_self _)⟩
set_option maxRecDepth 100000 in
set_option maxHeartbeats 4000000 in
theorem rdecode_in (b : ByteArray) (v : Int) (w : World) (hb : b.size ≤ 9223372036854775807) (hv : ¬ (v < 1 ∨ 3 < v)) : Calls Tryd.prog 30 #[.string b, .int .i64 v] w (DecPost b v w) := by
  have Hbad := Lib.hid (fun x h w' => DecPost.none_ (w := w) (w' := w') (decF_bad (b := b) (e := x) hv h))
  have Hchk := Lib.hid (fun st r h h3 w' => DecPost.none_ (w := w) (w' := w') (decF_check (b := b) (r := r) (st := st) hv h h3))
  have Hok := Lib.hid (fun st r h h3 => decF_ok (b := b) (v := v) (r := r) (st := st) hv h h3)
  have hb1 : Below w.heap.size w (w.alloc (.cells #[.int .i64 v] 3)) := (Below.refl _ _).alloc (Nat.le_refl _) _
  have hb2 := hb1.alloc hb1.size (.cells #[.int .i64 0, .slice none 0 0, .slice none 0 0, .slice none 0 0] 26)
  have hb3 := hb2.alloc hb2.size (.cells #[.int .i64 0, .slice none 0 0, .slice none 0 0, .slice none 0 0] 26)
  have HO := Lib.hid (fun W => outside_no v 1 3 (by omega) (by omega) W)
  obtain ⟨W0, hW0⟩ : ∃ W0, W0 = ((w.alloc (.cells #[.int .i64 v] 3)).alloc (.cells #[.int .i64 0, .slice none 0 0, .slice none 0 0, .slice none 0 0] 26)).alloc (.cells #[.int .i64 0, .slice none 0 0, .slice none 0 0, .slice none 0 0] 26) := ⟨_, rfl⟩
  have hsz : W0.heap.size = w.heap.size + 3 := by rw [hW0]; simp
  have BV : Blk W0 w.heap.size 3 #[.int .i64 v] := by rw [hW0]; exact Blk.alloc (Blk.alloc (show Blk _ _ _ _ from heap_alloc_new w _) _) _
  have BR : Blk W0 (w.heap.size + 1) 26 #[.int .i64 0, .slice none 0 0, .slice none 0 0, .slice none 0 0] := by
    have h := heap_alloc_new (w.alloc (.cells #[.int .i64 v] 3)) (.cells #[.int .i64 0, .slice none 0 0, .slice none 0 0, .slice none 0 0] 26)
    rw [show (w.alloc (.cells #[.int .i64 v] 3)).heap.size = w.heap.size + 1 by simp] at h
    rw [hW0]; exact Blk.alloc (show Blk _ _ _ _ from h) _
  have BS : Blk W0 (w.heap.size + 2) 26 #[.int .i64 0, .slice none 0 0, .slice none 0 0, .slice none 0 0] := by
    have h := heap_alloc_new ((w.alloc (.cells #[.int .i64 v] 3)).alloc (.cells #[.int .i64 0, .slice none 0 0, .slice none 0 0, .slice none 0 0] 26)) (.cells #[.int .i64 0, .slice none 0 0, .slice none 0 0, .slice none 0 0] 26)
    rw [show ((w.alloc (.cells #[.int .i64 v] 3)).alloc (.cells #[.int .i64 0, .slice none 0 0, .slice none 0 0, .slice none 0 0] 26)).heap.size = w.heap.size + 2 by simp] at h
    rw [hW0]; exact h
  have hb3 : Below w.heap.size w W0 := by rw [hW0]; exact hb3
  have hRd := readAll 92 #[.pointer (some ⟨w.heap.size, 0, none⟩), .pointer (some ⟨w.heap.size + 2, 0, none⟩)] b W0 hb (Go.Proofs.enters_of Tryd.func92 (by kernel_rfl) rfl) (stP v b).st (DKept b v w (w.heap.size + 1) (w.heap.size + 2) W0.heap.size)
    (fun W u h => h.grow (grow_set _ _ _ _) (by omega) (by omega) (by omega)) (fun W W' h _ hg => h.grow hg (by omega) (by omega) (by omega))
    (fun W hB hz hx => by
      have h1 := BV.below hB (by omega)
      have h2 := BS.below hB (by omega)
      have h3 := BR.below hB (by omega)
      have hd : Calls Tryd.prog 92 #[.pointer (some ⟨W0.heap.size + 1, 0, none⟩), .pointer (some ⟨w.heap.size, 0, none⟩), .pointer (some ⟨w.heap.size + 2, 0, none⟩)] W (D1Post (W0.heap.size + 1) (w.heap.size + 2) v b W) := by
        by_cases h2v : 2 < v
        · exact rdec1_yes _ _ _ v b W hx h1 h2 (by omega) (by omega) (by omega) h2v
        · exact rdec1_no _ _ _ v b W hx h1 h2 (by omega) (by omega) (by omega) h2v
      refine Calls.mono hd ?_
      rintro e W' ⟨hT, hp⟩
      have hk : Below w.heap.size w W' := hT.below (hb3.trans (hB.mono hb3.size)) (by omega) (by omega)
      have hR := hT.blk h3 (by omega) (by omega)
      have hE := hT.block W0.heap.size (by omega) (by omega) (by omega)
      unfold DKept
      cases hst : stP v b with
      | bad x =>
        rw [hst] at hp
        exact ⟨hp.1, hE, hk, hR, hp.2⟩
      | ok st r =>
        rw [hst] at hp
        obtain ⟨p1, p2, x, p3, p4⟩ := hp
        exact ⟨⟨p1, p2⟩, hE, hk, hR, x, p3, ⟨ownT_base p4.j (by omega), ownT_base p4.n (by omega), ownT_base p4.l (by omega), p4.lj, p4.ln, p4.ll⟩⟩)
  have hgd := stP_good v hb
  have hcs := endP_cases hgd
  have hszs := fun st r h => stP_sizes (v := v) (b := b) (st := st) (r := r) h
  have HRd := Lib.hid hRd
  clear hRd
  have Hcs := Lib.hid hcs
  have Hsz := Lib.hid hszs
  have HW0 := Lib.hid hW0
  have HS0 := Lib.hid hsz
  clear hb1 hb2 hb3 hv hb hW0 hsz BV BR BS hgd hcs hszs
  go_enter Tryd.func30, Tryd.ntmps30
  go_wp2_with fail
  refine Calls.mono (HO.out _) ?_
  rintro e w1 ⟨rfl, rfl⟩
  have hmf : ∀ (fn : Fn) (first cap : Array Value) (w : World), (Instr.makeFunc fn first cap).run Tryd.prog w = .ok (.func fn first cap) w := fun _ _ _ _ => rfl
  go_wp2_with fail
  rw [← HW0.out]
  refine Calls.mono HRd.out ?_
  rintro e w2 ⟨rfl, hk⟩
  obtain ⟨hbA, hRb, hk3⟩ := hk
  have HRb := Lib.hid hRb
  have HKb := Lib.hid hbA
  have hRl := hRb.lt
  have HS0' := HS0
  have u0 : w2.frozen? ⟨w.heap.size + 1, 0, none⟩ = false := hRb.thaw 0
  have s0 : w2.cell? ⟨w.heap.size + 1, 0, none⟩ = some (.int .i64 0) := hRb.cell 0
  have u1 : w2.frozen? ⟨w.heap.size + 1, 1, none⟩ = false := hRb.thaw 1
  have s1 : w2.cell? ⟨w.heap.size + 1, 1, none⟩ = some (.slice none 0 0) := hRb.cell 1
  have u2 : w2.frozen? ⟨w.heap.size + 1, 2, none⟩ = false := hRb.thaw 2
  have s2 : w2.cell? ⟨w.heap.size + 1, 2, none⟩ = some (.slice none 0 0) := hRb.cell 2
  have u3 : w2.frozen? ⟨w.heap.size + 1, 3, none⟩ = false := hRb.thaw 3
  have s3 : w2.cell? ⟨w.heap.size + 1, 3, none⟩ = some (.slice none 0 0) := hRb.cell 3
  rcases Hcs.out with ⟨x, hx0, hxE, hres⟩ | ⟨st, r, hst, hE0, hres⟩
  · rw [hxE]
    have hne : ((x : Int) == 0) = false := by rw [beq_eq_false_iff_ne]; omega
    have hne2 : ((x : Int) != 0) = true := by rw [bne_iff_ne]; omega
    have hR4 := ((((HRb.out.set 0 (.int .i64 0)).set 1 (.slice none 0 0)).set 2 (.slice none 0 0)).set 3 (.slice none 0 0))
    have q0 := (show _ = (some (.int .i64 0) : Option Value) from hR4.cell 0)
    have q1 := (show _ = (some (.slice none 0 0) : Option Value) from hR4.cell 1)
    have q2 := (show _ = (some (.slice none 0 0) : Option Value) from hR4.cell 2)
    have q3 := (show _ = (some (.slice none 0 0) : Option Value) from hR4.cell 3)
    have hK4 := Lib.hid (grow_keep (grow_keep (grow_keep (grow_keep HKb.out (grow_set _ (w.heap.size + 1) 0 (.int .i64 0)) (by omega)) (grow_set _ (w.heap.size + 1) 1 (.slice none 0 0)) (by omega)) (grow_set _ (w.heap.size + 1) 2 (.slice none 0 0)) (by omega)) (grow_set _ (w.heap.size + 1) 3 (.slice none 0 0)) (by omega))
    clear hR4
    have Hend := Lib.hid (Hbad.out x hres _ hK4.out)
    clear hres hxE hk3 hbA hRb
    go_wp2
    refine bodyPost_ret (v := .tuple #[.agg #[.int .i64 0, .slice none 0 0, .slice none 0 0, .slice none 0 0], .int .i64 (x : Int)]) (by simp [results, Tryd.results30, go_sem, *]) rfl ?_
    exact Hend.out
  · rw [hE0]
    rw [hst] at hk3
    obtain ⟨x, hB, hO⟩ := hk3
    obtain ⟨z1, z2, z3, z4, z5, z6⟩ := Hsz.out st r hst
    have hAt := hO.at_ (by have := hO.lj; omega) (by have := hO.ln; omega) (by have := hO.ll; omega) z4 z5 z6
    have HAt := Lib.hid hAt
    have HO2 := Lib.hid hO
    have HC := Lib.hid (rcheck_any st x w2 hAt)
    have hSl := hB.lt
    have HB := Lib.hid hB
    have Hchk' := Lib.hid (Hchk.out st r hres)
    have Hok' := Lib.hid (Hok.out st r hres)
    have v0 : w2.cell? ⟨w.heap.size + 1 + 1, 0, none⟩ = some (.int .i64 st.rev) := hB.cell 0
    have v1 : w2.cell? ⟨w.heap.size + 1 + 1, 1, none⟩ = some (.slice x.aj x.nj x.cj) := hB.cell 1
    have v2 : w2.cell? ⟨w.heap.size + 1 + 1, 2, none⟩ = some (.slice x.an x.nn x.cn) := hB.cell 2
    have v3 : w2.cell? ⟨w.heap.size + 1 + 1, 3, none⟩ = some (.slice x.al x.nl x.cl) := hB.cell 3
    obtain ⟨E, hE⟩ : ∃ E, checkE st = E := ⟨_, rfl⟩
    unfold RCPost at HC
    rw [hE] at HC Hchk' Hok'
    have Hst := Lib.hid hst
    unfold stC at HC
    clear hE hst hres hE0 hbA hRb hB hO hAt z1 z2 z3 z4 z5 z6
    go_wp2_with fail
    refine Calls.mono HC.out ?_
    rintro e w9 ⟨rfl, hb9⟩
    have HR9 := Lib.hid (HRb.out.below hb9 hRl)
    have HS9 := HB.out.below hb9 hSl
    have HK9 := Lib.hid (HKb.out.trans (hb9.mono HKb.out.size))
    have Hb9 := Lib.hid hb9
    have hsz9 := hb9.size
    clear v0 v1 v2 v3
    have uu0 : w9.frozen? ⟨w.heap.size + 1, 0, none⟩ = false := HR9.out.thaw 0
    have ss0 : w9.cell? ⟨w.heap.size + 1, 0, none⟩ = some (.int .i64 0) := HR9.out.cell 0
    have uu1 : w9.frozen? ⟨w.heap.size + 1, 1, none⟩ = false := HR9.out.thaw 1
    have ss1 : w9.cell? ⟨w.heap.size + 1, 1, none⟩ = some (.slice none 0 0) := HR9.out.cell 1
    have uu2 : w9.frozen? ⟨w.heap.size + 1, 2, none⟩ = false := HR9.out.thaw 2
    have ss2 : w9.cell? ⟨w.heap.size + 1, 2, none⟩ = some (.slice none 0 0) := HR9.out.cell 2
    have uu3 : w9.frozen? ⟨w.heap.size + 1, 3, none⟩ = false := HR9.out.thaw 3
    have ss3 : w9.cell? ⟨w.heap.size + 1, 3, none⟩ = some (.slice none 0 0) := HR9.out.cell 3
    have vv0 : w9.cell? ⟨w.heap.size + 1 + 1, 0, none⟩ = some (.int .i64 st.rev) := HS9.cell 0
    have vv1 : w9.cell? ⟨w.heap.size + 1 + 1, 1, none⟩ = some (.slice x.aj x.nj x.cj) := HS9.cell 1
    have vv2 : w9.cell? ⟨w.heap.size + 1 + 1, 2, none⟩ = some (.slice x.an x.nn x.cn) := HS9.cell 2
    have vv3 : w9.cell? ⟨w.heap.size + 1 + 1, 3, none⟩ = some (.slice x.al x.nl x.cl) := HS9.cell 3
    clear HS9 hb9
    by_cases h0 : E = 0
    · subst h0
      have Hres := Lib.hid (Hok'.out rfl)
      have hR4 := ((((HR9.out.set 0 (.int .i64 st.rev)).set 1 (.slice x.aj x.nj x.cj)).set 2 (.slice x.an x.nn x.cn)).set 3 (.slice x.al x.nl x.cl))
      have q0 := (show _ = (some (.int .i64 st.rev) : Option Value) from hR4.cell 0)
      have q1 := (show _ = (some (.slice x.aj x.nj x.cj) : Option Value) from hR4.cell 1)
      have q2 := (show _ = (some (.slice x.an x.nn x.cn) : Option Value) from hR4.cell 2)
      have q3 := (show _ = (some (.slice x.al x.nl x.cl) : Option Value) from hR4.cell 3)
      have hK4 := Lib.hid (grow_keep (grow_keep (grow_keep (grow_keep HK9.out (grow_set _ (w.heap.size + 1) 0 (.int .i64 st.rev)) (by omega)) (grow_set _ (w.heap.size + 1) 1 (.slice x.aj x.nj x.cj)) (by omega)) (grow_set _ (w.heap.size + 1) 2 (.slice x.an x.nn x.cn)) (by omega)) (grow_set _ (w.heap.size + 1) 3 (.slice x.al x.nl x.cl)) (by omega))
      clear hR4
      go_wp2
      refine bodyPost_ret (v := .tuple #[.agg #[.int .i64 st.rev, .slice x.aj x.nj x.cj, .slice x.an x.nn x.cn, .slice x.al x.nl x.cl], .int .i64 0]) (by simp [results, Tryd.results30, go_sem, *]) rfl ?_
      refine ⟨st, x, 0, rfl, Hres.out, ?_, hK4.out⟩
      exact stAt_sets HAt.out HO2.out.j HO2.out.n HO2.out.l (by have := HS0.out; omega) (by have := HS0.out; omega) (by have := HS0.out; omega) Hb9.out _ _ _ _
    · have hne : (E != 0) = true := bne_iff_ne.2 h0
      have hR4 := ((((HR9.out.set 0 (.int .i64 0)).set 1 (.slice none 0 0)).set 2 (.slice none 0 0)).set 3 (.slice none 0 0))
      have q0 := (show _ = (some (.int .i64 0) : Option Value) from hR4.cell 0)
      have q1 := (show _ = (some (.slice none 0 0) : Option Value) from hR4.cell 1)
      have q2 := (show _ = (some (.slice none 0 0) : Option Value) from hR4.cell 2)
      have q3 := (show _ = (some (.slice none 0 0) : Option Value) from hR4.cell 3)
      have hK4 := Lib.hid (grow_keep (grow_keep (grow_keep (grow_keep HK9.out (grow_set _ (w.heap.size + 1) 0 (.int .i64 0)) (by omega)) (grow_set _ (w.heap.size + 1) 1 (.slice none 0 0)) (by omega)) (grow_set _ (w.heap.size + 1) 2 (.slice none 0 0)) (by omega)) (grow_set _ (w.heap.size + 1) 3 (.slice none 0 0)) (by omega))
      clear hR4
      have Hend := Lib.hid (Hchk'.out h0 _ hK4.out)
      go_wp2
      refine bodyPost_ret (v := .tuple #[.agg #[.int .i64 0, .slice none 0 0, .slice none 0 0, .slice none 0 0], .int .i64 E]) (by simp [results, Tryd.results30, go_sem, *]) rfl ?_
      exact Hend.out
theorem rdecode_any (b : ByteArray) (v : Int) (w : World) (hb : b.size ≤ 9223372036854775807) : Calls Tryd.prog 30 #[.string b, .int .i64 v] w (DecPost b v w) := by
  by_cases hv : v < 1 ∨ 3 < v
  · exact rdecode_arg b v w hv
  · exact rdecode_in b v w hb hv
theorem wdecode_any (b : ByteArray) (v : Int) (w : World) (hb : b.size ≤ 9223372036854775807) (hT : Tabs w) : Calls Tryd.prog 29 #[.string b, .int .i64 v] w (DecPost b v w) := by
  by_cases hv : v < 1 ∨ 3 < v
  · exact wdecode_arg b v w hv
  · by_cases h2 : 2 < v
    · exact wdecode_1 b v w hb hT hv h2
    · exact wdecode_0 b v w hb hT hv h2
end Go.Proofs.YtonipllegfgdiaaDoor
