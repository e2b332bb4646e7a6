/- Of the proof of a statement: RJ, WJSONParses. -/
import Derived.Test.YtcodhhabfacnjaaGreatDoorSJpars
import Derived.Test.YtcodhhabfacnjaaGreatDoorSRJ1
set_option linter.unusedVariables false
set_option linter.unusedSimpArgs false
/- The walk of the reference's JSONParse. -/
namespace Go.Proofs.YtcodhhabfacnjaaGreatDoor
open Go.RowKit
/-! The errors that the reading ends in are none of them 0. -/
theorem mustR_good {p s : ByteArray} {N : Nat} (h : s.size ≤ N) : (mustR p s).Good N := by
  unfold mustR; split
  · exact extract_small h
  · exact ⟨by decide, by decide⟩
theorem digR_good {s : ByteArray} {N : Nat} (h : s.size ≤ N) : (digR s).Good N := by
  have h1 : ∀ sg q, q.size ≤ N → (digR1 sg q).Good N := fun sg q hq => by
    unfold digR1; split
    · exact ⟨by decide, by decide⟩
    · exact extract_small hq
  unfold digR; split
  · exact h1 _ _ (extract_small h)
  · exact h1 _ _ h
theorem qRun_good : ∀ (n : Nat) (acc s : ByteArray) {N : Nat}, s.size ≤ N → (qRun n acc s).Good N
  | 0, _, _, _, _ => ⟨by decide, by decide⟩
  | n + 1, acc, s, N, h => by
    rw [qRun]
    split
    · exact extract_small h
    · split
      · exact qRun_good n _ _ (extract_small h)
      · split
        · exact qRun_good n _ _ (extract_small h)
        · split
          · exact qRun_good n _ _ (extract_small h)
          · split
            · exact ⟨by decide, by decide⟩
            · exact qRun_good n _ _ (extract_small h)
theorem quotR_good {s : ByteArray} {N : Nat} (h : s.size ≤ N) : (quotR s).Good N := (mustR_good h).bind fun _ _ h => qRun_good _ _ _ h
theorem jobR_good {s : ByteArray} {N : Nat} (h : s.size ≤ N) : (jobR s).Good N := by
  unfold jobR
  exact (mustR_good h).bind fun _ _ h => (quotR_good h).bind fun _ _ h => (mustR_good h).bind fun _ _ h => (digR_good h).bind fun _ _ h => (mustR_good h).bind fun _ _ h => (digR_good h).bind fun _ _ h => (mustR_good h).bind fun _ _ h => (digR_good h).bind fun _ _ h => (mustR_good h).bind fun _ _ h => (quotR_good h).bind fun _ _ h => (mustR_good h).bind fun _ _ h => h
theorem nodeR_good {s : ByteArray} {N : Nat} (h : s.size ≤ N) : (nodeR s).Good N := by
  unfold nodeR
  exact (mustR_good h).bind fun _ _ h => (quotR_good h).bind fun _ _ h => (mustR_good h).bind fun _ _ h => (digR_good h).bind fun _ _ h => (mustR_good h).bind fun _ _ h => (quotR_good h).bind fun _ _ h => (mustR_good h).bind fun _ _ h => h
theorem leaseR_good {s : ByteArray} {N : Nat} (h : s.size ≤ N) : (leaseR s).Good N := by
  unfold leaseR
  exact (mustR_good h).bind fun _ _ h => (quotR_good h).bind fun _ _ h => (mustR_good h).bind fun _ _ h => (quotR_good h).bind fun _ _ h => (mustR_good h).bind fun _ _ h => (digR_good h).bind fun _ _ h => (mustR_good h).bind fun _ _ h => h
theorem untilR_good {α : Type} {p : ByteArray → RR α} {N : Nat} (hp : ∀ s, s.size ≤ N → (p s).Good N) : ∀ (n : Nat) (acc : List α) (s : ByteArray), s.size ≤ N → (untilR p n acc s).Good N
  | 0, _, _, _ => ⟨by decide, by decide⟩
  | n + 1, acc, s, h => by
    rw [untilR]
    split
    · exact extract_small h
    · refine RR.Good.bind ?_ fun _ s h => (hp s h).bind fun a s h => untilR_good hp n _ s h
      unfold commaR; split
      · exact mustR_good h
      · exact h
theorem stateR_good {s : ByteArray} {N : Nat} (h : s.size ≤ N) : (stateR s).Good N := by
  unfold stateR elsR
  exact (mustR_good h).bind fun _ _ h => (digR_good h).bind fun _ _ h => (mustR_good h).bind fun _ _ h => (untilR_good (fun _ => jobR_good) _ _ _ h).bind fun _ _ h => (mustR_good h).bind fun _ _ h => (untilR_good (fun _ => nodeR_good) _ _ _ h).bind fun _ _ h =>
    (mustR_good h).bind fun _ _ h => (untilR_good (fun _ => leaseR_good) _ _ _ h).bind fun _ _ h => (mustR_good h).bind fun _ _ h => h
/-- What the reading leaves. -/
def JKept (t : ByteArray) (w0 : World) (E : Nat) (W : World) : Prop :=
  ∃ (st : StateD) (x : StA), Below w0.heap.size w0 W ∧ Blk W w0.heap.size 26 #[.int .i64 0, .slice none 0 0, .slice none 0 0, .slice none 0 0] ∧ Blk W (w0.heap.size + 1) 26 (stC st x) ∧ StOwn W (E + 1) st x ∧ JobsOk st.jobs ∧ NodesOk st.nodes ∧ LeasesOk st.leases ∧
    st.jobs.length ≤ 60000 ∧ st.nodes.length ≤ 60000 ∧ st.leases.length ≤ 60000 ∧ ∀ st2 r, stateR t = .ok st2 r → st2 = st
theorem JKept.grow {t : ByteArray} {w0 W W' : World} {E : Nat} (h : JKept t w0 E W) (hg : W.grownBy W' (some E)) (h1 : w0.heap.size + 2 ≤ E) : JKept t w0 E W' := by
  obtain ⟨st, x, a1, a2, a3, a4, a5⟩ := h
  exact ⟨st, x, grow_keep a1 hg (by omega), grow_blk hg a2 (by omega), grow_blk hg a3 (by omega), a4.grow hg (Nat.lt_succ_self _), a5⟩
set_option maxRecDepth 100000 in
set_option maxHeartbeats 8000000 in
theorem rjparse_any (t : ByteArray) (w : World) (ht : t.size ≤ 9223372036854775807) :
    Calls Tryz.prog 5 #[.string t] w (JpPost t w) := by
  have hb1 : Below w.heap.size w (w.alloc (.cells #[.int .i64 0, .slice none 0 0, .slice none 0 0, .slice none 0 0] 26)) := (Below.refl _ _).alloc (Nat.le_refl _) _
  by_cases hl : 60000 < t.size
  · have hd : decide ((60000 : Int) < (t.size : Int)) = true := decide_eq_true (by omega)
    have Hend := Lib.hid (JpPost.none_ (parseF_large hl) hb1)
    clear hb1
    go_enter Tryz.func5, Tryz.ntmps5
    go_wp2
    refine bodyPost_ret (v := .tuple #[.agg #[.int .i64 0, .slice none 0 0, .slice none 0 0, .slice none 0 0], .int .i64 2]) (by simp [results, Tryz.results5, go_sem]) rfl ?_
    exact Hend.out
  · have hd : decide ((60000 : Int) < (t.size : Int)) = false := decide_eq_false (by omega)
    have hts : t.size ≤ 60000 := by omega
    have Hbad := Lib.hid (fun (y : Nat) (h : stateR t = .bad y) (w' : World) (hb : Below w.heap.size w w') => JpPost.none_ (w := w) (w' := w') (parseF_rbad hl h) hb)
    have Hno := Lib.hid (fun (st : StateD) (r : ByteArray) (h : stateR t = .ok st r) (h2 : r.size ≠ 0 ∨ checkE st ≠ 0 ∨ (⟨(printL st).toArray⟩ : ByteArray) ≠ t) (w' : World) (hb : Below w.heap.size w w') => JpPost.none_ (w := w) (w' := w') (parseF_r hl h h2) hb)
    have Hok := Lib.hid (fun (st : StateD) (hc : checkE st = 0) (hp : (⟨(printL st).toArray⟩ : ByteArray) = t) => parseF_ok hl hc hp)
    obtain ⟨W2, hW2⟩ : ∃ W2, (w.alloc (.cells #[.int .i64 0, .slice none 0 0, .slice none 0 0, .slice none 0 0] 26)).alloc (.cells #[.int .i64 0, .slice none 0 0, .slice none 0 0, .slice none 0 0] 26) = W2 := ⟨_, rfl⟩
    have hb2 : Below w.heap.size w W2 := by rw [← hW2]; exact hb1.alloc hb1.size _
    have hsz : W2.heap.size = w.heap.size + 2 := by rw [← hW2]; simp
    have BS : Blk W2 (w.heap.size + 1) 26 #[.int .i64 0, .slice none 0 0, .slice none 0 0, .slice none 0 0] := by
      have h := heap_alloc_new (w.alloc (.cells #[.int .i64 0, .slice none 0 0, .slice none 0 0, .slice none 0 0] 26)) (.cells #[.int .i64 0, .slice none 0 0, .slice none 0 0, .slice none 0 0] 26)
      rw [show (w.alloc (.cells #[.int .i64 0, .slice none 0 0, .slice none 0 0, .slice none 0 0] 26)).heap.size = w.heap.size + 1 by simp, hW2] at h
      exact h
    have BR : Blk W2 w.heap.size 26 #[.int .i64 0, .slice none 0 0, .slice none 0 0, .slice none 0 0] := by rw [← hW2]; exact Blk.alloc (show Blk _ _ _ _ from heap_alloc_new w _) _
    have hRd := readAll 18 #[.pointer (some ⟨w.heap.size + 1, 0, none⟩)] t W2 ht (Go.Proofs.enters_of Tryz.func18 (by kernel_rfl) rfl) (stateR t).st (JKept t w W2.heap.size)
      (fun W u h => h.grow (grow_set _ _ _ _) (by omega)) (fun W W' h _ hg => h.grow hg (by omega))
      (fun W hB hz hx => by
        have h2 := BS.below hB (by omega)
        have h3 := BR.below hB (by omega)
        refine Calls.mono (rj1_any (W2.heap.size + 1) (w.heap.size + 1) t W hx h2 (by omega) hts) ?_
        rintro e W' ⟨st, x, hK, hm⟩
        have hE := hK.two.block W2.heap.size (by omega) (by omega) (by omega)
        have hkept : (∀ st2 r, stateR t = .ok st2 r → st2 = st) → JKept t w W2.heap.size W' := fun hq =>
          ⟨st, x, hK.two.below (hb2.trans (hB.mono (by omega))) (by omega) (by omega), hK.two.blk h3 (by omega) (by omega), hK.box, ⟨ownT_base hK.own.j (by omega), ownT_base hK.own.n (by omega), ownT_base hK.own.l (by omega), hK.own.lj, hK.own.ln, hK.own.ll⟩, hK.oj, hK.on_, hK.ol, hK.lj, hK.ln, hK.ll, hq⟩
        cases hst : stateR t with
        | bad y =>
          rw [hst] at hm
          exact ⟨hm, hE, hkept (fun st2 r h => by rw [hst] at h; cases h)⟩
        | ok st2 r =>
          rw [hst] at hm
          obtain ⟨m1, m2, m3⟩ := hm
          exact ⟨⟨m2, m3⟩, hE, hkept (fun st3 r3 h => by rw [hst] at h; injection h with h1 h2; rw [← h1]; exact m1)⟩)
    have hgd := stateR_good (N := 60000) hts
    have HRd := Lib.hid hRd
    have Hgd := Lib.hid hgd
    have HW2 := Lib.hid hW2
    have hlt0 : w.heap.size < W2.heap.size + 1 := by omega
    clear hRd hgd hW2 hb1 hb2 hsz BS BR ht hl
    go_enter Tryz.func5, Tryz.ntmps5
    have hmf : ∀ (fn : Fn) (first cap : Array Value) (w : World), (Instr.makeFunc fn first cap).run Tryz.prog w = .ok (.func fn first cap) w := fun _ _ _ _ => rfl
    go_wp2_with fail
    rw [HW2.out]
    refine Calls.mono HRd.out ?_
    rintro e w2 ⟨rfl, hk⟩
    obtain ⟨st, x, k1, k2, k3, k4, k5, k6, k7, k8, k9, k10, k11⟩ := hk
    obtain ⟨EE, hEE⟩ : ∃ EE, endE (stateR t).st = EE := ⟨_, rfl⟩
    rw [hEE]
    have hAt : StAt w2 w2.heap.size st x := ⟨own_slAt k4.j, own_slAt k4.n, own_slAt k4.l, k4.lj, k4.ln, k4.ll, by have := k4.lj; omega, by have := k4.ln; omega, by have := k4.ll; omega, k5, k6, k7⟩
    have HP := Lib.hid (rprint_any st x w2 hAt)
    have HAt := Lib.hid hAt
    have HOw := Lib.hid k4
    have HB := Lib.hid k1
    have HRb := Lib.hid k2
    have HSb := Lib.hid k3
    have Hst := Lib.hid k11
    have HEE := Lib.hid hEE
    obtain ⟨U, F, hUF⟩ : ∃ U F, printF st = (U, F) := ⟨_, _, rfl⟩
    have HUF := Lib.hid hUF
    obtain ⟨rev, jobs, nodes, leases⟩ := st
    obtain ⟨aj, nj, cj, an, nn, cn, al, nl, cl⟩ := x
    have hSl := k3.lt
    have v0 : w2.cell? ⟨w.heap.size + 1, 0, none⟩ = some (.int .i64 rev) := k3.cell 0
    have v1 : w2.cell? ⟨w.heap.size + 1, 1, none⟩ = some (.slice aj nj cj) := k3.cell 1
    have v2 : w2.cell? ⟨w.heap.size + 1, 2, none⟩ = some (.slice an nn cn) := k3.cell 2
    have v3 : w2.cell? ⟨w.heap.size + 1, 3, none⟩ = some (.slice al nl cl) := k3.cell 3
    clear hAt k1 k2 k3 k4 k5 k6 k7 k8 k9 k10 k11 hEE hUF
    unfold stC at HP
    unfold PrPost at HP
    rw [HUF.out] at HP
    go_wp2_with fail
    refine Calls.mono HP.out ?_
    rintro e w3 ⟨rfl, hb3⟩
    have HB3 := Lib.hid (HB.out.trans (hb3.mono HB.out.size))
    have HR3 := Lib.hid (HRb.out.below hb3 HRb.out.lt)
    have HS3 := Lib.hid (HSb.out.below hb3 HSb.out.lt)
    have HO3 := Lib.hid (HOw.out.grow (grow_below w.heap.size hb3) hlt0)
    have hRl := HR3.out.lt
    have hSl3 := HS3.out.lt
    have r0 : w3.cell? ⟨w.heap.size, 0, none⟩ = some (.int .i64 0) := HR3.out.cell 0
    have r1 : w3.cell? ⟨w.heap.size, 1, none⟩ = some (.slice none 0 0) := HR3.out.cell 1
    have r2 : w3.cell? ⟨w.heap.size, 2, none⟩ = some (.slice none 0 0) := HR3.out.cell 2
    have r3 : w3.cell? ⟨w.heap.size, 3, none⟩ = some (.slice none 0 0) := HR3.out.cell 3
    have u0 : w3.frozen? ⟨w.heap.size, 0, none⟩ = false := HR3.out.thaw 0
    have u1 : w3.frozen? ⟨w.heap.size, 1, none⟩ = false := HR3.out.thaw 1
    have u2 : w3.frozen? ⟨w.heap.size, 2, none⟩ = false := HR3.out.thaw 2
    have u3 : w3.frozen? ⟨w.heap.size, 3, none⟩ = false := HR3.out.thaw 3
    have v0 : w3.cell? ⟨w.heap.size + 1, 0, none⟩ = some (.int .i64 rev) := HS3.out.cell 0
    have v1 : w3.cell? ⟨w.heap.size + 1, 1, none⟩ = some (.slice aj nj cj) := HS3.out.cell 1
    have v2 : w3.cell? ⟨w.heap.size + 1, 2, none⟩ = some (.slice an nn cn) := HS3.out.cell 2
    have v3 : w3.cell? ⟨w.heap.size + 1, 3, none⟩ = some (.slice al nl cl) := HS3.out.cell 3
    have hset : Below w.heap.size w ((((w3.setCell ⟨w.heap.size, 0, none⟩ (.int .i64 0)).setCell ⟨w.heap.size, 1, none⟩ (.slice none 0 0)).setCell ⟨w.heap.size, 2, none⟩ (.slice none 0 0)).setCell ⟨w.heap.size, 3, none⟩ (.slice none 0 0)) :=
      grow_keep (grow_keep (grow_keep (grow_keep HB3.out (grow_set _ _ _ _) (Nat.le_refl _)) (grow_set _ _ _ _) (Nat.le_refl _)) (grow_set _ _ _ _) (Nat.le_refl _)) (grow_set _ _ _ _) (Nat.le_refl _)
    have Hset := Lib.hid hset
    clear hb3 hset
    -- how it ends
    have hcase : (JpPost t w (.returned (.tuple #[.agg #[.int .i64 0, .slice none 0 0, .slice none 0 0, .slice none 0 0], .int .i64 4])) ((((w3.setCell ⟨w.heap.size, 0, none⟩ (.int .i64 0)).setCell ⟨w.heap.size, 1, none⟩ (.slice none 0 0)).setCell ⟨w.heap.size, 2, none⟩ (.slice none 0 0)).setCell ⟨w.heap.size, 3, none⟩ (.slice none 0 0)) ∧ (EE ≠ 0 ∨ (EE = 0 ∧ (F ≠ 0 ∨ (F = 0 ∧ U ≠ t))))) ∨
        (EE = 0 ∧ F = 0 ∧ U = t ∧ checkE ⟨rev, jobs, nodes, leases⟩ = 0 ∧ parseF t = (⟨rev, jobs, nodes, leases⟩, 0)) := by
      cases hs : stateR t with
      | bad y =>
        left
        refine ⟨Hbad.out y hs _ Hset.out, .inl ?_⟩
        have h1 := Hgd.out
        rw [hs] at h1
        have h2 := HEE.out
        rw [hs] at h2
        have h3 : y = EE := h2
        rw [← h3]; exact h1.1
      | ok st2 r =>
        obtain rfl := Hst.out st2 r hs
        have h2 := HEE.out
        rw [hs] at h2
        by_cases hr : r.size = 0
        · have hE0 : EE = 0 := by
            obtain rfl := empty_of hr
            exact h2.symm
          have hP := HUF.out
          by_cases hc : checkE ⟨rev, jobs, nodes, leases⟩ = 0
          · unfold printF at hP
            rw [if_neg (by simp [hc])] at hP
            obtain ⟨p1, p2⟩ := Prod.mk.inj hP
            by_cases hp : (⟨(printL ⟨rev, jobs, nodes, leases⟩).toArray⟩ : ByteArray) = t
            · right
              exact ⟨hE0, p2.symm, p1.symm.trans hp, hc, Hok.out _ hc hp⟩
            · left
              exact ⟨Hno.out _ r hs (.inr (.inr hp)) _ Hset.out, .inr ⟨hE0, .inr ⟨p2.symm, fun e => hp (p1.trans e)⟩⟩⟩
          · left
            unfold printF at hP
            rw [if_pos hc] at hP
            obtain ⟨p1, p2⟩ := Prod.mk.inj hP
            exact ⟨Hno.out _ r hs (.inr (.inl hc)) _ Hset.out, .inr ⟨hE0, .inl (by rw [← p2]; exact hc)⟩⟩
        · left
          refine ⟨Hno.out _ r hs (.inl hr) _ Hset.out, .inl ?_⟩
          have h4 : endE (RR.ok () r) = 4 := endE_ok4 hr
          rw [← h2]
          rw [show endE (RR.ok ⟨rev, jobs, nodes, leases⟩ r : RR StateD).st = endE (RR.ok () r) from rfl, h4]
          decide
    clear HEE Hgd Hbad Hno Hok HUF Hst
    rcases hcase with ⟨hpost, hwhy⟩ | ⟨hE0, hF0, hU, hc, hpf⟩
    · have Hend := Lib.hid hpost
      clear hpost
      rcases hwhy with hE | ⟨hE, hF | ⟨hF, hU⟩⟩
      · have e1 : ((EE : Int) == 0) = false := by simp; omega
        have e2 : ((EE : Int) != 0) = true := by simp; omega
        clear hE
        go_wp2
        refine bodyPost_ret (v := .tuple #[.agg #[.int .i64 0, .slice none 0 0, .slice none 0 0, .slice none 0 0], .int .i64 4]) (by simp [results, Tryz.results5, go_sem, *]) rfl ?_
        exact Hend.out
      · subst hE
        have e1 : (F == 0) = false := beq_eq_false_iff_ne.2 hF
        have e2 : (F != 0) = true := by simpa using hF
        clear hF
        go_wp2
        refine bodyPost_ret (v := .tuple #[.agg #[.int .i64 0, .slice none 0 0, .slice none 0 0, .slice none 0 0], .int .i64 4]) (by simp [results, Tryz.results5, go_sem, *]) rfl ?_
        exact Hend.out
      · subst hE
        subst hF
        have e1 : (U.toList == t.toList) = false := by
          rw [beq_eq_false_iff_ne]
          exact fun e => hU (by rw [ByteArray.toList_eq, ByteArray.toList_eq] at e; exact ByteArray.ext (Array.toList_inj.1 e))
        clear hU
        go_wp2
        refine bodyPost_ret (v := .tuple #[.agg #[.int .i64 0, .slice none 0 0, .slice none 0 0, .slice none 0 0], .int .i64 4]) (by simp [results, Tryz.results5, go_sem, *]) rfl ?_
        exact Hend.out
    · subst hE0
      subst hF0
      subst hU
      have Hpf := Lib.hid hpf
      have hg1 := bes_set (bes_set (bes_set (bes_set (grow_refl w3 w.heap.size) 0 (.int .i64 rev)) 1 (.slice aj nj cj)) 2 (.slice an nn cn)) 3 (.slice al nl cl)
      have HB4 := Lib.hid (grow_keep HB3.out hg1 (Nat.le_refl _))
      have hO4 := HO3.out.grow hg1 hlt0
      have HA4 := Lib.hid (show StAt _ _ ⟨rev, jobs, nodes, leases⟩ ⟨aj, nj, cj, an, nn, cn, al, nl, cl⟩ from ⟨own_slAt hO4.j, own_slAt hO4.n, own_slAt hO4.l, HAt.out.lj, HAt.out.ln, HAt.out.ll, HAt.out.bj, HAt.out.bn, HAt.out.bl, HAt.out.oj, HAt.out.on_, HAt.out.ol⟩)
      have hq := ((((Blk.set HR3.out 0 (.int .i64 rev)).set 1 (.slice aj nj cj)).set 2 (.slice an nn cn)).set 3 (.slice al nl cl))
      have q0 := (show _ = (some (.int .i64 rev) : Option Value) from hq.cell 0)
      have q1 := (show _ = (some (.slice aj nj cj) : Option Value) from hq.cell 1)
      have q2 := (show _ = (some (.slice an nn cn) : Option Value) from hq.cell 2)
      have q3 := (show _ = (some (.slice al nl cl) : Option Value) from hq.cell 3)
      clear hg1 hq hc hpf hO4
      go_wp2
      refine bodyPost_ret (v := .tuple #[.agg #[.int .i64 rev, .slice aj nj cj, .slice an nn cn, .slice al nl cl], .int .i64 0]) (by simp [results, Tryz.results5, go_sem, *]) rfl ?_
      exact ⟨⟨rev, jobs, nodes, leases⟩, ⟨aj, nj, cj, an, nn, cn, al, nl, cl⟩, 0, rfl, Hpf.out, HA4.out, HB4.out⟩
end Go.Proofs.YtcodhhabfacnjaaGreatDoor
/- The walk of the law JSONParses. -/
namespace Go.Proofs.YtcodhhabfacnjaaGreatDoor
open Go.RowKit
theorem parseF_nil : parseF ⟨#[]⟩ = (zeroSt, 4) :=
  parseF_no (by decide) fun st _ h => by
    have h2 : (printL st).toArray = #[] := congrArg ByteArray.data h
    have h3 : printL st = [] := by simpa using h2
    unfold printL at h3
    simp at h3
set_option maxRecDepth 100000 in
set_option maxHeartbeats 1000000 in
theorem walkJSONParses (b : ByteArray) (hb : b.size ≤ 9223372036854775807) (w : World) (hT : Tabs w) (hP : Lib.TabIs Tryz.prog w "internal/strconv.uint64pow10" .u64 Lib.pow10Tab)
    (hES : ∃ t p, w.cell? ⟨0, 0, none⟩ = some (.iface t p)) (hER : ∃ t p, w.cell? ⟨1, 0, none⟩ = some (.iface t p)) :
    Calls Tryz.prog 3 #[.string b] w fun e w'' => e = .returned (.bool true) ∧ Below w.heap.size w w'' := by
  have hPB := Lib.tabBelow_of_tabIs hP
  have hPW := fun (W : World) (hb : Below w.heap.size w W) => (show Lib.TabBelow Tryz.prog W.heap.size W "internal/strconv.uint64pow10" .u64 Lib.pow10Tab from fun w' h' => hPB w' (hb.trans (h'.mono hb.size)))
  have hcl : ∀ (W : World) (a : Addr), Below w.heap.size w W → (∃ t p, w.cell? a = some (.iface t p)) → ∃ t p, W.cell? a = some (.iface t p) := fun W a hw h => by
    obtain ⟨t, p, h⟩ := h
    exact ⟨t, p, (hw.cell (block_lt_of_cell h)).trans h⟩
  have H1 := Lib.hid (jparse_any b w hb hT (hPW w (Below.refl _ _)) hES hER)
  have H2 := Lib.hid (fun W => rjparse_any b W hb)
  have H3 := Lib.hid (fun W (hb : Below w.heap.size w W) => jparse_any ⟨#[]⟩ W (by decide) (hT.below hb) (hPW W hb) (hcl W _ hb hES) (hcl W _ hb hER))
  have Hx0 := Lib.hid parseF_nil
  clear hT hb hP hPB hPW hcl hES hER
  go_enter Tryz.func3, Tryz.ntmps3
  go_wp2_with fail
  refine Calls.mono H1.out ?_
  rintro e w1 ⟨st, x, E, rfl, hd, hA, hb1⟩
  obtain ⟨rev, jobs, nodes, leases⟩ := st
  obtain ⟨aj, nj, cj, an, nn, cn, al, nl, cl⟩ := x
  have HA := Lib.hid hA
  have HD := Lib.hid hd
  have HB1 := Lib.hid hb1
  clear hd hA hb1
  unfold stC
  dsimp only
  go_wp2_with fail
  refine Calls.mono (H2.out _) ?_
  rintro e w2 ⟨st, x, E', rfl, hd, hA, hb2⟩
  rw [HD.out] at hd
  obtain ⟨rfl, rfl⟩ := Prod.mk.inj hd
  obtain ⟨aj', nj', cj', an', nn', cn', al', nl', cl'⟩ := x
  unfold stC
  dsimp only
  have hbx : Below w1.heap.size w1 (w1.alloc (.cells #[.int .i64 rev, .slice aj nj cj, .slice an nn cn, .slice al nl cl] 26)) := (Below.refl _ _).alloc (Nat.le_refl _) _
  have hX1 : Blk (w1.alloc (.cells #[.int .i64 rev, .slice aj nj cj, .slice an nn cn, .slice al nl cl] 26)) w1.heap.size 26 #[.int .i64 rev, .slice aj nj cj, .slice an nn cn, .slice al nl cl] := heap_alloc_new w1 _
  have hX2 := hX1.below hb2 hX1.lt
  have hAx := (HA.out.up hbx).up hb2
  have hB2 := (HB1.out.trans (hbx.mono HB1.out.size)).trans (hb2.mono (Nat.le_trans HB1.out.size hbx.size))
  have hby : Below w2.heap.size w2 (w2.alloc (.cells #[.int .i64 rev, .slice aj' nj' cj', .slice an' nn' cn', .slice al' nl' cl'] 26)) := (Below.refl _ _).alloc (Nat.le_refl _) _
  have hX3 := hX2.below hby hX2.lt
  have hY3 : Blk (w2.alloc (.cells #[.int .i64 rev, .slice aj' nj' cj', .slice an' nn' cn', .slice al' nl' cl'] 26)) w2.heap.size 26 #[.int .i64 rev, .slice aj' nj' cj', .slice an' nn' cn', .slice al' nl' cl'] := heap_alloc_new w2 _
  have hAx3 := hAx.up hby
  have hAy3 := hA.up hby
  have hB3 := hB2.trans (hby.mono hB2.size)
  have hlt12 : w1.heap.size < w2.heap.size := hX2.lt
  have h3 := H3.out _ hB3
  have X3 := Lib.hid hX3
  have Y3 := Lib.hid hY3
  have Ax3 := Lib.hid hAx3
  have Ay3 := Lib.hid hAy3
  have B3 := Lib.hid hB3
  have H3' := Lib.hid h3
  clear hbx hX1 hX2 hAx hB2 hby hX3 hY3 hAx3 hAy3 hB3 h3 hb2 hA hd HA HB1 HD H1 H2 H3
  go_wp2_with fail
  refine Calls.mono H3'.out ?_
  rintro e w3 ⟨st0, x0, E0, rfl, hd0, -, hb4⟩
  rw [Hx0.out] at hd0
  obtain ⟨rfl, rfl⟩ := Prod.mk.inj hd0
  obtain ⟨aj0, nj0, cj0, an0, nn0, cn0, al0, nl0, cl0⟩ := x0
  unfold stC zeroSt
  dsimp only
  have HX := X3.out.below hb4 X3.out.lt
  have HY := Y3.out.below hb4 Y3.out.lt
  have hlx := HX.lt
  have hly := HY.lt
  have x0 : w3.cell? ⟨w1.heap.size, 0, none⟩ = some (.int .i64 rev) := HX.cell 0
  have x1 : w3.cell? ⟨w1.heap.size, 1, none⟩ = some (.slice aj nj cj) := HX.cell 1
  have x2 : w3.cell? ⟨w1.heap.size, 2, none⟩ = some (.slice an nn cn) := HX.cell 2
  have x3 : w3.cell? ⟨w1.heap.size, 3, none⟩ = some (.slice al nl cl) := HX.cell 3
  have y0 : w3.cell? ⟨w2.heap.size, 0, none⟩ = some (.int .i64 rev) := HY.cell 0
  have y1 : w3.cell? ⟨w2.heap.size, 1, none⟩ = some (.slice aj' nj' cj') := HY.cell 1
  have y2 : w3.cell? ⟨w2.heap.size, 2, none⟩ = some (.slice an' nn' cn') := HY.cell 2
  have y3 : w3.cell? ⟨w2.heap.size, 3, none⟩ = some (.slice al' nl' cl') := HY.cell 3
  have hbz : Below w3.heap.size w3 (w3.alloc (.cells #[.int .i64 0, .slice aj0 nj0 cj0, .slice an0 nn0 cn0, .slice al0 nl0 cl0] 26)) := (Below.refl _ _).alloc (Nat.le_refl _) _
  have HS := Lib.hid (same_any _ _ _ _ _ ((Ax3.out.up hb4).up hbz) ((Ay3.out.up hb4).up hbz))
  have B4 := Lib.hid ((B3.out.trans (hb4.mono B3.out.size)).trans (hbz.mono (Nat.le_trans B3.out.size hb4.size)))
  clear HX HY hb4 hd0 hbz
  unfold stC at HS
  dsimp only at HS
  go_wp2_with fail
  refine Calls.mono HS.out ?_
  rintro e w4 ⟨t, rfl, ht, hb5⟩
  obtain rfl : t = true := ht.2 rfl
  have B5 := Lib.hid (B4.out.trans (hb5.mono B4.out.size))
  have hee : (E == E) = true := beq_self_eq_true _
  clear hb5 ht
  go_wp2
  go_ret
  exact ⟨rfl, B5.out⟩
end Go.Proofs.YtcodhhabfacnjaaGreatDoor
