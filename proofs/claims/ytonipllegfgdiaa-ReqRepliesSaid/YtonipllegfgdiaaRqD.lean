/- Replies: what the reference reads. -/
import Derived.Test.YtonipllegfgdiaaRqRd
import Derived.Test.YtonipllegfgdiaaRdAll
set_option linter.unusedVariables false
set_option linter.unusedSimpArgs false
namespace Go.Proofs.Ytonipllegfgdiaa
open Go.RowKit
/-- Of the old blocks only two may have turned. -/
structure TwoW (w w' : World) (a b : Nat) : Prop where
  os : w'.os = w.os
  tape : w'.tape = w.tape
  output : w'.output = w.output
  size : w.heap.size ≤ w'.heap.size
  block : ∀ k, k < w.heap.size → k ≠ a → k ≠ b → w'.heap[k]? = w.heap[k]?
theorem TwoW.fst {w u v : World} {a b : Nat} (h : TwoW w u a b) (hg : u.grownBy v (some a)) : TwoW w v a b :=
  ⟨hg.os.trans h.os, hg.tape.trans h.tape, hg.output.trans h.output, Nat.le_trans h.size hg.size, fun k hk h1 h2 => (hg.block k (Nat.lt_of_lt_of_le hk h.size) (by simp; exact h1)).trans (h.block k hk h1 h2)⟩
theorem TwoW.snd {w u v : World} {a b : Nat} (h : TwoW w u a b) (hg : u.grownBy v (some b)) : TwoW w v a b :=
  ⟨hg.os.trans h.os, hg.tape.trans h.tape, hg.output.trans h.output, Nat.le_trans h.size hg.size, fun k hk h1 h2 => (hg.block k (Nat.lt_of_lt_of_le hk h.size) (by simp; exact h2)).trans (h.block k hk h1 h2)⟩
theorem TwoW.refl (w : World) (a b : Nat) : TwoW w w a b := ⟨rfl, rfl, rfl, Nat.le_refl _, fun _ _ _ _ => rfl⟩
theorem TwoW.below {w0 w u : World} {a b : Nat} (h : TwoW w u a b) (hb : Below w0.heap.size w0 w) (h1 : w0.heap.size ≤ a) (h2 : w0.heap.size ≤ b) : Below w0.heap.size w0 u :=
  ⟨h.os.trans hb.os, h.tape.trans hb.tape, h.output.trans hb.output, Nat.le_trans hb.size h.size, fun k hk => (h.block k (Nat.lt_of_lt_of_le hk hb.size) (by omega) (by omega)).trans (hb.block k hk)⟩
def RcPost (g S : Nat) (b : ByteArray) (w : World) (e : Ending) (w' : World) : Prop :=
  TwoW w w' g S ∧ (match rrS b with | .ok _ s => e = .returned (.tuple #[]) ∧ SxAt w' g s | .bad x => e = thrown x) ∧
    ∃ c r : Int, Blk w' S 34 #[.int .i64 c, .int .i64 r] ∧ ∀ n m s t, numP b = .ok n s → numP s = .ok m t → c = n ∧ r = m
theorem RcPost.mk' {g S : Nat} {b : ByteArray} {w w' : World} {e : Ending} (h1 : TwoW w w' g S) (h2 : match rrS b with | .ok _ s => e = .returned (.tuple #[]) ∧ SxAt w' g s | .bad x => e = thrown x) (c r : Int) (h3 : Blk w' S 34 #[.int .i64 c, .int .i64 r]) (h4 : ∀ n m s t, numP b = .ok n s → numP s = .ok m t → c = n ∧ r = m) : RcPost g S b w e w' := ⟨h1, h2, c, r, h3, h4⟩
set_option maxRecDepth 100000 in
set_option maxHeartbeats 1000000 in
theorem rqcl_any (g S : Nat) (b : ByteArray) (w : World) (hx : SxAt w g b) (hS : Blk w S 34 #[.int .i64 0, .int .i64 0]) (hne : S < g) :
    Calls Try.prog 30 #[.pointer (some ⟨g, 0, none⟩), .pointer (some ⟨S, 0, none⟩)] w (RcPost g S b w) := by
  have H1 := Lib.hid (sxnum g b w hx)
  have HS := Lib.hid hS
  clear hx hS
  go_enter Try.func30, Try.ntmps30
  go_wp2_with fail
  refine Calls.mono H1.out ?_
  rintro e w1 ⟨hg, hp⟩
  have hS1 := grow_blk hg HS.out (by omega)
  have T1 := Lib.hid ((TwoW.refl w g S).fst hg)
  cases hn : numP b with
  | bad x =>
    rw [hn] at hp
    have hp : e = thrown x := hp
    subst hp
    have HS1 := Lib.hid hS1
    have Hq := Lib.hid (show rrS b = .bad x by unfold rrS; rw [hn]; rfl)
    have Hn := Lib.hid hn
    clear hg hn hS1
    unfold thrown
    go_wp2
    refine ⟨rfl, RcPost.mk' T1.out (by rw [Hq.out]; rfl) 0 0 HS1.out (fun n m s t h => ?_)⟩
    rw [Hn.out] at h
    cases h
  | ok n s =>
    rw [hn] at hp
    obtain ⟨rfl, hx1⟩ := hp
    have hsl := hS1.lt
    have z0 := hS1.thaw 0
    have x0 := (show _ = (some (.int .i64 0) : Option Value) from hS1.cell 0)
    have hx2 : SxAt (w1.setCell ⟨S, 0, none⟩ (.int .i64 (n : Int))) g s := hx1.grow (grow_set w1 S 0 (.int .i64 (n : Int))) (by omega)
    have hS2 : Blk (w1.setCell ⟨S, 0, none⟩ (.int .i64 (n : Int))) S 34 #[.int .i64 (n : Int), .int .i64 0] := Blk.eq (hS1.set 0 (.int .i64 (n : Int))) rfl
    have H2 := Lib.hid (sxnum g s _ hx2)
    have HS2 := Lib.hid hS2
    have T2 := Lib.hid (T1.out.snd (grow_set w1 S 0 (.int .i64 (n : Int))))
    have Hn := Lib.hid hn
    clear hg hn hS1 hx1 hx2 hS2 H1 T1 HS
    go_wp2_with fail
    refine Calls.mono H2.out ?_
    rintro e w2 ⟨hg, hp⟩
    have hS3 := grow_blk hg HS2.out (by omega)
    have T3 := Lib.hid (T2.out.fst hg)
    cases hm : numP s with
    | bad x =>
      rw [hm] at hp
      have hp : e = thrown x := hp
      subst hp
      have HS3 := Lib.hid hS3
      have Hq := Lib.hid (show rrS b = .bad x by unfold rrS; rw [Hn.out]; show (numP s).st = _; rw [hm]; rfl)
      have Hm := Lib.hid hm
      clear hg hm hS3 x0 z0
      unfold thrown
      go_wp2
      refine ⟨rfl, RcPost.mk' T3.out (by rw [Hq.out]; rfl) n 0 HS3.out (fun n' m' s' t' h h' => ?_)⟩
      rw [Hn.out] at h
      injection h with h1 h2
      subst h2
      rw [Hm.out] at h'
      cases h'
    | ok m t =>
      rw [hm] at hp
      obtain ⟨rfl, hx1⟩ := hp
      have hsl3 := hS3.lt
      have z1 := hS3.thaw 1
      have x1 := (show _ = (some (.int .i64 0) : Option Value) from hS3.cell 1)
      have HX := Lib.hid (hx1.grow (grow_set w2 S 1 (.int .i64 (m : Int))) (by omega))
      have HS4 := Lib.hid (show Blk (w2.setCell ⟨S, 1, none⟩ (.int .i64 (m : Int))) S 34 #[.int .i64 (n : Int), .int .i64 (m : Int)] from Blk.eq (hS3.set 1 (.int .i64 (m : Int))) rfl)
      have T4 := Lib.hid (T3.out.snd (grow_set w2 S 1 (.int .i64 (m : Int))))
      have Hq := Lib.hid (show rrS b = .ok () t by unfold rrS; rw [Hn.out]; show (numP s).st = _; rw [hm]; rfl)
      have Hm := Lib.hid hm
      clear hg hm hS3 hx1 x0 z0 H2 T2 T3 HS2
      go_wp2
      go_end0
      refine RcPost.mk' T4.out (by rw [Hq.out]; exact ⟨rfl, HX.out⟩) n m HS4.out (fun n' m' s' t' h h' => ?_)
      rw [Hn.out] at h
      injection h with h1 h2
      subst h1 h2
      rw [Hm.out] at h'
      injection h' with h1 h2
      subst h1
      exact ⟨rfl, rfl⟩
def RqKept (b : ByteArray) (w0 : World) (R S : Nat) (W : World) : Prop :=
  Below w0.heap.size w0 W ∧ Blk W R 34 #[.int .i64 0, .int .i64 0] ∧ ∃ c r : Int, Blk W S 34 #[.int .i64 c, .int .i64 r] ∧ ∀ n m s t, numP b = .ok n s → numP s = .ok m t → c = n ∧ r = m
theorem RqKept.grow {b : ByteArray} {w0 W W' : World} {R S E : Nat} (h : RqKept b w0 R S W) (hg : W.grownBy W' (some E)) (h1 : w0.heap.size ≤ E) (hR : R ≠ E) (hS : S ≠ E) : RqKept b w0 R S W' := by
  obtain ⟨a1, a2, c, r, a3, a4⟩ := h
  exact ⟨rq_keep a1 hg h1, grow_blk hg a2 hR, c, r, grow_blk hg a3 hS, a4⟩
set_option maxRecDepth 100000 in
set_option maxHeartbeats 2000000 in
theorem rreadreply_any (b : ByteArray) (w : World) (hb : b.size ≤ 9223372036854775807) : Calls Try.prog 12 #[.string b] w (RrPost b w) := by
  have hcs := rr_cases b hb
  have hb1 : Below w.heap.size w (w.alloc (.cells #[.int .i64 0, .int .i64 0] 34)) := (Below.refl _ _).alloc (Nat.le_refl _) _
  have hb2 := hb1.alloc hb1.size (.cells #[.int .i64 0, .int .i64 0] 34)
  have hR : Blk ((w.alloc (.cells #[.int .i64 0, .int .i64 0] 34)).alloc (.cells #[.int .i64 0, .int .i64 0] 34)) w.heap.size 34 #[.int .i64 0, .int .i64 0] := Blk.alloc (show Blk _ _ _ _ from heap_alloc_new w _) _
  have hS : Blk ((w.alloc (.cells #[.int .i64 0, .int .i64 0] 34)).alloc (.cells #[.int .i64 0, .int .i64 0] 34)) (w.heap.size + 1) 34 #[.int .i64 0, .int .i64 0] := by
    have h := heap_alloc_new (w.alloc (.cells #[.int .i64 0, .int .i64 0] 34)) (.cells #[.int .i64 0, .int .i64 0] 34)
    rwa [show (w.alloc (.cells #[.int .i64 0, .int .i64 0] 34)).heap.size = w.heap.size + 1 by simp] at h
  obtain ⟨W0, hW0⟩ : ∃ W0, W0 = (w.alloc (.cells #[.int .i64 0, .int .i64 0] 34)).alloc (.cells #[.int .i64 0, .int .i64 0] 34) := ⟨_, rfl⟩
  have hsz : W0.heap.size = w.heap.size + 2 := by rw [hW0]; simp
  rw [← hW0] at hb2 hR hS
  have hRd := readAll 30 #[.pointer (some ⟨w.heap.size + 1, 0, none⟩)] b W0 hb (Go.Proofs.enters_of Try.func30 (by kernel_rfl) rfl) (rrS b) (RqKept b w w.heap.size (w.heap.size + 1))
    (fun W u h => h.grow (grow_set _ _ _ _) (by omega) (by omega) (by omega)) (fun W W' h _ hg => h.grow hg (by omega) (by omega) (by omega))
    (fun W hB hz hx => by
      have h2 := hS.below hB (by omega)
      have h3 := hR.below hB (by omega)
      refine Calls.mono (rqcl_any (W0.heap.size + 1) (w.heap.size + 1) b W hx h2 (by omega)) ?_
      rintro e W' ⟨hT, hp, hk⟩
      exact ⟨hp, hT.block W0.heap.size (by omega) (by omega) (by omega), hT.below (hb2.trans (hB.mono hb2.size)) (by omega) (by omega), (hT.block w.heap.size (by omega) (by omega) (by omega)).trans h3, hk⟩)
  have HRd := Lib.hid hRd
  have Hcs := Lib.hid hcs
  have HW0 := Lib.hid hW0
  clear hb1 hb2 hR hS hW0 hsz hb hcs hRd
  unfold RrPost
  go_enter Try.func12, Try.ntmps12
  have hmf : ∀ (fn : Fn) (first cap : Array Value) (w : World), (Instr.makeFunc fn first cap).run Try.prog w = .ok (.func fn first cap) w := fun _ _ _ _ => rfl
  go_wp2_with fail
  rw [← HW0.out]
  refine Calls.mono HRd.out ?_
  rintro e w2 ⟨rfl, hbA, hRb, c, r, hSb, hval⟩
  have HR2 := Lib.hid hRb
  have HS2 := Lib.hid hSb
  have HB2 := Lib.hid hbA
  have Hval := Lib.hid hval
  have C := Lib.hid (rreply_any c r w2)
  have d0 : w2.cell? ⟨w.heap.size + 1, 0, none⟩ = some (.int .i64 c) := hSb.cell 0
  have d1 : w2.cell? ⟨w.heap.size + 1, 1, none⟩ = some (.int .i64 r) := hSb.cell 1
  have hrl := hRb.lt
  have hsl := hSb.lt
  clear hbA hRb hSb hval HRd HW0
  go_wp2_with fail
  refine Calls.mono C.out ?_
  rintro e w3 ⟨rfl, hb3⟩
  have HR3 := Lib.hid (HR2.out.below hb3 hrl)
  have HS3 := Lib.hid (HS2.out.below hb3 hsl)
  have HB3 := Lib.hid (HB2.out.trans (hb3.mono HB2.out.size))
  have hrl3 := HR3.out.lt
  have hsl3 := HS3.out.lt
  clear hb3 HR2 HS2 HB2 d0 d1 hrl hsl C
  rcases Hcs.out with ⟨x, hx0, hE, hF⟩ | ⟨n, m, s, t, hn, hm, hE, hF⟩
  · rw [hE]
    have HFx := Lib.hid hF
    have e1 : ((x : Int) == 0) = false := beq_eq_false_iff_ne.2 (by omega)
    have e2 : ((x : Int) != 0) = true := bne_iff_ne.2 (by omega)
    generalize replyF c r = Y
    clear hF hE Hcs Hval
    have u0 : w3.frozen? ⟨w.heap.size, 0, none⟩ = false := HR3.out.thaw 0
    have s0 : w3.cell? ⟨w.heap.size, 0, none⟩ = some (.int .i64 0) := HR3.out.cell 0
    have u1 : w3.frozen? ⟨w.heap.size, 1, none⟩ = false := HR3.out.thaw 1
    have s1 : w3.cell? ⟨w.heap.size, 1, none⟩ = some (.int .i64 0) := HR3.out.cell 1
    have hR9 := (Blk.eq ((Blk.eq (HR3.out.set 0 (.int .i64 0)) (show _ = #[.int .i64 0, .int .i64 0] from rfl)).set 1 (.int .i64 0)) (show _ = #[.int .i64 0, .int .i64 0] from rfl))
    have q0 := (show _ = (some (.int .i64 0) : Option Value) from hR9.cell 0)
    have q1 := (show _ = (some (.int .i64 0) : Option Value) from hR9.cell 1)
    have hG9 := (bes_set (bes_set (grow_refl w3 (w.heap.size)) 0 (.int .i64 0)) 1 (.int .i64 0))
    have Hend := Lib.hid (rq_keep HB3.out hG9 (Nat.le_refl _))
    clear hR9 hG9
    go_wp2
    exact bodyPost_ret (v := .tuple #[.agg #[.int .i64 0, .int .i64 0], .int .i64 (x : Int)]) (by simp [results, Try.results12, go_sem, *]) rfl ⟨by rw [HFx.out], Hend.out⟩
  · rw [hE]
    obtain ⟨rfl, rfl⟩ := Hval.out n m s t hn hm
    have HF := Lib.hid hF
    clear hF hE hn hm Hcs Hval
    cases hok : replyOk (n : Int) (m : Int)
    · have HFx := Lib.hid (show rrF b = ((0, 0), 1) by rw [HF.out, hok]; rfl)
      rw [replyF_no hok]
      clear hok
      have u0 : w3.frozen? ⟨w.heap.size, 0, none⟩ = false := HR3.out.thaw 0
      have s0 : w3.cell? ⟨w.heap.size, 0, none⟩ = some (.int .i64 0) := HR3.out.cell 0
      have u1 : w3.frozen? ⟨w.heap.size, 1, none⟩ = false := HR3.out.thaw 1
      have s1 : w3.cell? ⟨w.heap.size, 1, none⟩ = some (.int .i64 0) := HR3.out.cell 1
      have hR9 := (Blk.eq ((Blk.eq (HR3.out.set 0 (.int .i64 0)) (show _ = #[.int .i64 0, .int .i64 0] from rfl)).set 1 (.int .i64 0)) (show _ = #[.int .i64 0, .int .i64 0] from rfl))
      have q0 := (show _ = (some (.int .i64 0) : Option Value) from hR9.cell 0)
      have q1 := (show _ = (some (.int .i64 0) : Option Value) from hR9.cell 1)
      have hG9 := (bes_set (bes_set (grow_refl w3 (w.heap.size)) 0 (.int .i64 0)) 1 (.int .i64 0))
      have Hend := Lib.hid (rq_keep HB3.out hG9 (Nat.le_refl _))
      clear hR9 hG9
      go_wp2
      exact bodyPost_ret (v := .tuple #[.agg #[.int .i64 0, .int .i64 0], .int .i64 1]) (by simp [results, Try.results12, go_sem, *]) rfl ⟨by rw [HFx.out], Hend.out⟩
    · have HFx := Lib.hid (show rrF b = (((n : Int), (m : Int)), 0) by rw [HF.out, hok]; rfl)
      rw [replyF_yes hok]
      clear hok
      have d0 : w3.cell? ⟨w.heap.size + 1, 0, none⟩ = some (.int .i64 (n : Int)) := HS3.out.cell 0
      have d1 : w3.cell? ⟨w.heap.size + 1, 1, none⟩ = some (.int .i64 (m : Int)) := HS3.out.cell 1
      have u0 : w3.frozen? ⟨w.heap.size, 0, none⟩ = false := HR3.out.thaw 0
      have s0 : w3.cell? ⟨w.heap.size, 0, none⟩ = some (.int .i64 0) := HR3.out.cell 0
      have u1 : w3.frozen? ⟨w.heap.size, 1, none⟩ = false := HR3.out.thaw 1
      have s1 : w3.cell? ⟨w.heap.size, 1, none⟩ = some (.int .i64 0) := HR3.out.cell 1
      have hR9 := (Blk.eq ((Blk.eq (HR3.out.set 0 (.int .i64 (n : Int))) (show _ = #[.int .i64 (n : Int), .int .i64 0] from rfl)).set 1 (.int .i64 (m : Int))) (show _ = #[.int .i64 (n : Int), .int .i64 (m : Int)] from rfl))
      have q0 := (show _ = (some (.int .i64 (n : Int)) : Option Value) from hR9.cell 0)
      have q1 := (show _ = (some (.int .i64 (m : Int)) : Option Value) from hR9.cell 1)
      have hG9 := (bes_set (bes_set (grow_refl w3 (w.heap.size)) 0 (.int .i64 (n : Int))) 1 (.int .i64 (m : Int)))
      have Hend := Lib.hid (rq_keep HB3.out hG9 (Nat.le_refl _))
      clear hR9 hG9
      go_wp2
      exact bodyPost_ret (v := .tuple #[.agg #[.int .i64 (n : Int), .int .i64 (m : Int)], .int .i64 0]) (by simp [results, Try.results12, go_sem, *]) rfl ⟨by rw [HFx.out], Hend.out⟩
end Go.Proofs.Ytonipllegfgdiaa
