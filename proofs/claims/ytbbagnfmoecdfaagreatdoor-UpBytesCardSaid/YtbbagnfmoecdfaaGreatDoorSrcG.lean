/- The walk of the reference's Zag. The walk of the reference's NumberRead. The walk of the reference's TextRead. The walks of the reference's source of bytes: a value, or a panic that bears the error. The walks of the reference's rows: a job, a node, a lease. -/
import Derived.Test.YtbbagnfmoecdfaaGreatDoorBase
import Derived.Test.YtbbagnfmoecdfaaGreatDoorReads
import Derived.Test.YtbbagnfmoecdfaaGreatDoorRd
import Derived.Test.YtbbagnfmoecdfaaGreatDoorTake
set_option linter.unusedVariables false
set_option linter.unusedSimpArgs false
namespace Go.Proofs.YtbbagnfmoecdfaaGreatDoor
open Go.RowKit
theorem rzag_any (n : Int) (h : 0 ≤ n) (h' : n < 18446744073709551616) (w : World) :
    Calls Tryz.prog 287 #[.int .u64 n] w fun e w' => e = .returned (.int .i64 (zagZ n)) ∧ w = w' := by
  by_cases e : n % 2 = 0
  · have hx := Lib.hid (show zagZ n = n / 2 from by unfold zagZ; rw [if_pos e])
    have e1 : (n % 2 == 0) = true := by rw [e]; rfl
    clear e
    go_enter Tryz.func287, Tryz.ntmps287
    go_wp2
    go_ret
    exact ⟨ret_int hx.out.symm, rfl⟩
  · have hx := Lib.hid (show zagZ n = -(n / 2) - 1 from by unfold zagZ; rw [if_neg e])
    have e1 : (n % 2 == 0) = false := by rw [beq_eq_false_iff_ne]; exact e
    clear e
    go_enter Tryz.func287, Tryz.ntmps287
    go_wp2
    go_ret
    exact ⟨ret_int hx.out.symm, rfl⟩
end Go.Proofs.YtbbagnfmoecdfaaGreatDoor
namespace Go.Proofs.YtbbagnfmoecdfaaGreatDoor
open Go.RowKit
def RrInv (s : ByteArray) (n u i : Value) : Prop := ∃ (k acc p : Nat), k ≤ 9 ∧ k ≤ s.size ∧ acc < 128 ^ k ∧ p = 128 ^ k ∧ p ≤ 9223372036854775808 ∧ acc < p ∧ i = .int .i64 k ∧ n = .int .u64 acc ∧ u = .int .u64 p ∧ rdNum s = rdB s (10 - k) k acc
set_option maxRecDepth 100000 in
set_option maxHeartbeats 1000000 in
theorem rread_any (s : ByteArray) (w : World) (hs : s.size ≤ 9223372036854775807) :
    Calls Tryz.prog 280 #[.string s] w (RdPost s w) := by
  go_enter Tryz.func280, Tryz.ntmps280
  go_wp2
  go_loop [2, 3, 4, 5, 6, 7, 8] (fun _ _ _ n u i _ => RrInv s n u i) (fun _ _ _ _ _ i _ => 10 - (intOf i).toNat)
  case atStart => exact ⟨0, 0, 1, by omega, by omega, by decide, rfl, by omega, by omega, rfl, rfl, rfl, rfl⟩
  case round =>
    obtain ⟨k, acc, p, hk, hks, ha, hp, hp2, hap, rfl, rfl, rfl, hr⟩ := hrel
    have Hr := Lib.hid hr
    have Ha := Lib.hid ha
    have Hp := Lib.hid hp
    clear hr ha hp
    by_cases hsz : k < s.size
    · have e3 : ((k : Int) == s.size) = false := by simp; omega
      obtain ⟨c, hc⟩ : ∃ c : Nat, s[k].toNat = c := ⟨_, rfl⟩
      have hc2 : c < 256 := by rw [← hc]; exact s[k].toNat_lt
      have Hi := idx_str hsz hc
      have Hc := Lib.hid hc
      clear hc
      have form := fun (hb : (k = 9 ∧ 1 < c) ∨ (0 < k ∧ c = 0)) => RdPost.mk' (w := w) (Hr.out.trans (rdB_form (by omega) hsz Hc.out hb))
      have last := fun (hb : ¬ ((k = 9 ∧ 1 < c) ∨ (0 < k ∧ c = 0))) (h1 : c < 128) => RdPost.mk' (w := w) (Hr.out.trans (rdB_last (by omega) hsz Hc.out hb h1))
      have more := fun (hb : ¬ ((k = 9 ∧ 1 < c) ∨ (0 < k ∧ c = 0))) (h1 : ¬ c < 128) => Hr.out.trans (rdB_more (by omega) hsz Hc.out hb h1)
      have step := fun (h9 : k = 9 → c ≤ 1) => add_step (k := k) (by omega) hc2 h9 Ha.out Hp.out
      have step2 := fun (h9 : k = 9 → c ≤ 1) => (or_step (k := k) (by omega) hc2 h9 Ha.out).2
      have pst := fun (h9 : k < 9) => pow_step h9
      have Step := Lib.hid step
      have Step2 := Lib.hid step2
      have Pst := Lib.hid pst
      have Form := Lib.hid form
      have Last := Lib.hid last
      have More := Lib.hid more
      clear form last more step step2 pst
      by_cases k0 : k = 0
      · subst k0
        have Hi0 : ∀ W : World, (Instr.index 9 (.string s) (.int .i64 0)).run Tryz.prog W = .ok (.int .u8 (c : Int)) W := Hi
        clear Hi
        by_cases b0 : 1 ≤ c
        all_goals first | (have e2 : ((c : Int) == 0) = true := by simp; omega) | (have e2 : ((c : Int) == 0) = false := by simp; omega)
        all_goals go_wp2
        all_goals first
          | (have st := Step.out (by omega); go_ret3; rw [st]; exact Last.out (by omega) (by omega))
          | (have st := Step.out (by omega); have st2 := Step2.out (by omega); have sp := Pst.out (by omega); exact ⟨⟨1, _, _, by omega, by omega, st2.1, rfl, sp.2, st2.1, rfl, congrArg (Value.int .u64) st, congrArg (Value.int .u64) (by rw [Hp.out]; exact sp.1), More.out (by omega) (by omega)⟩, by simp only [intOf]; omega⟩)
      have k1 : 1 ≤ k := by omega
      clear k0
      by_cases b9 : 9 ≤ k <;> by_cases b0 : 1 ≤ c
      all_goals first | (have e1 : ((k : Int) == 9) = true := by simp; omega) | (have e1 : ((k : Int) == 9) = false := by simp; omega)
      all_goals first | (have e2 : ((c : Int) == 0) = true := by simp; omega) | (have e2 : ((c : Int) == 0) = false := by simp; omega)
      all_goals go_wp2
      all_goals first
        | (go_ret3; exact Form.out (by omega))
        | (have st := Step.out (by omega); go_ret3; rw [st]; exact Last.out (by omega) (by omega))
        | (have st := Step.out (by omega); have st2 := Step2.out (by omega); have sp := Pst.out (by omega); exact ⟨⟨k + 1, _, _, by omega, by omega, st2.1, rfl, sp.2, st2.1, by go_num, congrArg (Value.int .u64) st, congrArg (Value.int .u64) (by rw [Hp.out]; exact sp.1), More.out (by omega) (by omega)⟩, by simp only [intOf]; omega⟩)
    · have e3 : ((k : Int) == s.size) = true := by simp; omega
      have fin := Lib.hid (RdPost.mk' (w := w) (Hr.out.trans (rdB_short (by omega) (by omega))))
      go_wp2
      go_ret3
      exact fin.out
theorem rread_eq {s : ByteArray} {a k e : Nat} (h : rdNum s = (a, k, e)) (w : World) (hs : s.size ≤ 9223372036854775807) :
    Calls Tryz.prog 280 #[.string s] w fun x w' => x = .returned (.tuple #[.int .u64 (a : Int), .int .i64 (k : Int), .int .i64 (e : Int)]) ∧ w = w' :=
  (rread_any s w hs).mono fun _ _ ⟨h1, h2⟩ => ⟨by rw [h1, rdV_of h], h2⟩
end Go.Proofs.YtbbagnfmoecdfaaGreatDoor
namespace Go.Proofs.YtbbagnfmoecdfaaGreatDoor
open Go.RowKit
open Go.Lib (validD)
theorem cut_two {s : ByteArray} {k n : Nat} (h : ¬ s.size < k + n) : (s.extract k s.size).extract 0 n = s.extract k (k + n) := by
  rw [ByteArray.extract_extract]
  congr 1
  omega
set_option maxRecDepth 100000 in
set_option maxHeartbeats 2000000 in
theorem rtextRead_any (s : ByteArray) (w : World) (hs : s.size ≤ 9223372036854775807) : Calls Tryz.prog 282 #[.string s] w (TrdPost s w) := by
  obtain ⟨n, k, e, hr⟩ : ∃ n k e, rdNum s = (n, k, e) := ⟨_, _, _, rfl⟩
  have h1 := Lib.hid (rread_eq hr w hs)
  obtain ⟨f1, f2, f3, f4⟩ := rdNum_facts hr
  have HR := Lib.hid hr
  clear hr
  by_cases he : e = 0
  · subst he
    have f5 := f4 rfl
    clear f4 f3
    by_cases hn : 16 < n
    · have fin := Lib.hid (TrdPost.mk' (w := w) (w' := w) (txtR_large HR.out hn) (Below.refl _ _))
      go_enter Tryz.func282, Tryz.ntmps282
      go_wp2_with fail
      refine Calls.mono h1.out ?_
      rintro x w' ⟨rfl, rfl⟩
      go_wp2
      refine bodyPost_ret (v := .tuple #[.string ⟨#[]⟩, .int .i64 0, .int .i64 2]) (by simp [results, Tryz.results282, go_sem]) rfl fin.out
    · by_cases hl : s.size < k + n
      · have fin := Lib.hid (TrdPost.mk' (w := w) (w' := w) (txtR_short HR.out hn hl) (Below.refl _ _))
        clear f1
        go_enter Tryz.func282, Tryz.ntmps282
        go_wp2_with fail
        refine Calls.mono h1.out ?_
        rintro x w' ⟨rfl, rfl⟩
        go_wp2
        refine bodyPost_ret (v := .tuple #[.string ⟨#[]⟩, .int .i64 0, .int .i64 3]) (by simp [results, Tryz.results282, go_sem]) rfl fin.out
      · clear f1
        have hV := Lib.hid (rutf_any (s.extract k (k + n)) w (by rw [ByteArray.size_extract]; omega))
        have hc := Lib.hid (cut_two hl)
        obtain ⟨t1, ht1⟩ : ∃ t1, s.extract k s.size = t1 := ⟨_, rfl⟩
        have hz1 : t1.size = s.size - k := by rw [← ht1, ByteArray.size_extract]; omega
        obtain ⟨t2, ht2⟩ : ∃ t2, t1.extract 0 n = t2 := ⟨_, rfl⟩
        have hz2 : t2.size = n := by rw [← ht2, ByteArray.size_extract]; omega
        have hc2 := Lib.hid (show t2 = s.extract k (k + n) by rw [← ht2, ← ht1]; exact hc.out)
        rw [← hc2.out] at hV
        cases hv : validD (s.extract k (k + n)).data.toList
        · have fin := Lib.hid (TrdPost.mk' (w := w) (w' := w) (txtR_form HR.out hn hl hv) (Below.refl _ _))
          rw [hc2.out, hv] at hV
          rw [← hc2.out] at hV
          go_enter Tryz.func282, Tryz.ntmps282
          go_wp2_with fail
          refine Calls.mono h1.out ?_
          rintro x w' ⟨rfl, rfl⟩
          go_wp2_with fail
          refine Calls.mono hV.out ?_
          rintro x w1 ⟨rfl, rfl⟩
          go_wp2
          refine bodyPost_ret (v := .tuple #[.string ⟨#[]⟩, .int .i64 0, .int .i64 4]) (by simp [results, Tryz.results282, go_sem]) rfl fin.out
        · have fin := Lib.hid (TrdPost.mk' (w := w) (w' := w) (txtR_ok HR.out hn hl hv) (Below.refl _ _))
          rw [← hc2.out] at fin
          rw [hc2.out, hv] at hV
          rw [← hc2.out] at hV
          go_enter Tryz.func282, Tryz.ntmps282
          go_wp2_with fail
          refine Calls.mono h1.out ?_
          rintro x w' ⟨rfl, rfl⟩
          go_wp2_with fail
          refine Calls.mono hV.out ?_
          rintro x w1 ⟨rfl, rfl⟩
          go_wp2
          refine bodyPost_ret (v := .tuple #[.string t2, .int .i64 ((k : Int) + n), .int .i64 0]) (by simp [results, Tryz.results282, go_sem, hz2]) rfl ?_
          have := fin.out
          rw [Int.natCast_add] at this
          exact this
  · have fin := Lib.hid (TrdPost.mk' (w := w) (w' := w) (txtR_num HR.out he) (Below.refl _ _))
    clear f4 f1
    go_enter Tryz.func282, Tryz.ntmps282
    go_wp2_with fail
    refine Calls.mono h1.out ?_
    rintro x w' ⟨rfl, rfl⟩
    go_wp2
    refine bodyPost_ret (v := .tuple #[.string ⟨#[]⟩, .int .i64 0, .int .i64 (e : Int)]) (by simp [results, Tryz.results282, go_sem]) rfl fin.out
end Go.Proofs.YtbbagnfmoecdfaaGreatDoor
namespace Go.Proofs.YtbbagnfmoecdfaaGreatDoor
open Go.RowKit
/-- The source's block. -/
def SxAt (w : World) (g : Nat) (s : ByteArray) : Prop := Blk w g 264 #[.string s] ∧ s.size ≤ 9223372036854775807
/-- What is thrown. -/
def thrown (x : Nat) : Ending := .panicked [{ v := .iface 261 (.agg #[.int .i64 (x : Int)]), recovered := false }]
/-- What a source's method leaves. -/
def SxPost {α : Type} (g : Nat) (res : RR α) (enc : α → Value) (w : World) (e : Ending) (w' : World) : Prop :=
  w.grownBy w' (some g) ∧ match res with
  | .ok a r => e = .returned (enc a) ∧ SxAt w' g r
  | .bad x => e = thrown x
theorem SxPost.ok {α : Type} {g : Nat} {res : RR α} {enc : α → Value} {w w' : World} {e : Ending} {a : α} {r : ByteArray} (h : SxPost g res enc w e w') (hr : res = .ok a r) : e = .returned (enc a) ∧ SxAt w' g r ∧ w.grownBy w' (some g) := by
  subst hr; exact ⟨h.2.1, h.2.2, h.1⟩
theorem SxPost.bad {α : Type} {g : Nat} {res : RR α} {enc : α → Value} {w w' : World} {e : Ending} {x : Nat} (h : SxPost g res enc w e w') (hr : res = .bad x) : e = thrown x ∧ w.grownBy w' (some g) := by
  subst hr; exact ⟨h.2, h.1⟩
theorem SxPost.mkOk {α : Type} {g : Nat} {res : RR α} {enc : α → Value} {w w' : World} {a : α} {r : ByteArray} (hr : res = .ok a r) (hs : SxAt w' g r) (hg : w.grownBy w' (some g)) : SxPost g res enc w (.returned (enc a)) w' := by
  subst hr; exact ⟨hg, rfl, hs⟩
theorem SxPost.mkBad {α : Type} {g : Nat} {res : RR α} {enc : α → Value} {w w' : World} {x : Nat} (hr : res = .bad x) (hg : w.grownBy w' (some g)) : SxPost g res enc w (thrown x) w' := by
  subst hr; exact ⟨hg, rfl⟩
theorem SxAt.set {w : World} {g : Nat} {s : ByteArray} (h : SxAt w g s) (s' : ByteArray) (hs : s'.size ≤ 9223372036854775807) : SxAt (w.setCell ⟨g, 0, none⟩ (.string s')) g s' := ⟨Blk.eq (Blk.set h.1 0 _) (by simp), hs⟩
theorem SxAt.grow {w w' : World} {g b : Nat} {s : ByteArray} (h : SxAt w g s) (hg : w.grownBy w' (some b)) (hne : g ≠ b) : SxAt w' g s := ⟨grow_blk hg h.1 hne, h.2⟩
theorem SxAt.below {w w' : World} {g : Nat} {s : ByteArray} (h : SxAt w g s) (hb : Below w.heap.size w w') : SxAt w' g s := ⟨h.1.below hb h.1.lt, h.2⟩
set_option maxRecDepth 100000 in
set_option maxHeartbeats 2000000 in
theorem sxbig (g : Nat) (s : ByteArray) (w : World) (h : SxAt w g s) :
    Calls Tryz.prog 222 #[.pointer (some ⟨g, 0, none⟩)] w (SxPost g (numP s) (fun n : Nat => .int .u64 n) w) := by
  have y0 : w.cell? ⟨g, 0, none⟩ = some (.string s) := h.1.cell 0
  have z0 : w.frozen? ⟨g, 0, none⟩ = false := h.1.thaw 0
  have hgl := h.1.lt
  have hs := h.2
  have HA := Lib.hid h
  rcases hr : rdNum s with ⟨a, k, e⟩
  have hf := rdNum_facts hr
  have HR := Lib.hid (rread_eq hr w hs)
  by_cases he : e = 0
  · subst he
    have hk := (hf.2.2.2 rfl).2
    by_cases hl : 4611686018427387904 < a
    · have hres := Lib.hid (numP_large hr hl)
      have hd : decide ((4611686018427387904 : Int) < (a : Int)) = true := decide_eq_true (by omega)
      clear h hr
      go_enter Tryz.func222, Tryz.ntmps222
      go_wp2_with fail
      refine Calls.mono HR.out ?_
      rintro e w1 ⟨rfl, rfl⟩
      go_wp2
      exact ⟨rfl, SxPost.mkBad hres.out (grow_refl _ _)⟩
    · have hres := Lib.hid (numP_ok hr hl)
      have hd : decide ((4611686018427387904 : Int) < (a : Int)) = false := decide_eq_false (by omega)
      have hz := Lib.hid (extract_small (k := k) hs)
      clear h hr
      go_enter Tryz.func222, Tryz.ntmps222
      go_wp2_with fail
      refine Calls.mono HR.out ?_
      rintro e w1 ⟨rfl, rfl⟩
      go_wp2
      go_ret
      exact SxPost.mkOk hres.out (HA.out.set _ hz.out) (grow_set _ _ _ _)
  · have hres := Lib.hid (numP_bad hr he)
    have hne : ((e : Int) == 0) = false := by rw [beq_eq_false_iff_ne]; omega
    have hne2 : ((e : Int) != 0) = true := by rw [bne_iff_ne]; omega
    clear h hr
    go_enter Tryz.func222, Tryz.ntmps222
    go_wp2_with fail
    refine Calls.mono HR.out ?_
    rintro e' w1 ⟨rfl, rfl⟩
    go_wp2
    exact ⟨rfl, SxPost.mkBad hres.out (grow_refl _ _)⟩
set_option maxRecDepth 100000 in
set_option maxHeartbeats 2000000 in
theorem sxnum (g : Nat) (s : ByteArray) (w : World) (h : SxAt w g s) :
    Calls Tryz.prog 134 #[.pointer (some ⟨g, 0, none⟩)] w (SxPost g (numP s) (fun n : Nat => .int .i64 n) w) := by
  have HB := Lib.hid (sxbig g s w h)
  clear h
  rcases hr : numP s with ⟨a, r⟩ | x
  · have hle := numP_le hr
    have Hr := Lib.hid hr
    clear hr
    go_enter Tryz.func134, Tryz.ntmps134
    go_wp2_with fail
    refine Calls.mono HB.out ?_
    intro e w1 hp
    obtain ⟨rfl, hs, hg⟩ := hp.ok Hr.out
    have hs := Lib.hid hs
    have hg := Lib.hid hg
    clear hp
    go_wp2
    go_ret
    exact SxPost.mkOk rfl hs.out hg.out
  · have Hr := Lib.hid hr
    clear hr
    go_enter Tryz.func134, Tryz.ntmps134
    go_wp2_with fail
    refine Calls.mono HB.out ?_
    intro e w1 hp
    obtain ⟨rfl, hg⟩ := hp.bad Hr.out
    unfold thrown
    go_wp2
    exact ⟨rfl, SxPost.mkBad rfl hg⟩
set_option maxRecDepth 100000 in
set_option maxHeartbeats 2000000 in
theorem sxtext (g : Nat) (s : ByteArray) (w : World) (h : SxAt w g s) :
    Calls Tryz.prog 213 #[.pointer (some ⟨g, 0, none⟩)] w (SxPost g (textP s) (fun t => .string t) w) := by
  have y0 : w.cell? ⟨g, 0, none⟩ = some (.string s) := h.1.cell 0
  have hgl := h.1.lt
  have hs := h.2
  have HA := Lib.hid h
  rcases hr : txtR s with ⟨t, k, e⟩
  have hf := txtR_facts hr
  have hR := rtextRead_any s w hs
  unfold TrdPost at hR
  rw [hr] at hR
  have HR := Lib.hid hR
  clear hR h
  by_cases he : e = 0
  · subst he
    have hk := hf.2.2 rfl
    have hres := Lib.hid (textP_ok hr)
    have hz := Lib.hid (extract_small (k := k) hs)
    clear hr hf
    go_enter Tryz.func213, Tryz.ntmps213
    go_wp2_with fail
    refine Calls.mono HR.out ?_
    rintro e w1 ⟨rfl, hb1⟩
    have hA1 := HA.out.below hb1
    have x0 : w1.cell? ⟨g, 0, none⟩ = some (.string s) := hA1.1.cell 0
    have z0 : w1.frozen? ⟨g, 0, none⟩ = false := hA1.1.thaw 0
    have hgl1 := hA1.1.lt
    have HA1 := Lib.hid hA1
    have Hb1 := Lib.hid hb1
    clear hA1 hb1 y0
    go_wp2
    go_ret
    exact SxPost.mkOk hres.out (HA1.out.set _ hz.out) (grow_trans (grow_below g Hb1.out) (grow_set _ _ _ _))
  · have hres := Lib.hid (textP_bad hr he)
    have hne2 : ((e : Int) != 0) = true := by rw [bne_iff_ne]; omega
    clear hr hf
    go_enter Tryz.func213, Tryz.ntmps213
    go_wp2_with fail
    refine Calls.mono HR.out ?_
    rintro e' w1 ⟨rfl, hb1⟩
    go_wp2
    exact ⟨rfl, SxPost.mkBad hres.out (grow_below g hb1)⟩
theorem manyP_ok {most : Nat} {s r : ByteArray} {n : Nat} (h : numP s = .ok n r) (hl : ¬ most < n) : manyP most s = .ok n r := by unfold manyP; rw [h, RR.bind_ok, if_neg hl]
theorem manyP_large {most : Nat} {s r : ByteArray} {n : Nat} (h : numP s = .ok n r) (hl : most < n) : manyP most s = .bad 2 := by unfold manyP; rw [h, RR.bind_ok, if_pos hl]
theorem manyP_bad {most : Nat} {s : ByteArray} {x : Nat} (h : numP s = .bad x) : manyP most s = .bad x := by unfold manyP; rw [h, RR.bind_bad]
set_option maxRecDepth 100000 in
set_option maxHeartbeats 2000000 in
theorem sxmany (g most : Nat) (s : ByteArray) (w : World) (h : SxAt w g s) (hm : most ≤ 1000) :
    Calls Tryz.prog 212 #[.pointer (some ⟨g, 0, none⟩), .int .i64 (most : Int)] w (SxPost g (manyP most s) (fun n : Nat => .int .i64 n) w) := by
  have HB := Lib.hid (sxnum g s w h)
  clear h
  rcases hr : numP s with ⟨a, r⟩ | x
  · have hle := numP_le hr
    have Hr := Lib.hid hr
    by_cases hl : most < a
    · have hd : decide ((most : Int) < (a : Int)) = true := decide_eq_true (by omega)
      have hres := Lib.hid (manyP_large hr hl)
      clear hr
      go_enter Tryz.func212, Tryz.ntmps212
      go_wp2_with fail
      refine Calls.mono HB.out ?_
      intro e w1 hp
      obtain ⟨rfl, hs, hg⟩ := hp.ok Hr.out
      have hg := Lib.hid hg
      clear hp hs
      go_wp2
      exact ⟨rfl, SxPost.mkBad hres.out hg.out⟩
    · have hd : decide ((most : Int) < (a : Int)) = false := decide_eq_false (by omega)
      have hres := Lib.hid (manyP_ok hr hl)
      clear hr
      go_enter Tryz.func212, Tryz.ntmps212
      go_wp2_with fail
      refine Calls.mono HB.out ?_
      intro e w1 hp
      obtain ⟨rfl, hs, hg⟩ := hp.ok Hr.out
      have hs := Lib.hid hs
      have hg := Lib.hid hg
      clear hp
      go_wp2
      go_ret
      exact SxPost.mkOk hres.out hs.out hg.out
  · have Hr := Lib.hid hr
    have hres := Lib.hid (manyP_bad (most := most) hr)
    clear hr
    go_enter Tryz.func212, Tryz.ntmps212
    go_wp2_with fail
    refine Calls.mono HB.out ?_
    intro e w1 hp
    obtain ⟨rfl, hg⟩ := hp.bad Hr.out
    unfold thrown
    go_wp2
    exact ⟨rfl, SxPost.mkBad hres.out hg⟩
end Go.Proofs.YtbbagnfmoecdfaaGreatDoor
namespace Go.Proofs.YtbbagnfmoecdfaaGreatDoor
open Go.RowKit
/-- On the way: the source, and a block of the call's own. -/
structure SGo (w0 w : World) (g : Nat) (s : ByteArray) (R : Nat) (t : TypeId) (cs : Array Value) : Prop where
  at_ : SxAt w g s
  keep : w0.grownBy w (some g)
  blk : Blk w R t cs
  gt : g < R
  new : w0.heap.size ≤ R
theorem SxAt.alloc {w : World} {g : Nat} {s : ByteArray} (h : SxAt w g s) (o : Obj) : SxAt (w.alloc o) g s := h.below ((Below.refl _ _).alloc (Nat.le_refl _) _)
theorem SGo.start {w : World} {g : Nat} {s : ByteArray} (h : SxAt w g s) (t : TypeId) (cs : Array Value) : SGo w (w.alloc (.cells cs t)) g s w.heap.size t cs :=
  ⟨h.alloc _, grow_below _ ((Below.refl _ _).alloc (Nat.le_refl _) _), heap_alloc_new w _, h.1.lt, Nat.le_refl _⟩
theorem SGo.next {w0 w w' : World} {g R : Nat} {s s' : ByteArray} {t : TypeId} {cs : Array Value} (h : SGo w0 w g s R t cs) (hok : SxAt w' g s') (hg : w.grownBy w' (some g)) : SGo w0 w' g s' R t cs :=
  ⟨hok, grow_trans h.keep hg, grow_blk hg h.blk (Nat.ne_of_gt h.gt), h.gt, h.new⟩
theorem SGo.alloc {w0 w : World} {g R : Nat} {s : ByteArray} {t : TypeId} {cs : Array Value} (h : SGo w0 w g s R t cs) (o : Obj) : SGo w0 (w.alloc o) g s R t cs :=
  ⟨h.at_.alloc _, grow_trans h.keep (grow_below _ ((Below.refl _ _).alloc (Nat.le_refl _) _)), h.blk.alloc _, h.gt, h.new⟩
theorem SGo.set {w0 w : World} {g R : Nat} {s : ByteArray} {t : TypeId} {cs : Array Value} (h : SGo w0 w g s R t cs) (i : Nat) (v : Value) : SGo w0 (w.setCell ⟨R, i, none⟩ v) g s R t (cs.setIfInBounds i v) :=
  ⟨h.at_.grow (grow_set w R i v) (Nat.ne_of_lt h.gt), grow_other h.keep (grow_set _ _ _ _) h.new, h.blk.set i v, h.gt, h.new⟩
theorem SGo.put {w0 w : World} {g R : Nat} {s : ByteArray} {t : TypeId} {cs : Array Value} (h : SGo w0 w g s R t cs) (i : Nat) (v : Value) (cs' : Array Value) (e : cs.setIfInBounds i v = cs') : SGo w0 (w.setCell ⟨R, i, none⟩ v) g s R t cs' := e ▸ h.set i v
set_option maxRecDepth 100000 in
set_option maxHeartbeats 2000000 in
theorem sxjob_0 (g : Nat) (s : ByteArray) (v : Int) (w : World) (h1 : ¬ 1 < v) (h2 : ¬ 2 < v) (h : SxAt w g s) :
    Calls Tryz.prog 223 #[.pointer (some ⟨g, 0, none⟩), .int .i64 v] w (SxPost g (jobP v s) (fun x : JobD => .agg (jobV x).toArray) w) := by
  have d1 : decide (1 < v) = false := decide_eq_false h1
  have d2 : decide (2 < v) = false := decide_eq_false h2
  have H0 := Lib.hid (SGo.start h 41 #[.string ⟨#[]⟩, .int .i64 0, .int .i64 0, .int .i64 0, .string ⟨#[]⟩])
  have hgl := h.1.lt
  have HP := Lib.hid (fun s : ByteArray => (show jobP v s = (textP s).bind fun (name : ByteArray) s => (numP s).bind fun (prio : Nat) s => (numP s).bind fun (need : Nat) s => ((.ok 0 s : RR Nat)).bind fun (tries : Nat) s => ((.ok ⟨#[]⟩ s : RR ByteArray)).bind fun (tag : ByteArray) s => RR.ok ⟨name, zagZ prio, need, tries, tag⟩ s by unfold jobP; simp only [if_neg h1, if_neg h2]))
  clear h h1 h2
  go_enter Tryz.func223, Tryz.ntmps223
  go_wp2_with fail
  refine Calls.mono (sxtext g s _ H0.out.at_) ?_
  intro e w1 hp
  rcases hr : textP s with ⟨name, s1⟩ | x
  rotate_left
  · obtain ⟨rfl, hg⟩ := hp.bad hr
    have E0 := Lib.hid hr
    have hres := Lib.hid (show jobP v s = .bad x by rw [HP.out]; rw [E0.out]; rw [RR.bind_bad])
    have hg := Lib.hid (grow_trans H0.out.keep hg)
    clear hr hp
    unfold thrown
    go_wp2
    exact ⟨rfl, SxPost.mkBad hres.out hg.out⟩
  obtain ⟨rfl, hs1, hg1⟩ := hp.ok hr
  have E0 := Lib.hid hr
  have Ha := H0.out.next hs1 hg1
  have u0 : w1.frozen? ⟨w.heap.size, 0, none⟩ = false := Ha.blk.thaw 0
  have x0 : w1.cell? ⟨w.heap.size, 0, none⟩ = some (.string ⟨#[]⟩) := Ha.blk.cell 0
  have hR0 : w.heap.size < w1.heap.size := Ha.blk.lt
  have H1 := Lib.hid (Ha.put 0 (.string name) #[.string name, .int .i64 0, .int .i64 0, .int .i64 0, .string ⟨#[]⟩] rfl)
  clear hr hp hs1 hg1 Ha H0
  go_wp2_with fail
  refine Calls.mono (sxbig g s1 _ H1.out.at_) ?_
  intro e w2 hp
  rcases hr : numP s1 with ⟨prio, s2⟩ | x
  rotate_left
  · obtain ⟨rfl, hg⟩ := hp.bad hr
    have E1 := Lib.hid hr
    have hres := Lib.hid (show jobP v s = .bad x by rw [HP.out]; rw [E0.out]; rw [RR.bind_ok]; rw [E1.out]; rw [RR.bind_bad])
    have hg := Lib.hid (grow_trans H1.out.keep hg)
    clear hr hp
    unfold thrown
    go_wp2
    exact ⟨rfl, SxPost.mkBad hres.out hg.out⟩
  obtain ⟨rfl, hs1, hg1⟩ := hp.ok hr
  have E1 := Lib.hid hr
  have hle1 := numP_le hr
  have Ha := H1.out.next hs1 hg1
  have u1 : w2.frozen? ⟨w.heap.size, 1, none⟩ = false := Ha.blk.thaw 1
  have x1 : w2.cell? ⟨w.heap.size, 1, none⟩ = some (.int .i64 0) := Ha.blk.cell 1
  have hR1 : w.heap.size < w2.heap.size := Ha.blk.lt
  have H2 := Lib.hid (Ha.put 1 (.int .i64 (zagZ ((prio : Nat) : Int))) #[.string name, .int .i64 (zagZ ((prio : Nat) : Int)), .int .i64 0, .int .i64 0, .string ⟨#[]⟩] rfl)
  clear hr hp hs1 hg1 Ha H1 u0 x0 hR0
  go_wp2_with fail
  refine Calls.mono (rzag_any (prio : Int) (by omega) (by omega) _) ?_
  rintro e wz ⟨rfl, rfl⟩
  go_wp2_with fail
  refine Calls.mono (sxnum g s2 _ H2.out.at_) ?_
  intro e w3 hp
  rcases hr : numP s2 with ⟨need, s3⟩ | x
  rotate_left
  · obtain ⟨rfl, hg⟩ := hp.bad hr
    have E2 := Lib.hid hr
    have hres := Lib.hid (show jobP v s = .bad x by rw [HP.out]; rw [E0.out]; rw [RR.bind_ok]; rw [E1.out]; rw [RR.bind_ok]; rw [E2.out]; rw [RR.bind_bad])
    have hg := Lib.hid (grow_trans H2.out.keep hg)
    clear hr hp
    unfold thrown
    go_wp2
    exact ⟨rfl, SxPost.mkBad hres.out hg.out⟩
  obtain ⟨rfl, hs1, hg1⟩ := hp.ok hr
  have E2 := Lib.hid hr
  have hle2 := numP_le hr
  have Ha := H2.out.next hs1 hg1
  have u2 : w3.frozen? ⟨w.heap.size, 2, none⟩ = false := Ha.blk.thaw 2
  have x2 : w3.cell? ⟨w.heap.size, 2, none⟩ = some (.int .i64 0) := Ha.blk.cell 2
  have hR2 : w.heap.size < w3.heap.size := Ha.blk.lt
  have H3 := Lib.hid (Ha.put 2 (.int .i64 ((need : Nat) : Int)) #[.string name, .int .i64 (zagZ ((prio : Nat) : Int)), .int .i64 ((need : Nat) : Int), .int .i64 0, .string ⟨#[]⟩] rfl)
  have y0 : w3.cell? ⟨w.heap.size, 0, none⟩ = some (.string name) := Ha.blk.cell 0
  have z0 : w3.frozen? ⟨w.heap.size, 0, none⟩ = false := Ha.blk.thaw 0
  have y1 : w3.cell? ⟨w.heap.size, 1, none⟩ = some (.int .i64 (zagZ ((prio : Nat) : Int))) := Ha.blk.cell 1
  have z1 : w3.frozen? ⟨w.heap.size, 1, none⟩ = false := Ha.blk.thaw 1
  have y3 : w3.cell? ⟨w.heap.size, 3, none⟩ = some (.int .i64 0) := Ha.blk.cell 3
  have z3 : w3.frozen? ⟨w.heap.size, 3, none⟩ = false := Ha.blk.thaw 3
  have y4 : w3.cell? ⟨w.heap.size, 4, none⟩ = some (.string ⟨#[]⟩) := Ha.blk.cell 4
  have z4 : w3.frozen? ⟨w.heap.size, 4, none⟩ = false := Ha.blk.thaw 4
  clear hr hp hs1 hg1 Ha H2 u1 x1 hR1
  have Q := (((((H3.out.put 0 (.string name) #[.string name, .int .i64 (zagZ ((prio : Nat) : Int)), .int .i64 ((need : Nat) : Int), .int .i64 0, .string ⟨#[]⟩] rfl).put 1 (.int .i64 (zagZ ((prio : Nat) : Int))) #[.string name, .int .i64 (zagZ ((prio : Nat) : Int)), .int .i64 ((need : Nat) : Int), .int .i64 0, .string ⟨#[]⟩] rfl).put 2 (.int .i64 ((need : Nat) : Int)) #[.string name, .int .i64 (zagZ ((prio : Nat) : Int)), .int .i64 ((need : Nat) : Int), .int .i64 0, .string ⟨#[]⟩] rfl).put 3 (.int .i64 0) #[.string name, .int .i64 (zagZ ((prio : Nat) : Int)), .int .i64 ((need : Nat) : Int), .int .i64 0, .string ⟨#[]⟩] rfl).put 4 (.string ⟨#[]⟩) #[.string name, .int .i64 (zagZ ((prio : Nat) : Int)), .int .i64 ((need : Nat) : Int), .int .i64 0, .string ⟨#[]⟩] rfl)
  have q0 := (show _ = (some (.string name) : Option Value) from Q.blk.cell 0)
  have q1 := (show _ = (some (.int .i64 (zagZ ((prio : Nat) : Int))) : Option Value) from Q.blk.cell 1)
  have q2 := (show _ = (some (.int .i64 ((need : Nat) : Int)) : Option Value) from Q.blk.cell 2)
  have q3 := (show _ = (some (.int .i64 0) : Option Value) from Q.blk.cell 3)
  have q4 := (show _ = (some (.string ⟨#[]⟩) : Option Value) from Q.blk.cell 4)
  have Hok := Lib.hid Q.at_
  have Hkp := Lib.hid Q.keep
  have hres := Lib.hid (show jobP v s = .ok ⟨name, zagZ ((prio : Nat) : Int), ((need : Nat) : Int), 0, ⟨#[]⟩⟩ s3 by rw [HP.out]; rw [E0.out]; rw [RR.bind_ok]; rw [E1.out]; rw [RR.bind_ok]; rw [E2.out]; rw [RR.bind_ok]; rw [RR.bind_ok]; rw [RR.bind_ok]; try rfl)
  clear Q
  go_wp2
  refine bodyPost_ret (v := .agg #[.string name, .int .i64 (zagZ ((prio : Nat) : Int)), .int .i64 ((need : Nat) : Int), .int .i64 0, .string ⟨#[]⟩]) (by simp [results, Tryz.results223, go_sem, *]) rfl ?_
  exact SxPost.mkOk hres.out Hok.out Hkp.out
set_option maxRecDepth 100000 in
set_option maxHeartbeats 2000000 in
theorem sxjob_1 (g : Nat) (s : ByteArray) (v : Int) (w : World) (h1 : 1 < v) (h2 : ¬ 2 < v) (h : SxAt w g s) :
    Calls Tryz.prog 223 #[.pointer (some ⟨g, 0, none⟩), .int .i64 v] w (SxPost g (jobP v s) (fun x : JobD => .agg (jobV x).toArray) w) := by
  have d1 : decide (1 < v) = true := decide_eq_true h1
  have d2 : decide (2 < v) = false := decide_eq_false h2
  have H0 := Lib.hid (SGo.start h 41 #[.string ⟨#[]⟩, .int .i64 0, .int .i64 0, .int .i64 0, .string ⟨#[]⟩])
  have hgl := h.1.lt
  have HP := Lib.hid (fun s : ByteArray => (show jobP v s = (textP s).bind fun (name : ByteArray) s => (numP s).bind fun (prio : Nat) s => (numP s).bind fun (need : Nat) s => (numP s).bind fun (tries : Nat) s => ((.ok ⟨#[]⟩ s : RR ByteArray)).bind fun (tag : ByteArray) s => RR.ok ⟨name, zagZ prio, need, tries, tag⟩ s by unfold jobP; simp only [if_pos h1, if_neg h2]))
  clear h h1 h2
  go_enter Tryz.func223, Tryz.ntmps223
  go_wp2_with fail
  refine Calls.mono (sxtext g s _ H0.out.at_) ?_
  intro e w1 hp
  rcases hr : textP s with ⟨name, s1⟩ | x
  rotate_left
  · obtain ⟨rfl, hg⟩ := hp.bad hr
    have E0 := Lib.hid hr
    have hres := Lib.hid (show jobP v s = .bad x by rw [HP.out]; rw [E0.out]; rw [RR.bind_bad])
    have hg := Lib.hid (grow_trans H0.out.keep hg)
    clear hr hp
    unfold thrown
    go_wp2
    exact ⟨rfl, SxPost.mkBad hres.out hg.out⟩
  obtain ⟨rfl, hs1, hg1⟩ := hp.ok hr
  have E0 := Lib.hid hr
  have Ha := H0.out.next hs1 hg1
  have u0 : w1.frozen? ⟨w.heap.size, 0, none⟩ = false := Ha.blk.thaw 0
  have x0 : w1.cell? ⟨w.heap.size, 0, none⟩ = some (.string ⟨#[]⟩) := Ha.blk.cell 0
  have hR0 : w.heap.size < w1.heap.size := Ha.blk.lt
  have H1 := Lib.hid (Ha.put 0 (.string name) #[.string name, .int .i64 0, .int .i64 0, .int .i64 0, .string ⟨#[]⟩] rfl)
  clear hr hp hs1 hg1 Ha H0
  go_wp2_with fail
  refine Calls.mono (sxbig g s1 _ H1.out.at_) ?_
  intro e w2 hp
  rcases hr : numP s1 with ⟨prio, s2⟩ | x
  rotate_left
  · obtain ⟨rfl, hg⟩ := hp.bad hr
    have E1 := Lib.hid hr
    have hres := Lib.hid (show jobP v s = .bad x by rw [HP.out]; rw [E0.out]; rw [RR.bind_ok]; rw [E1.out]; rw [RR.bind_bad])
    have hg := Lib.hid (grow_trans H1.out.keep hg)
    clear hr hp
    unfold thrown
    go_wp2
    exact ⟨rfl, SxPost.mkBad hres.out hg.out⟩
  obtain ⟨rfl, hs1, hg1⟩ := hp.ok hr
  have E1 := Lib.hid hr
  have hle1 := numP_le hr
  have Ha := H1.out.next hs1 hg1
  have u1 : w2.frozen? ⟨w.heap.size, 1, none⟩ = false := Ha.blk.thaw 1
  have x1 : w2.cell? ⟨w.heap.size, 1, none⟩ = some (.int .i64 0) := Ha.blk.cell 1
  have hR1 : w.heap.size < w2.heap.size := Ha.blk.lt
  have H2 := Lib.hid (Ha.put 1 (.int .i64 (zagZ ((prio : Nat) : Int))) #[.string name, .int .i64 (zagZ ((prio : Nat) : Int)), .int .i64 0, .int .i64 0, .string ⟨#[]⟩] rfl)
  clear hr hp hs1 hg1 Ha H1 u0 x0 hR0
  go_wp2_with fail
  refine Calls.mono (rzag_any (prio : Int) (by omega) (by omega) _) ?_
  rintro e wz ⟨rfl, rfl⟩
  go_wp2_with fail
  refine Calls.mono (sxnum g s2 _ H2.out.at_) ?_
  intro e w3 hp
  rcases hr : numP s2 with ⟨need, s3⟩ | x
  rotate_left
  · obtain ⟨rfl, hg⟩ := hp.bad hr
    have E2 := Lib.hid hr
    have hres := Lib.hid (show jobP v s = .bad x by rw [HP.out]; rw [E0.out]; rw [RR.bind_ok]; rw [E1.out]; rw [RR.bind_ok]; rw [E2.out]; rw [RR.bind_bad])
    have hg := Lib.hid (grow_trans H2.out.keep hg)
    clear hr hp
    unfold thrown
    go_wp2
    exact ⟨rfl, SxPost.mkBad hres.out hg.out⟩
  obtain ⟨rfl, hs1, hg1⟩ := hp.ok hr
  have E2 := Lib.hid hr
  have hle2 := numP_le hr
  have Ha := H2.out.next hs1 hg1
  have u2 : w3.frozen? ⟨w.heap.size, 2, none⟩ = false := Ha.blk.thaw 2
  have x2 : w3.cell? ⟨w.heap.size, 2, none⟩ = some (.int .i64 0) := Ha.blk.cell 2
  have hR2 : w.heap.size < w3.heap.size := Ha.blk.lt
  have H3 := Lib.hid (Ha.put 2 (.int .i64 ((need : Nat) : Int)) #[.string name, .int .i64 (zagZ ((prio : Nat) : Int)), .int .i64 ((need : Nat) : Int), .int .i64 0, .string ⟨#[]⟩] rfl)
  clear hr hp hs1 hg1 Ha H2 u1 x1 hR1
  go_wp2_with fail
  refine Calls.mono (sxnum g s3 _ H3.out.at_) ?_
  intro e w4 hp
  rcases hr : numP s3 with ⟨tries, s4⟩ | x
  rotate_left
  · obtain ⟨rfl, hg⟩ := hp.bad hr
    have E3 := Lib.hid hr
    have hres := Lib.hid (show jobP v s = .bad x by rw [HP.out]; rw [E0.out]; rw [RR.bind_ok]; rw [E1.out]; rw [RR.bind_ok]; rw [E2.out]; rw [RR.bind_ok]; rw [E3.out]; rw [RR.bind_bad])
    have hg := Lib.hid (grow_trans H3.out.keep hg)
    clear hr hp
    unfold thrown
    go_wp2
    exact ⟨rfl, SxPost.mkBad hres.out hg.out⟩
  obtain ⟨rfl, hs1, hg1⟩ := hp.ok hr
  have E3 := Lib.hid hr
  have hle3 := numP_le hr
  have Ha := H3.out.next hs1 hg1
  have u3 : w4.frozen? ⟨w.heap.size, 3, none⟩ = false := Ha.blk.thaw 3
  have x3 : w4.cell? ⟨w.heap.size, 3, none⟩ = some (.int .i64 0) := Ha.blk.cell 3
  have hR3 : w.heap.size < w4.heap.size := Ha.blk.lt
  have H4 := Lib.hid (Ha.put 3 (.int .i64 ((tries : Nat) : Int)) #[.string name, .int .i64 (zagZ ((prio : Nat) : Int)), .int .i64 ((need : Nat) : Int), .int .i64 ((tries : Nat) : Int), .string ⟨#[]⟩] rfl)
  have y0 : w4.cell? ⟨w.heap.size, 0, none⟩ = some (.string name) := Ha.blk.cell 0
  have z0 : w4.frozen? ⟨w.heap.size, 0, none⟩ = false := Ha.blk.thaw 0
  have y1 : w4.cell? ⟨w.heap.size, 1, none⟩ = some (.int .i64 (zagZ ((prio : Nat) : Int))) := Ha.blk.cell 1
  have z1 : w4.frozen? ⟨w.heap.size, 1, none⟩ = false := Ha.blk.thaw 1
  have y2 : w4.cell? ⟨w.heap.size, 2, none⟩ = some (.int .i64 ((need : Nat) : Int)) := Ha.blk.cell 2
  have z2 : w4.frozen? ⟨w.heap.size, 2, none⟩ = false := Ha.blk.thaw 2
  have y4 : w4.cell? ⟨w.heap.size, 4, none⟩ = some (.string ⟨#[]⟩) := Ha.blk.cell 4
  have z4 : w4.frozen? ⟨w.heap.size, 4, none⟩ = false := Ha.blk.thaw 4
  clear hr hp hs1 hg1 Ha H3 u2 x2 hR2
  have Q := (((((H4.out.put 0 (.string name) #[.string name, .int .i64 (zagZ ((prio : Nat) : Int)), .int .i64 ((need : Nat) : Int), .int .i64 ((tries : Nat) : Int), .string ⟨#[]⟩] rfl).put 1 (.int .i64 (zagZ ((prio : Nat) : Int))) #[.string name, .int .i64 (zagZ ((prio : Nat) : Int)), .int .i64 ((need : Nat) : Int), .int .i64 ((tries : Nat) : Int), .string ⟨#[]⟩] rfl).put 2 (.int .i64 ((need : Nat) : Int)) #[.string name, .int .i64 (zagZ ((prio : Nat) : Int)), .int .i64 ((need : Nat) : Int), .int .i64 ((tries : Nat) : Int), .string ⟨#[]⟩] rfl).put 3 (.int .i64 ((tries : Nat) : Int)) #[.string name, .int .i64 (zagZ ((prio : Nat) : Int)), .int .i64 ((need : Nat) : Int), .int .i64 ((tries : Nat) : Int), .string ⟨#[]⟩] rfl).put 4 (.string ⟨#[]⟩) #[.string name, .int .i64 (zagZ ((prio : Nat) : Int)), .int .i64 ((need : Nat) : Int), .int .i64 ((tries : Nat) : Int), .string ⟨#[]⟩] rfl)
  have q0 := (show _ = (some (.string name) : Option Value) from Q.blk.cell 0)
  have q1 := (show _ = (some (.int .i64 (zagZ ((prio : Nat) : Int))) : Option Value) from Q.blk.cell 1)
  have q2 := (show _ = (some (.int .i64 ((need : Nat) : Int)) : Option Value) from Q.blk.cell 2)
  have q3 := (show _ = (some (.int .i64 ((tries : Nat) : Int)) : Option Value) from Q.blk.cell 3)
  have q4 := (show _ = (some (.string ⟨#[]⟩) : Option Value) from Q.blk.cell 4)
  have Hok := Lib.hid Q.at_
  have Hkp := Lib.hid Q.keep
  have hres := Lib.hid (show jobP v s = .ok ⟨name, zagZ ((prio : Nat) : Int), ((need : Nat) : Int), ((tries : Nat) : Int), ⟨#[]⟩⟩ s4 by rw [HP.out]; rw [E0.out]; rw [RR.bind_ok]; rw [E1.out]; rw [RR.bind_ok]; rw [E2.out]; rw [RR.bind_ok]; rw [E3.out]; rw [RR.bind_ok]; rw [RR.bind_ok]; try rfl)
  clear Q
  go_wp2
  refine bodyPost_ret (v := .agg #[.string name, .int .i64 (zagZ ((prio : Nat) : Int)), .int .i64 ((need : Nat) : Int), .int .i64 ((tries : Nat) : Int), .string ⟨#[]⟩]) (by simp [results, Tryz.results223, go_sem, *]) rfl ?_
  exact SxPost.mkOk hres.out Hok.out Hkp.out
set_option maxRecDepth 100000 in
set_option maxHeartbeats 2000000 in
theorem sxjob_2 (g : Nat) (s : ByteArray) (v : Int) (w : World) (h1 : 1 < v) (h2 : 2 < v) (h : SxAt w g s) :
    Calls Tryz.prog 223 #[.pointer (some ⟨g, 0, none⟩), .int .i64 v] w (SxPost g (jobP v s) (fun x : JobD => .agg (jobV x).toArray) w) := by
  have d1 : decide (1 < v) = true := decide_eq_true h1
  have d2 : decide (2 < v) = true := decide_eq_true h2
  have H0 := Lib.hid (SGo.start h 41 #[.string ⟨#[]⟩, .int .i64 0, .int .i64 0, .int .i64 0, .string ⟨#[]⟩])
  have hgl := h.1.lt
  have HP := Lib.hid (fun s : ByteArray => (show jobP v s = (textP s).bind fun (name : ByteArray) s => (numP s).bind fun (prio : Nat) s => (numP s).bind fun (need : Nat) s => (numP s).bind fun (tries : Nat) s => (textP s).bind fun (tag : ByteArray) s => RR.ok ⟨name, zagZ prio, need, tries, tag⟩ s by unfold jobP; simp only [if_pos h1, if_pos h2]))
  clear h h1 h2
  go_enter Tryz.func223, Tryz.ntmps223
  go_wp2_with fail
  refine Calls.mono (sxtext g s _ H0.out.at_) ?_
  intro e w1 hp
  rcases hr : textP s with ⟨name, s1⟩ | x
  rotate_left
  · obtain ⟨rfl, hg⟩ := hp.bad hr
    have E0 := Lib.hid hr
    have hres := Lib.hid (show jobP v s = .bad x by rw [HP.out]; rw [E0.out]; rw [RR.bind_bad])
    have hg := Lib.hid (grow_trans H0.out.keep hg)
    clear hr hp
    unfold thrown
    go_wp2
    exact ⟨rfl, SxPost.mkBad hres.out hg.out⟩
  obtain ⟨rfl, hs1, hg1⟩ := hp.ok hr
  have E0 := Lib.hid hr
  have Ha := H0.out.next hs1 hg1
  have u0 : w1.frozen? ⟨w.heap.size, 0, none⟩ = false := Ha.blk.thaw 0
  have x0 : w1.cell? ⟨w.heap.size, 0, none⟩ = some (.string ⟨#[]⟩) := Ha.blk.cell 0
  have hR0 : w.heap.size < w1.heap.size := Ha.blk.lt
  have H1 := Lib.hid (Ha.put 0 (.string name) #[.string name, .int .i64 0, .int .i64 0, .int .i64 0, .string ⟨#[]⟩] rfl)
  clear hr hp hs1 hg1 Ha H0
  go_wp2_with fail
  refine Calls.mono (sxbig g s1 _ H1.out.at_) ?_
  intro e w2 hp
  rcases hr : numP s1 with ⟨prio, s2⟩ | x
  rotate_left
  · obtain ⟨rfl, hg⟩ := hp.bad hr
    have E1 := Lib.hid hr
    have hres := Lib.hid (show jobP v s = .bad x by rw [HP.out]; rw [E0.out]; rw [RR.bind_ok]; rw [E1.out]; rw [RR.bind_bad])
    have hg := Lib.hid (grow_trans H1.out.keep hg)
    clear hr hp
    unfold thrown
    go_wp2
    exact ⟨rfl, SxPost.mkBad hres.out hg.out⟩
  obtain ⟨rfl, hs1, hg1⟩ := hp.ok hr
  have E1 := Lib.hid hr
  have hle1 := numP_le hr
  have Ha := H1.out.next hs1 hg1
  have u1 : w2.frozen? ⟨w.heap.size, 1, none⟩ = false := Ha.blk.thaw 1
  have x1 : w2.cell? ⟨w.heap.size, 1, none⟩ = some (.int .i64 0) := Ha.blk.cell 1
  have hR1 : w.heap.size < w2.heap.size := Ha.blk.lt
  have H2 := Lib.hid (Ha.put 1 (.int .i64 (zagZ ((prio : Nat) : Int))) #[.string name, .int .i64 (zagZ ((prio : Nat) : Int)), .int .i64 0, .int .i64 0, .string ⟨#[]⟩] rfl)
  clear hr hp hs1 hg1 Ha H1 u0 x0 hR0
  go_wp2_with fail
  refine Calls.mono (rzag_any (prio : Int) (by omega) (by omega) _) ?_
  rintro e wz ⟨rfl, rfl⟩
  go_wp2_with fail
  refine Calls.mono (sxnum g s2 _ H2.out.at_) ?_
  intro e w3 hp
  rcases hr : numP s2 with ⟨need, s3⟩ | x
  rotate_left
  · obtain ⟨rfl, hg⟩ := hp.bad hr
    have E2 := Lib.hid hr
    have hres := Lib.hid (show jobP v s = .bad x by rw [HP.out]; rw [E0.out]; rw [RR.bind_ok]; rw [E1.out]; rw [RR.bind_ok]; rw [E2.out]; rw [RR.bind_bad])
    have hg := Lib.hid (grow_trans H2.out.keep hg)
    clear hr hp
    unfold thrown
    go_wp2
    exact ⟨rfl, SxPost.mkBad hres.out hg.out⟩
  obtain ⟨rfl, hs1, hg1⟩ := hp.ok hr
  have E2 := Lib.hid hr
  have hle2 := numP_le hr
  have Ha := H2.out.next hs1 hg1
  have u2 : w3.frozen? ⟨w.heap.size, 2, none⟩ = false := Ha.blk.thaw 2
  have x2 : w3.cell? ⟨w.heap.size, 2, none⟩ = some (.int .i64 0) := Ha.blk.cell 2
  have hR2 : w.heap.size < w3.heap.size := Ha.blk.lt
  have H3 := Lib.hid (Ha.put 2 (.int .i64 ((need : Nat) : Int)) #[.string name, .int .i64 (zagZ ((prio : Nat) : Int)), .int .i64 ((need : Nat) : Int), .int .i64 0, .string ⟨#[]⟩] rfl)
  clear hr hp hs1 hg1 Ha H2 u1 x1 hR1
  go_wp2_with fail
  refine Calls.mono (sxnum g s3 _ H3.out.at_) ?_
  intro e w4 hp
  rcases hr : numP s3 with ⟨tries, s4⟩ | x
  rotate_left
  · obtain ⟨rfl, hg⟩ := hp.bad hr
    have E3 := Lib.hid hr
    have hres := Lib.hid (show jobP v s = .bad x by rw [HP.out]; rw [E0.out]; rw [RR.bind_ok]; rw [E1.out]; rw [RR.bind_ok]; rw [E2.out]; rw [RR.bind_ok]; rw [E3.out]; rw [RR.bind_bad])
    have hg := Lib.hid (grow_trans H3.out.keep hg)
    clear hr hp
    unfold thrown
    go_wp2
    exact ⟨rfl, SxPost.mkBad hres.out hg.out⟩
  obtain ⟨rfl, hs1, hg1⟩ := hp.ok hr
  have E3 := Lib.hid hr
  have hle3 := numP_le hr
  have Ha := H3.out.next hs1 hg1
  have u3 : w4.frozen? ⟨w.heap.size, 3, none⟩ = false := Ha.blk.thaw 3
  have x3 : w4.cell? ⟨w.heap.size, 3, none⟩ = some (.int .i64 0) := Ha.blk.cell 3
  have hR3 : w.heap.size < w4.heap.size := Ha.blk.lt
  have H4 := Lib.hid (Ha.put 3 (.int .i64 ((tries : Nat) : Int)) #[.string name, .int .i64 (zagZ ((prio : Nat) : Int)), .int .i64 ((need : Nat) : Int), .int .i64 ((tries : Nat) : Int), .string ⟨#[]⟩] rfl)
  clear hr hp hs1 hg1 Ha H3 u2 x2 hR2
  go_wp2_with fail
  refine Calls.mono (sxtext g s4 _ H4.out.at_) ?_
  intro e w5 hp
  rcases hr : textP s4 with ⟨tag, s5⟩ | x
  rotate_left
  · obtain ⟨rfl, hg⟩ := hp.bad hr
    have E4 := Lib.hid hr
    have hres := Lib.hid (show jobP v s = .bad x by rw [HP.out]; rw [E0.out]; rw [RR.bind_ok]; rw [E1.out]; rw [RR.bind_ok]; rw [E2.out]; rw [RR.bind_ok]; rw [E3.out]; rw [RR.bind_ok]; rw [E4.out]; rw [RR.bind_bad])
    have hg := Lib.hid (grow_trans H4.out.keep hg)
    clear hr hp
    unfold thrown
    go_wp2
    exact ⟨rfl, SxPost.mkBad hres.out hg.out⟩
  obtain ⟨rfl, hs1, hg1⟩ := hp.ok hr
  have E4 := Lib.hid hr
  have Ha := H4.out.next hs1 hg1
  have u4 : w5.frozen? ⟨w.heap.size, 4, none⟩ = false := Ha.blk.thaw 4
  have x4 : w5.cell? ⟨w.heap.size, 4, none⟩ = some (.string ⟨#[]⟩) := Ha.blk.cell 4
  have hR4 : w.heap.size < w5.heap.size := Ha.blk.lt
  have H5 := Lib.hid (Ha.put 4 (.string tag) #[.string name, .int .i64 (zagZ ((prio : Nat) : Int)), .int .i64 ((need : Nat) : Int), .int .i64 ((tries : Nat) : Int), .string tag] rfl)
  have y0 : w5.cell? ⟨w.heap.size, 0, none⟩ = some (.string name) := Ha.blk.cell 0
  have z0 : w5.frozen? ⟨w.heap.size, 0, none⟩ = false := Ha.blk.thaw 0
  have y1 : w5.cell? ⟨w.heap.size, 1, none⟩ = some (.int .i64 (zagZ ((prio : Nat) : Int))) := Ha.blk.cell 1
  have z1 : w5.frozen? ⟨w.heap.size, 1, none⟩ = false := Ha.blk.thaw 1
  have y2 : w5.cell? ⟨w.heap.size, 2, none⟩ = some (.int .i64 ((need : Nat) : Int)) := Ha.blk.cell 2
  have z2 : w5.frozen? ⟨w.heap.size, 2, none⟩ = false := Ha.blk.thaw 2
  have y3 : w5.cell? ⟨w.heap.size, 3, none⟩ = some (.int .i64 ((tries : Nat) : Int)) := Ha.blk.cell 3
  have z3 : w5.frozen? ⟨w.heap.size, 3, none⟩ = false := Ha.blk.thaw 3
  clear hr hp hs1 hg1 Ha H4 u3 x3 hR3
  have Q := (((((H5.out.put 0 (.string name) #[.string name, .int .i64 (zagZ ((prio : Nat) : Int)), .int .i64 ((need : Nat) : Int), .int .i64 ((tries : Nat) : Int), .string tag] rfl).put 1 (.int .i64 (zagZ ((prio : Nat) : Int))) #[.string name, .int .i64 (zagZ ((prio : Nat) : Int)), .int .i64 ((need : Nat) : Int), .int .i64 ((tries : Nat) : Int), .string tag] rfl).put 2 (.int .i64 ((need : Nat) : Int)) #[.string name, .int .i64 (zagZ ((prio : Nat) : Int)), .int .i64 ((need : Nat) : Int), .int .i64 ((tries : Nat) : Int), .string tag] rfl).put 3 (.int .i64 ((tries : Nat) : Int)) #[.string name, .int .i64 (zagZ ((prio : Nat) : Int)), .int .i64 ((need : Nat) : Int), .int .i64 ((tries : Nat) : Int), .string tag] rfl).put 4 (.string tag) #[.string name, .int .i64 (zagZ ((prio : Nat) : Int)), .int .i64 ((need : Nat) : Int), .int .i64 ((tries : Nat) : Int), .string tag] rfl)
  have q0 := (show _ = (some (.string name) : Option Value) from Q.blk.cell 0)
  have q1 := (show _ = (some (.int .i64 (zagZ ((prio : Nat) : Int))) : Option Value) from Q.blk.cell 1)
  have q2 := (show _ = (some (.int .i64 ((need : Nat) : Int)) : Option Value) from Q.blk.cell 2)
  have q3 := (show _ = (some (.int .i64 ((tries : Nat) : Int)) : Option Value) from Q.blk.cell 3)
  have q4 := (show _ = (some (.string tag) : Option Value) from Q.blk.cell 4)
  have Hok := Lib.hid Q.at_
  have Hkp := Lib.hid Q.keep
  have hres := Lib.hid (show jobP v s = .ok ⟨name, zagZ ((prio : Nat) : Int), ((need : Nat) : Int), ((tries : Nat) : Int), tag⟩ s5 by rw [HP.out]; rw [E0.out]; rw [RR.bind_ok]; rw [E1.out]; rw [RR.bind_ok]; rw [E2.out]; rw [RR.bind_ok]; rw [E3.out]; rw [RR.bind_ok]; rw [E4.out]; rw [RR.bind_ok]; try rfl)
  clear Q
  go_wp2
  refine bodyPost_ret (v := .agg #[.string name, .int .i64 (zagZ ((prio : Nat) : Int)), .int .i64 ((need : Nat) : Int), .int .i64 ((tries : Nat) : Int), .string tag]) (by simp [results, Tryz.results223, go_sem, *]) rfl ?_
  exact SxPost.mkOk hres.out Hok.out Hkp.out
set_option maxRecDepth 100000 in
set_option maxHeartbeats 2000000 in
theorem sxnode_0 (g : Nat) (s : ByteArray) (v : Int) (w : World) (h1 : ¬ 1 < v) (h : SxAt w g s) :
    Calls Tryz.prog 224 #[.pointer (some ⟨g, 0, none⟩), .int .i64 v] w (SxPost g (nodeP v s) (fun x : NodeD => .agg (nodeV x).toArray) w) := by
  have d1 : decide (1 < v) = false := decide_eq_false h1
  have H0 := Lib.hid (SGo.start h 43 #[.string ⟨#[]⟩, .int .i64 0, .string ⟨#[]⟩])
  have hgl := h.1.lt
  have HP := Lib.hid (fun s : ByteArray => (show nodeP v s = (textP s).bind fun (name : ByteArray) s => (numP s).bind fun (room : Nat) s => ((.ok ⟨#[]⟩ s : RR ByteArray)).bind fun (zone : ByteArray) s => RR.ok ⟨name, room, zone⟩ s by unfold nodeP; simp only [if_neg h1]))
  clear h h1
  go_enter Tryz.func224, Tryz.ntmps224
  go_wp2_with fail
  refine Calls.mono (sxtext g s _ H0.out.at_) ?_
  intro e w1 hp
  rcases hr : textP s with ⟨name, s1⟩ | x
  rotate_left
  · obtain ⟨rfl, hg⟩ := hp.bad hr
    have E0 := Lib.hid hr
    have hres := Lib.hid (show nodeP v s = .bad x by rw [HP.out]; rw [E0.out]; rw [RR.bind_bad])
    have hg := Lib.hid (grow_trans H0.out.keep hg)
    clear hr hp
    unfold thrown
    go_wp2
    exact ⟨rfl, SxPost.mkBad hres.out hg.out⟩
  obtain ⟨rfl, hs1, hg1⟩ := hp.ok hr
  have E0 := Lib.hid hr
  have Ha := H0.out.next hs1 hg1
  have u0 : w1.frozen? ⟨w.heap.size, 0, none⟩ = false := Ha.blk.thaw 0
  have x0 : w1.cell? ⟨w.heap.size, 0, none⟩ = some (.string ⟨#[]⟩) := Ha.blk.cell 0
  have hR0 : w.heap.size < w1.heap.size := Ha.blk.lt
  have H1 := Lib.hid (Ha.put 0 (.string name) #[.string name, .int .i64 0, .string ⟨#[]⟩] rfl)
  clear hr hp hs1 hg1 Ha H0
  go_wp2_with fail
  refine Calls.mono (sxnum g s1 _ H1.out.at_) ?_
  intro e w2 hp
  rcases hr : numP s1 with ⟨room, s2⟩ | x
  rotate_left
  · obtain ⟨rfl, hg⟩ := hp.bad hr
    have E1 := Lib.hid hr
    have hres := Lib.hid (show nodeP v s = .bad x by rw [HP.out]; rw [E0.out]; rw [RR.bind_ok]; rw [E1.out]; rw [RR.bind_bad])
    have hg := Lib.hid (grow_trans H1.out.keep hg)
    clear hr hp
    unfold thrown
    go_wp2
    exact ⟨rfl, SxPost.mkBad hres.out hg.out⟩
  obtain ⟨rfl, hs1, hg1⟩ := hp.ok hr
  have E1 := Lib.hid hr
  have hle1 := numP_le hr
  have Ha := H1.out.next hs1 hg1
  have u1 : w2.frozen? ⟨w.heap.size, 1, none⟩ = false := Ha.blk.thaw 1
  have x1 : w2.cell? ⟨w.heap.size, 1, none⟩ = some (.int .i64 0) := Ha.blk.cell 1
  have hR1 : w.heap.size < w2.heap.size := Ha.blk.lt
  have H2 := Lib.hid (Ha.put 1 (.int .i64 ((room : Nat) : Int)) #[.string name, .int .i64 ((room : Nat) : Int), .string ⟨#[]⟩] rfl)
  have y0 : w2.cell? ⟨w.heap.size, 0, none⟩ = some (.string name) := Ha.blk.cell 0
  have z0 : w2.frozen? ⟨w.heap.size, 0, none⟩ = false := Ha.blk.thaw 0
  have y2 : w2.cell? ⟨w.heap.size, 2, none⟩ = some (.string ⟨#[]⟩) := Ha.blk.cell 2
  have z2 : w2.frozen? ⟨w.heap.size, 2, none⟩ = false := Ha.blk.thaw 2
  clear hr hp hs1 hg1 Ha H1 u0 x0 hR0
  have Q := (((H2.out.put 0 (.string name) #[.string name, .int .i64 ((room : Nat) : Int), .string ⟨#[]⟩] rfl).put 1 (.int .i64 ((room : Nat) : Int)) #[.string name, .int .i64 ((room : Nat) : Int), .string ⟨#[]⟩] rfl).put 2 (.string ⟨#[]⟩) #[.string name, .int .i64 ((room : Nat) : Int), .string ⟨#[]⟩] rfl)
  have q0 := (show _ = (some (.string name) : Option Value) from Q.blk.cell 0)
  have q1 := (show _ = (some (.int .i64 ((room : Nat) : Int)) : Option Value) from Q.blk.cell 1)
  have q2 := (show _ = (some (.string ⟨#[]⟩) : Option Value) from Q.blk.cell 2)
  have Hok := Lib.hid Q.at_
  have Hkp := Lib.hid Q.keep
  have hres := Lib.hid (show nodeP v s = .ok ⟨name, ((room : Nat) : Int), ⟨#[]⟩⟩ s2 by rw [HP.out]; rw [E0.out]; rw [RR.bind_ok]; rw [E1.out]; rw [RR.bind_ok]; rw [RR.bind_ok]; try rfl)
  clear Q
  go_wp2
  refine bodyPost_ret (v := .agg #[.string name, .int .i64 ((room : Nat) : Int), .string ⟨#[]⟩]) (by simp [results, Tryz.results224, go_sem, *]) rfl ?_
  exact SxPost.mkOk hres.out Hok.out Hkp.out
set_option maxRecDepth 100000 in
set_option maxHeartbeats 2000000 in
theorem sxnode_1 (g : Nat) (s : ByteArray) (v : Int) (w : World) (h1 : 1 < v) (h : SxAt w g s) :
    Calls Tryz.prog 224 #[.pointer (some ⟨g, 0, none⟩), .int .i64 v] w (SxPost g (nodeP v s) (fun x : NodeD => .agg (nodeV x).toArray) w) := by
  have d1 : decide (1 < v) = true := decide_eq_true h1
  have H0 := Lib.hid (SGo.start h 43 #[.string ⟨#[]⟩, .int .i64 0, .string ⟨#[]⟩])
  have hgl := h.1.lt
  have HP := Lib.hid (fun s : ByteArray => (show nodeP v s = (textP s).bind fun (name : ByteArray) s => (numP s).bind fun (room : Nat) s => (textP s).bind fun (zone : ByteArray) s => RR.ok ⟨name, room, zone⟩ s by unfold nodeP; simp only [if_pos h1]))
  clear h h1
  go_enter Tryz.func224, Tryz.ntmps224
  go_wp2_with fail
  refine Calls.mono (sxtext g s _ H0.out.at_) ?_
  intro e w1 hp
  rcases hr : textP s with ⟨name, s1⟩ | x
  rotate_left
  · obtain ⟨rfl, hg⟩ := hp.bad hr
    have E0 := Lib.hid hr
    have hres := Lib.hid (show nodeP v s = .bad x by rw [HP.out]; rw [E0.out]; rw [RR.bind_bad])
    have hg := Lib.hid (grow_trans H0.out.keep hg)
    clear hr hp
    unfold thrown
    go_wp2
    exact ⟨rfl, SxPost.mkBad hres.out hg.out⟩
  obtain ⟨rfl, hs1, hg1⟩ := hp.ok hr
  have E0 := Lib.hid hr
  have Ha := H0.out.next hs1 hg1
  have u0 : w1.frozen? ⟨w.heap.size, 0, none⟩ = false := Ha.blk.thaw 0
  have x0 : w1.cell? ⟨w.heap.size, 0, none⟩ = some (.string ⟨#[]⟩) := Ha.blk.cell 0
  have hR0 : w.heap.size < w1.heap.size := Ha.blk.lt
  have H1 := Lib.hid (Ha.put 0 (.string name) #[.string name, .int .i64 0, .string ⟨#[]⟩] rfl)
  clear hr hp hs1 hg1 Ha H0
  go_wp2_with fail
  refine Calls.mono (sxnum g s1 _ H1.out.at_) ?_
  intro e w2 hp
  rcases hr : numP s1 with ⟨room, s2⟩ | x
  rotate_left
  · obtain ⟨rfl, hg⟩ := hp.bad hr
    have E1 := Lib.hid hr
    have hres := Lib.hid (show nodeP v s = .bad x by rw [HP.out]; rw [E0.out]; rw [RR.bind_ok]; rw [E1.out]; rw [RR.bind_bad])
    have hg := Lib.hid (grow_trans H1.out.keep hg)
    clear hr hp
    unfold thrown
    go_wp2
    exact ⟨rfl, SxPost.mkBad hres.out hg.out⟩
  obtain ⟨rfl, hs1, hg1⟩ := hp.ok hr
  have E1 := Lib.hid hr
  have hle1 := numP_le hr
  have Ha := H1.out.next hs1 hg1
  have u1 : w2.frozen? ⟨w.heap.size, 1, none⟩ = false := Ha.blk.thaw 1
  have x1 : w2.cell? ⟨w.heap.size, 1, none⟩ = some (.int .i64 0) := Ha.blk.cell 1
  have hR1 : w.heap.size < w2.heap.size := Ha.blk.lt
  have H2 := Lib.hid (Ha.put 1 (.int .i64 ((room : Nat) : Int)) #[.string name, .int .i64 ((room : Nat) : Int), .string ⟨#[]⟩] rfl)
  clear hr hp hs1 hg1 Ha H1 u0 x0 hR0
  go_wp2_with fail
  refine Calls.mono (sxtext g s2 _ H2.out.at_) ?_
  intro e w3 hp
  rcases hr : textP s2 with ⟨zone, s3⟩ | x
  rotate_left
  · obtain ⟨rfl, hg⟩ := hp.bad hr
    have E2 := Lib.hid hr
    have hres := Lib.hid (show nodeP v s = .bad x by rw [HP.out]; rw [E0.out]; rw [RR.bind_ok]; rw [E1.out]; rw [RR.bind_ok]; rw [E2.out]; rw [RR.bind_bad])
    have hg := Lib.hid (grow_trans H2.out.keep hg)
    clear hr hp
    unfold thrown
    go_wp2
    exact ⟨rfl, SxPost.mkBad hres.out hg.out⟩
  obtain ⟨rfl, hs1, hg1⟩ := hp.ok hr
  have E2 := Lib.hid hr
  have Ha := H2.out.next hs1 hg1
  have u2 : w3.frozen? ⟨w.heap.size, 2, none⟩ = false := Ha.blk.thaw 2
  have x2 : w3.cell? ⟨w.heap.size, 2, none⟩ = some (.string ⟨#[]⟩) := Ha.blk.cell 2
  have hR2 : w.heap.size < w3.heap.size := Ha.blk.lt
  have H3 := Lib.hid (Ha.put 2 (.string zone) #[.string name, .int .i64 ((room : Nat) : Int), .string zone] rfl)
  have y0 : w3.cell? ⟨w.heap.size, 0, none⟩ = some (.string name) := Ha.blk.cell 0
  have z0 : w3.frozen? ⟨w.heap.size, 0, none⟩ = false := Ha.blk.thaw 0
  have y1 : w3.cell? ⟨w.heap.size, 1, none⟩ = some (.int .i64 ((room : Nat) : Int)) := Ha.blk.cell 1
  have z1 : w3.frozen? ⟨w.heap.size, 1, none⟩ = false := Ha.blk.thaw 1
  clear hr hp hs1 hg1 Ha H2 u1 x1 hR1
  have Q := (((H3.out.put 0 (.string name) #[.string name, .int .i64 ((room : Nat) : Int), .string zone] rfl).put 1 (.int .i64 ((room : Nat) : Int)) #[.string name, .int .i64 ((room : Nat) : Int), .string zone] rfl).put 2 (.string zone) #[.string name, .int .i64 ((room : Nat) : Int), .string zone] rfl)
  have q0 := (show _ = (some (.string name) : Option Value) from Q.blk.cell 0)
  have q1 := (show _ = (some (.int .i64 ((room : Nat) : Int)) : Option Value) from Q.blk.cell 1)
  have q2 := (show _ = (some (.string zone) : Option Value) from Q.blk.cell 2)
  have Hok := Lib.hid Q.at_
  have Hkp := Lib.hid Q.keep
  have hres := Lib.hid (show nodeP v s = .ok ⟨name, ((room : Nat) : Int), zone⟩ s3 by rw [HP.out]; rw [E0.out]; rw [RR.bind_ok]; rw [E1.out]; rw [RR.bind_ok]; rw [E2.out]; rw [RR.bind_ok]; try rfl)
  clear Q
  go_wp2
  refine bodyPost_ret (v := .agg #[.string name, .int .i64 ((room : Nat) : Int), .string zone]) (by simp [results, Tryz.results224, go_sem, *]) rfl ?_
  exact SxPost.mkOk hres.out Hok.out Hkp.out
set_option maxRecDepth 100000 in
set_option maxHeartbeats 2000000 in
theorem sxlease (g : Nat) (s : ByteArray) (w : World) (h : SxAt w g s) :
    Calls Tryz.prog 225 #[.pointer (some ⟨g, 0, none⟩)] w (SxPost g (leaseP s) (fun x : LeaseD => .agg (leaseV x).toArray) w) := by
  have H0 := Lib.hid (SGo.start h 45 #[.string ⟨#[]⟩, .string ⟨#[]⟩, .int .i64 0])
  have hgl := h.1.lt
  have HP := Lib.hid (fun s : ByteArray => (show leaseP s = (textP s).bind fun (job : ByteArray) s => (textP s).bind fun (node : ByteArray) s => (numP s).bind fun (till : Nat) s => RR.ok ⟨job, node, till⟩ s by unfold leaseP; try rfl))
  clear h
  go_enter Tryz.func225, Tryz.ntmps225
  go_wp2_with fail
  refine Calls.mono (sxtext g s _ H0.out.at_) ?_
  intro e w1 hp
  rcases hr : textP s with ⟨job, s1⟩ | x
  rotate_left
  · obtain ⟨rfl, hg⟩ := hp.bad hr
    have E0 := Lib.hid hr
    have hres := Lib.hid (show leaseP s = .bad x by rw [HP.out]; rw [E0.out]; rw [RR.bind_bad])
    have hg := Lib.hid (grow_trans H0.out.keep hg)
    clear hr hp
    unfold thrown
    go_wp2
    exact ⟨rfl, SxPost.mkBad hres.out hg.out⟩
  obtain ⟨rfl, hs1, hg1⟩ := hp.ok hr
  have E0 := Lib.hid hr
  have Ha := H0.out.next hs1 hg1
  have u0 : w1.frozen? ⟨w.heap.size, 0, none⟩ = false := Ha.blk.thaw 0
  have x0 : w1.cell? ⟨w.heap.size, 0, none⟩ = some (.string ⟨#[]⟩) := Ha.blk.cell 0
  have hR0 : w.heap.size < w1.heap.size := Ha.blk.lt
  have H1 := Lib.hid (Ha.put 0 (.string job) #[.string job, .string ⟨#[]⟩, .int .i64 0] rfl)
  clear hr hp hs1 hg1 Ha H0
  go_wp2_with fail
  refine Calls.mono (sxtext g s1 _ H1.out.at_) ?_
  intro e w2 hp
  rcases hr : textP s1 with ⟨node, s2⟩ | x
  rotate_left
  · obtain ⟨rfl, hg⟩ := hp.bad hr
    have E1 := Lib.hid hr
    have hres := Lib.hid (show leaseP s = .bad x by rw [HP.out]; rw [E0.out]; rw [RR.bind_ok]; rw [E1.out]; rw [RR.bind_bad])
    have hg := Lib.hid (grow_trans H1.out.keep hg)
    clear hr hp
    unfold thrown
    go_wp2
    exact ⟨rfl, SxPost.mkBad hres.out hg.out⟩
  obtain ⟨rfl, hs1, hg1⟩ := hp.ok hr
  have E1 := Lib.hid hr
  have Ha := H1.out.next hs1 hg1
  have u1 : w2.frozen? ⟨w.heap.size, 1, none⟩ = false := Ha.blk.thaw 1
  have x1 : w2.cell? ⟨w.heap.size, 1, none⟩ = some (.string ⟨#[]⟩) := Ha.blk.cell 1
  have hR1 : w.heap.size < w2.heap.size := Ha.blk.lt
  have H2 := Lib.hid (Ha.put 1 (.string node) #[.string job, .string node, .int .i64 0] rfl)
  clear hr hp hs1 hg1 Ha H1 u0 x0 hR0
  go_wp2_with fail
  refine Calls.mono (sxnum g s2 _ H2.out.at_) ?_
  intro e w3 hp
  rcases hr : numP s2 with ⟨till, s3⟩ | x
  rotate_left
  · obtain ⟨rfl, hg⟩ := hp.bad hr
    have E2 := Lib.hid hr
    have hres := Lib.hid (show leaseP s = .bad x by rw [HP.out]; rw [E0.out]; rw [RR.bind_ok]; rw [E1.out]; rw [RR.bind_ok]; rw [E2.out]; rw [RR.bind_bad])
    have hg := Lib.hid (grow_trans H2.out.keep hg)
    clear hr hp
    unfold thrown
    go_wp2
    exact ⟨rfl, SxPost.mkBad hres.out hg.out⟩
  obtain ⟨rfl, hs1, hg1⟩ := hp.ok hr
  have E2 := Lib.hid hr
  have hle2 := numP_le hr
  have Ha := H2.out.next hs1 hg1
  have u2 : w3.frozen? ⟨w.heap.size, 2, none⟩ = false := Ha.blk.thaw 2
  have x2 : w3.cell? ⟨w.heap.size, 2, none⟩ = some (.int .i64 0) := Ha.blk.cell 2
  have hR2 : w.heap.size < w3.heap.size := Ha.blk.lt
  have H3 := Lib.hid (Ha.put 2 (.int .i64 ((till : Nat) : Int)) #[.string job, .string node, .int .i64 ((till : Nat) : Int)] rfl)
  have y0 : w3.cell? ⟨w.heap.size, 0, none⟩ = some (.string job) := Ha.blk.cell 0
  have z0 : w3.frozen? ⟨w.heap.size, 0, none⟩ = false := Ha.blk.thaw 0
  have y1 : w3.cell? ⟨w.heap.size, 1, none⟩ = some (.string node) := Ha.blk.cell 1
  have z1 : w3.frozen? ⟨w.heap.size, 1, none⟩ = false := Ha.blk.thaw 1
  clear hr hp hs1 hg1 Ha H2 u1 x1 hR1
  have Q := (((H3.out.put 0 (.string job) #[.string job, .string node, .int .i64 ((till : Nat) : Int)] rfl).put 1 (.string node) #[.string job, .string node, .int .i64 ((till : Nat) : Int)] rfl).put 2 (.int .i64 ((till : Nat) : Int)) #[.string job, .string node, .int .i64 ((till : Nat) : Int)] rfl)
  have q0 := (show _ = (some (.string job) : Option Value) from Q.blk.cell 0)
  have q1 := (show _ = (some (.string node) : Option Value) from Q.blk.cell 1)
  have q2 := (show _ = (some (.int .i64 ((till : Nat) : Int)) : Option Value) from Q.blk.cell 2)
  have Hok := Lib.hid Q.at_
  have Hkp := Lib.hid Q.keep
  have hres := Lib.hid (show leaseP s = .ok ⟨job, node, ((till : Nat) : Int)⟩ s3 by rw [HP.out]; rw [E0.out]; rw [RR.bind_ok]; rw [E1.out]; rw [RR.bind_ok]; rw [E2.out]; rw [RR.bind_ok]; try rfl)
  clear Q
  go_wp2
  refine bodyPost_ret (v := .agg #[.string job, .string node, .int .i64 ((till : Nat) : Int)]) (by simp [results, Tryz.results225, go_sem, *]) rfl ?_
  exact SxPost.mkOk hres.out Hok.out Hkp.out
theorem sxjob (g : Nat) (s : ByteArray) (v : Int) (w : World) (h : SxAt w g s) :
    Calls Tryz.prog 223 #[.pointer (some ⟨g, 0, none⟩), .int .i64 v] w (SxPost g (jobP v s) (fun x : JobD => .agg (jobV x).toArray) w) := by
  by_cases h1 : 1 < v
  · by_cases h2 : 2 < v
    · exact sxjob_2 g s v w h1 h2 h
    · exact sxjob_1 g s v w h1 h2 h
  · exact sxjob_0 g s v w h1 (by omega) h
theorem sxnode (g : Nat) (s : ByteArray) (v : Int) (w : World) (h : SxAt w g s) :
    Calls Tryz.prog 224 #[.pointer (some ⟨g, 0, none⟩), .int .i64 v] w (SxPost g (nodeP v s) (fun x : NodeD => .agg (nodeV x).toArray) w) := by
  by_cases h1 : 1 < v
  · exact sxnode_1 g s v w h1 h
  · exact sxnode_0 g s v w h1 h
end Go.Proofs.YtbbagnfmoecdfaaGreatDoor
