/- The walks of Sum, in the program and in the reference. -/
import Derived.Test.YtbbagnfmoecdfaaDoorReads
import Derived.Test.YtbbagnfmoecdfaaDoorPlSum
set_option linter.unusedVariables false
set_option linter.unusedSimpArgs false
namespace Go.Proofs.YtbbagnfmoecdfaaDoor
open Go.RowKit
def tab0 : Array Value := Array.replicate 256 (.int .u32 0)
theorem zeroTab (w : World) : (zeroValue 170).run Tryd.prog w = .ok (.agg tab0) w := by kernel_rfl
/-- The first k places of the table are filled. -/
def TabTo (cs : Array Value) (k : Nat) : Prop := cs.size = 256 ∧ (∀ j, j < k → cs[j]? = some (.int .u32 ((crcN 8 j : Nat) : Int))) ∧ cs.all (·.oneCell') = true
theorem TabTo.zero : TabTo tab0 0 := ⟨by simp [tab0], fun j h => absurd h (by omega), by decide +kernel⟩
theorem TabTo.step {cs : Array Value} {k : Nat} (h : TabTo cs k) (hk : k < 256) : TabTo (cs.setIfInBounds k (.int .u32 ((crcN 8 k : Nat) : Int))) (k + 1) := by
  refine ⟨by simpa using h.1, fun j hj => ?_, ?_⟩
  · rw [Array.getElem?_setIfInBounds]
    have := h.1
    by_cases e : k = j
    · subst e; rw [if_pos rfl, if_pos (by omega)]
    · rw [if_neg e]; exact h.2.1 j (by omega)
  · have := h.2.2
    rw [Array.all_eq_true_iff_forall_mem] at this ⊢
    intro x hx
    rcases Array.mem_or_eq_of_mem_setIfInBounds hx with h' | h'
    · exact this x h'
    · subst h'; rfl
def MadeInv (w : World) (i : Value) (wr : World) : Prop := ∃ (k : Nat) (cs : Array Value), k ≤ 256 ∧ i = .int .i64 k ∧ TabTo cs k ∧ wr = w.alloc (.cells cs 170)
theorem below_setRow (w : World) (g : Nat) (cs : Array Value) : Below g w (w.setRow g cs) := by
  refine ⟨rfl, rfl, rfl, by simp [World.setRow], fun k hk => ?_⟩
  simp only [World.setRow, Array.getElem?_modify]
  rw [if_neg (by omega)]
set_option maxRecDepth 100000 in
set_option maxHeartbeats 1000000 in
theorem made_any (w : World) : Calls Tryd.prog 134 #[] w fun e w' => ∃ cs, TabTo cs 256 ∧ e = .returned (.agg cs) ∧ Below w.heap.size w w' := by
  have hz := zeroTab
  go_enter Tryd.func134, Tryd.ntmps134
  go_wp2
  go_loopw [1, 2, 3, 4, 9] (fun _ _ _ i _ wr => MadeInv w i wr) (fun _ _ _ i _ _ => 256 - (intOf i).toNat)
  case atStart => exact ⟨0, tab0, by omega, rfl, TabTo.zero, rfl⟩
  case round =>
    obtain ⟨k, cs, hk, rfl, ht, rfl⟩ := hrel
    have Ht := Lib.hid ht
    clear ht
    by_cases hlt : k < 256
    · go_wp2
      go_loop [2, 3, 9] (fun x _ i => ∃ (m : Nat), m ≤ 8 ∧ i = .int .i64 m ∧ x = .int .u32 ((crcN m k : Nat) : Int)) (fun _ _ i => 8 - (intOf i).toNat)
      case atStart => exact ⟨0, by omega, rfl, rfl⟩
      case round =>
        obtain ⟨m, hm, rfl, rfl⟩ := hrel
        have hlt2 := crcN_lt (x := k) (by omega) m
        have hst := crc_prog_step (crcN m k) hlt2
        have hb1 := hst.2.1
        have hb2 := hst.2.2
        have Hst := Lib.hid hst.1
        clear hst
        by_cases hm8 : m < 8
        · go_wp2
          go_round
          case rel => exact ⟨m + 1, by omega, by go_num, by rw [Hst.out]; rfl⟩
          case measure => simp [intOf]; omega
        · obtain rfl : m = 8 := by omega
          obtain ⟨cv, hcv⟩ : ∃ v, cs[k]? = some v := ⟨_, Array.getElem?_eq_getElem (by rw [Ht.out.1]; exact hlt)⟩
          go_wp2
          go_roundw
          case rel => exact ⟨k + 1, _, by omega, by go_num, Ht.out.step hlt, rfl⟩
          case measure => simp [intOf]; omega
    · obtain rfl : k = 256 := by omega
      have hg := heap_alloc_new w (.cells cs 170)
      have hi : (Tryd.prog.info? 170).map (·.size) = some cs.size := by rw [Ht.out.1]; kernel_rfl
      have HG := Lib.hid hg
      have HI := Lib.hid hi
      clear hg hi
      go_wp2_with (first | (refine wpList_load_row rfl _ _ rfl w.heap.size rfl 170 cs (0, 0) _ HG.out Tryd.underlying170 rfl HI.out ?_) | (refine wpList_store_row rfl _ _ _ rfl w.heap.size cs rfl rfl 170 cs HG.out HI.out rfl Ht.out.2.2 ?_))
      have e1 : ((w.alloc (.cells cs 170)).setRow w.heap.size cs).heap[w.heap.size]? = some (.cells cs 170 (0, 0)) := setRow_heap _ _ _ _ _ _ HG.out
      refine bodyPost_ret (results_cell_row rfl _ _ w.heap.size _ cs (0, 0) _ rfl e1 Tryd.underlying170 rfl HI.out) rfl ⟨cs, Ht.out, rfl, ?_⟩
      exact (Below.refl _ _).alloc (Nat.le_refl _) _ |>.trans (below_setRow _ _ _)
theorem setRow_new (w : World) (c c' : Array Value) (t : TypeId) : (w.alloc (.cells c t)).setRow w.heap.size c' = w.alloc (.cells c' t) := by
  have hm : ∀ (a : Array Obj) (x : Obj) (f : Obj → Obj), (a.push x).modify a.size f = a.push (f x) := by
    intro a x f
    apply Array.ext
    · simp
    · intro i h1 h2
      simp only [Array.getElem_modify, Array.getElem_push]
      by_cases h : a.size = i
      · subst h
        simp
      · have hi : i < a.size := by simp at h1; omega
        simp [h, hi]
  unfold World.setRow
  show ({ w.alloc (.cells c t) with heap := (w.heap.push (.cells c t)).modify w.heap.size _ } : World) = _
  rw [hm]
  rfl
def SumInv (s : ByteArray) (x i : Value) : Prop := ∃ (k n : Nat), k ≤ s.size ∧ i = .int .i64 k ∧ x = .int .u32 n ∧ n = crcL (s.data.toList.take k)
set_option maxRecDepth 100000 in
set_option maxHeartbeats 1000000 in
theorem sum_any (s : ByteArray) (w : World) (hs : s.size ≤ 9223372036854775807) : Calls Tryd.prog 118 #[.string s] w fun e w' => e = .returned (.int .u32 ((crcSum s.data.toList : Nat) : Int)) ∧ Below w.heap.size w w' := by
  have hz := zeroTab
  go_enter Tryd.func118, Tryd.ntmps118
  go_wp2_with fail
  refine Calls.mono (made_any w) ?_
  rintro e w1 ⟨cs, ht, rfl, hb⟩
  have Ht := Lib.hid ht
  have hg := heap_alloc_new w1 (.cells tab0 170)
  have hi : (Tryd.prog.info? 170).map (·.size) = some cs.size := by rw [Ht.out.1]; kernel_rfl
  have HG := Lib.hid hg
  have HI := Lib.hid hi
  have hb2 : Below w.heap.size w (w1.alloc (.cells cs 170)) := hb.alloc hb.size _
  have Hb := Lib.hid hb2
  clear hg hi ht hb2 hb
  go_wp2_with (refine wpList_store_row rfl _ _ _ rfl w1.heap.size cs rfl rfl 170 tab0 HG.out HI.out (by rw [Ht.out.1]; simp [tab0]) Ht.out.2.2 ?_; rw [setRow_new])
  go_loop [4, 5, 9] (fun x _ i => SumInv s x i) (fun _ _ i => s.size - (intOf i).toNat)
  case atStart => exact ⟨0, _, by omega, rfl, rfl, rfl⟩
  case round =>
    obtain ⟨k, x, hk, rfl, rfl, hx⟩ := hrel
    have hlt : x < 4294967296 := by rw [hx]; exact crcL_lt _
    have Hx := Lib.hid hx
    clear hx
    by_cases hsz : k < s.size
    · obtain ⟨c, hc⟩ : ∃ c : Nat, s[k].toNat = c := ⟨_, rfl⟩
      have hc2 : c < 256 := by rw [← hc]; exact s[k].toNat_lt
      have Hi := idx_str hsz hc
      have hix := crc_idx x c hc2
      have Hfin := Lib.hid (show x / 256 ^^^ crcN 8 (x % 256 ^^^ c) = crcL (s.data.toList.take (k + 1)) from by rw [toList_take_succ hsz, crcL_snoc, ← Hx.out, hc]; rfl)
      clear hc
      generalize hy : (x % 256) ^^^ c = y at hix Hfin
      clear hy
      have hcs := Ht.out.2.1 y hix.2
      have hy2 := hix.2
      have hix1 := hix.1
      have hst := crc_tab_step x y hlt hy2
      clear hix
      go_wp2
      go_round
      case rel => exact ⟨k + 1, _, by omega, by go_num, rfl, Hfin.out⟩
      case measure => simp [intOf]; omega
    · have hn := Lib.hid (crc_not x hlt)
      have hfin := Lib.hid (show 4294967295 - x = crcSum s.data.toList from by
        unfold crcSum; rw [Hx.out, List.take_of_length_le (by simp; omega)])
      go_wp2
      go_ret
      exact ⟨ret_int (by rw [hn.out, hfin.out]), Hb.out⟩
set_option maxRecDepth 100000 in
set_option maxHeartbeats 1000000 in
theorem rsum_any (s : ByteArray) (w : World) (hs : s.size ≤ 9223372036854775807) : Calls Tryd.prog 119 #[.string s] w fun e w' => e = .returned (.int .u32 ((crcSum s.data.toList : Nat) : Int)) ∧ w = w' := by
  go_enter Tryd.func119, Tryd.ntmps119
  go_wp2
  go_loop [3, 4, 5, 8, 17] (fun x _ _ i _ => SumInv s x i) (fun _ _ _ i _ => s.size - (intOf i).toNat)
  case atStart => exact ⟨0, _, by omega, rfl, rfl, rfl⟩
  case round =>
    obtain ⟨k, x, hk, rfl, rfl, hx⟩ := hrel
    have hlt : x < 4294967296 := by rw [hx]; exact crcL_lt _
    have Hx := Lib.hid hx
    clear hx
    by_cases hsz : k < s.size
    · obtain ⟨c, hc⟩ : ∃ c : Nat, s[k].toNat = c := ⟨_, rfl⟩
      have hc2 : c < 256 := by rw [← hc]; exact s[k].toNat_lt
      have Hi := idx_str hsz hc
      have hxc := u32_xor_nat x c hlt (by omega)
      have Hfin := Lib.hid (show crcN 8 (x ^^^ c) = crcL (s.data.toList.take (k + 1)) from by rw [toList_take_succ hsz, crcL_snoc, ← Hx.out, hc, crcB_eq hc2])
      have hy0 : x ^^^ c < 4294967296 := Nat.xor_lt_two_pow (n := 32) hlt (by omega)
      clear hc
      generalize hy : x ^^^ c = y at hxc Hfin hy0
      clear hy
      go_wp2
      go_loop [3, 5, 17] (fun x _ i => ∃ (m : Nat), m ≤ 8 ∧ i = .int .i64 m ∧ x = .int .u32 ((crcN m y : Nat) : Int)) (fun _ _ i => 8 - (intOf i).toNat)
      case atStart => exact ⟨0, by omega, rfl, rfl⟩
      case round =>
        obtain ⟨m, hm, rfl, rfl⟩ := hrel
        have hlt2 := crcN_lt hy0 m
        by_cases hm8 : m < 8
        · have hs1 : crcN (m + 1) y = crcS (crcN m y) := rfl
          have Hs1 := Lib.hid hs1
          clear hs1
          generalize crcN m y = n at hlt2 Hs1
          by_cases par : n % 2 = 0
          · have Hev := Lib.hid (crcS_even par)
            have e1 : ((n : Int) % 2 == 1) = false := by rw [beq_eq_false_iff_ne]; omega
            clear par
            go_wp2
            go_round
            case rel => exact ⟨m + 1, by omega, by go_num, by rw [Hev.out, Hs1.out]⟩
            case measure => simp [intOf]; omega
          · have Hod := Lib.hid (crcS_odd (n := n) hlt2 (by omega))
            have e1 : ((n : Int) % 2 == 1) = true := by rw [beq_iff_eq]; omega
            clear par
            go_wp2
            go_round
            case rel => exact ⟨m + 1, by omega, by go_num, by rw [Hod.out, Hs1.out]⟩
            case measure => simp [intOf]; omega
        · obtain rfl : m = 8 := by omega
          go_wp2
          go_round
          case rel => exact ⟨k + 1, _, by omega, by go_num, rfl, Hfin.out⟩
          case measure => simp [intOf]; omega
    · have hfin := Lib.hid (show 4294967295 - (x : Int) = ((crcSum s.data.toList : Nat) : Int) from by
        unfold crcSum; rw [Hx.out, List.take_of_length_le (by simp; omega)]; have := crcL_lt s.data.toList; omega)
      go_wp2
      go_ret
      exact ⟨ret_int hfin.out, rfl⟩
end Go.Proofs.YtbbagnfmoecdfaaDoor
