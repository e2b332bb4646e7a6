/- Of the proof of a statement: Sum, Chk. -/
import Derived.Test.YtjgnnobccecpeaaGreatDoorRPk
import Derived.Test.YtjgnnobccecpeaaGreatDoorRSortK
set_option linter.unusedVariables false
set_option linter.unusedSimpArgs false
set_option maxRecDepth 100000
set_option maxHeartbeats 8000000
/- The walks of Sum, in the program and in the reference. -/
namespace Go.Proofs.YtjgnnobccecpeaaGreatDoor
open Go.Lib (hid)
open Go.RowKit
def tab0 : Array Value := Array.replicate 256 (.int .u32 0)
theorem zeroTab (w : World) : (zeroValue 380).run Tryz.prog w = .ok (.agg tab0) w := by kernel_rfl
def TabTo (cs : Array Value) (k : Nat) : Prop := cs.size = 256 ∧ (∀ j, j < k → cs[j]? = some (.int .u32 ((crcN 8 j : Nat) : Int))) ∧ cs.all (·.oneCell') = true
theorem TabTo.zero : TabTo tab0 0 := ⟨by simp [tab0], fun j h => absurd h (by omega), by decide +kernel⟩
theorem TabTo.step {cs : Array Value} {k : Nat} (h : TabTo cs k) (hk : k < 256) : TabTo (cs.setIfInBounds k (.int .u32 ((crcN 8 k : Nat) : Int))) (k + 1) := by
 refine ⟨by simpa using h.1, fun j hj => ?_, ?_⟩
 · rw [Array.getElem?_setIfInBounds]
   have := h.1
   by_cases e : k = j
   · subst e; rw [if_pos rfl, if_pos (by omega)]
   · rw [if_neg e]; exact h.2.1 j (by omega)
 · have := h.2.2
   rw [Array.all_eq_true_iff_forall_mem] at this ⊢
   intro x hx
   rcases Array.mem_or_eq_of_mem_setIfInBounds hx with h' | h'
   · exact this x h'
   · subst h'; rfl
def MadeInv (w : World) (i : Value) (wr : World) : Prop := ∃ (k : Nat) (cs : Array Value), k ≤ 256 ∧ i = .int .i64 k ∧ TabTo cs k ∧ wr = w.alloc (.cells cs 380)
theorem below_setRow (w : World) (g : Nat) (cs : Array Value) : Below g w (w.setRow g cs) := by
 refine ⟨rfl, rfl, rfl, by simp [World.setRow], fun k hk => ?_⟩
 simp only [World.setRow, Array.getElem?_modify]
 rw [if_neg (by omega)]
theorem made_any (w : World) : Calls Tryz.prog 333 #[] w fun e w' => ∃ cs, TabTo cs 256 ∧ e = .returned (.agg cs) ∧ Below w.heap.size w w' := by
 have hz := zeroTab
 go_enter Tryz.func333, Tryz.ntmps333
 go_wp2
 go_loopw [1, 2, 3, 4, 9] (fun _ _ _ i _ wr => MadeInv w i wr) (fun _ _ _ i _ _ => 256 - (intOf i).toNat)
 case atStart => exact ⟨0, tab0, by omega, rfl, TabTo.zero, rfl⟩
 case round =>
  obtain ⟨k, cs, hk, rfl, ht, rfl⟩ := hrel
  have Ht := hid ht
  clear ht
  by_cases hlt : k < 256
  · go_wp2
    go_loop [2, 3, 9] (fun x _ i => ∃ (m : Nat), m ≤ 8 ∧ i = .int .i64 m ∧ x = .int .u32 ((crcN m k : Nat) : Int)) (fun _ _ i => 8 - (intOf i).toNat)
    case atStart => exact ⟨0, by omega, rfl, rfl⟩
    case round =>
     obtain ⟨m, hm, rfl, rfl⟩ := hrel
     have hlt2 := crcN_lt (x := k) (by omega) m
     have hst := crc_prog_step (crcN m k) hlt2
     have hb1 := hst.2.1
     have hb2 := hst.2.2
     have Hst := hid hst.1
     clear hst
     by_cases hm8 : m < 8
     · go_wp2
       go_round
       case rel => exact ⟨m + 1, by omega, by go_num, by rw [Hst.out]; rfl⟩
       case measure => simp [intOf]; omega
     · obtain rfl : m = 8 := by omega
       obtain ⟨cv, hcv⟩ : ∃ v, cs[k]? = some v := ⟨_, Array.getElem?_eq_getElem (by rw [Ht.out.1]; exact hlt)⟩
       go_wp2
       go_roundw
       case rel => exact ⟨k + 1, _, by omega, by go_num, Ht.out.step hlt, rfl⟩
       case measure => simp [intOf]; omega
  · obtain rfl : k = 256 := by omega
    have hg := heap_alloc_new w (.cells cs 380)
    have hi : (Tryz.prog.info? 380).map (·.size) = some cs.size := by rw [Ht.out.1]; kernel_rfl
    have HG := hid hg
    have HI := hid hi
    clear hg hi
    go_wp2_with (first | (refine wpList_load_row rfl _ _ rfl w.heap.size rfl 380 cs (0, 0) _ HG.out Tryz.underlying380 rfl HI.out ?_) | (refine wpList_store_row rfl _ _ _ rfl w.heap.size cs rfl rfl 380 cs HG.out HI.out rfl Ht.out.2.2 ?_))
    have e1 : ((w.alloc (.cells cs 380)).setRow w.heap.size cs).heap[w.heap.size]? = some (.cells cs 380 (0, 0)) := setRow_heap _ _ _ _ _ _ HG.out
    refine bodyPost_ret (results_cell_row rfl _ _ w.heap.size _ cs (0, 0) _ rfl e1 Tryz.underlying380 rfl HI.out) rfl ⟨cs, Ht.out, rfl, ?_⟩
    exact (Below.refl _ _).alloc (Nat.le_refl _) _ |>.trans (below_setRow _ _ _)
theorem setRow_new (w : World) (c c' : Array Value) (t : TypeId) : (w.alloc (.cells c t)).setRow w.heap.size c' = w.alloc (.cells c' t) := by
 have hm : ∀ (a : Array Obj) (x : Obj) (f : Obj → Obj), (a.push x).modify a.size f = a.push (f x) := by
  intro a x f
  apply Array.ext
  · simp
  · intro i h1 h2
    simp only [Array.getElem_modify, Array.getElem_push]
    by_cases h : a.size = i
    · subst h
      simp
    · have hi : i < a.size := by simp at h1; omega
      simp [h, hi]
 unfold World.setRow
 show ({ w.alloc (.cells c t) with heap := (w.heap.push (.cells c t)).modify w.heap.size _ } : World) = _
 rw [hm]
 rfl
def SumInv (s : ByteArray) (x i : Value) : Prop := ∃ (k n : Nat), k ≤ s.size ∧ i = .int .i64 k ∧ x = .int .u32 n ∧ n = crcL (s.data.toList.take k)
theorem sum_any (s : ByteArray) (w : World) (hs : s.size ≤ 9223372036854775807) : Calls Tryz.prog 285 #[.string s] w fun e w' => e = .returned (.int .u32 ((crcSum s.data.toList : Nat) : Int)) ∧ Below w.heap.size w w' := by
 have hz := zeroTab
 go_enter Tryz.func285, Tryz.ntmps285
 go_wp2_with fail
 refine Calls.mono (made_any w) ?_
 rintro e w1 ⟨cs, ht, rfl, hb⟩
 have Ht := hid ht
 have hg := heap_alloc_new w1 (.cells tab0 380)
 have hi : (Tryz.prog.info? 380).map (·.size) = some cs.size := by rw [Ht.out.1]; kernel_rfl
 have HG := hid hg
 have HI := hid hi
 have hb2 : Below w.heap.size w (w1.alloc (.cells cs 380)) := hb.alloc hb.size _
 have Hb := hid hb2
 clear hg hi ht hb2 hb
 go_wp2_with (refine wpList_store_row rfl _ _ _ rfl w1.heap.size cs rfl rfl 380 tab0 HG.out HI.out (by rw [Ht.out.1]; simp [tab0]) Ht.out.2.2 ?_; rw [setRow_new])
 go_loop [4, 5, 9] (fun x _ i => SumInv s x i) (fun _ _ i => s.size - (intOf i).toNat)
 case atStart => exact ⟨0, _, by omega, rfl, rfl, rfl⟩
 case round =>
  obtain ⟨k, x, hk, rfl, rfl, hx⟩ := hrel
  have hlt : x < 4294967296 := by rw [hx]; exact crcL_lt _
  have Hx := hid hx
  clear hx
  by_cases hsz : k < s.size
  · obtain ⟨c, hc⟩ : ∃ c : Nat, s[k].toNat = c := ⟨_, rfl⟩
    have hc2 : c < 256 := by rw [← hc]; exact s[k].toNat_lt
    have Hi := idx_str hsz hc
    have hix := crc_idx x c hc2
    have Hfin := hid (show x / 256 ^^^ crcN 8 (x % 256 ^^^ c) = crcL (s.data.toList.take (k + 1)) from by rw [toList_take_succ hsz, crcL_snoc, ← Hx.out, hc]; rfl)
    clear hc
    generalize hy : (x % 256) ^^^ c = y at hix Hfin
    clear hy
    have hcs := Ht.out.2.1 y hix.2
    have hy2 := hix.2
    have hix1 := hix.1
    have hst := crc_tab_step x y hlt hy2
    clear hix
    go_wp2
    go_round
    case rel => exact ⟨k + 1, _, by omega, by go_num, rfl, Hfin.out⟩
    case measure => simp [intOf]; omega
  · have hn := hid (crc_not x hlt)
    have hfin := hid (show 4294967295 - x = crcSum s.data.toList from by
     unfold crcSum; rw [Hx.out, List.take_of_length_le (by simp; omega)])
    go_wp2
    go_ret
    exact ⟨ret_int (by rw [hn.out, hfin.out]), Hb.out⟩
theorem rsum_any (s : ByteArray) (w : World) (hs : s.size ≤ 9223372036854775807) : Calls Tryz.prog 290 #[.string s] w fun e w' => e = .returned (.int .u32 ((crcSum s.data.toList : Nat) : Int)) ∧ w = w' := by
 go_enter Tryz.func290, Tryz.ntmps290
 go_wp2
 go_loop [3, 4, 5, 8, 17] (fun x _ _ i _ => SumInv s x i) (fun _ _ _ i _ => s.size - (intOf i).toNat)
 case atStart => exact ⟨0, _, by omega, rfl, rfl, rfl⟩
 case round =>
  obtain ⟨k, x, hk, rfl, rfl, hx⟩ := hrel
  have hlt : x < 4294967296 := by rw [hx]; exact crcL_lt _
  have Hx := hid hx
  clear hx
  by_cases hsz : k < s.size
  · obtain ⟨c, hc⟩ : ∃ c : Nat, s[k].toNat = c := ⟨_, rfl⟩
    have hc2 : c < 256 := by rw [← hc]; exact s[k].toNat_lt
    have Hi := idx_str hsz hc
    have hxc := u32_xor_nat x c hlt (by omega)
    have Hfin := hid (show crcN 8 (x ^^^ c) = crcL (s.data.toList.take (k + 1)) from by rw [toList_take_succ hsz, crcL_snoc, ← Hx.out, hc, crcB_eq hc2])
    have hy0 : x ^^^ c < 4294967296 := Nat.xor_lt_two_pow (n := 32) hlt (by omega)
    clear hc
    generalize hy : x ^^^ c = y at hxc Hfin hy0
    clear hy
    go_wp2
    go_loop [3, 5, 17] (fun x _ i => ∃ (m : Nat), m ≤ 8 ∧ i = .int .i64 m ∧ x = .int .u32 ((crcN m y : Nat) : Int)) (fun _ _ i => 8 - (intOf i).toNat)
    case atStart => exact ⟨0, by omega, rfl, rfl⟩
    case round =>
     obtain ⟨m, hm, rfl, rfl⟩ := hrel
     have hlt2 := crcN_lt hy0 m
     by_cases hm8 : m < 8
     · have hs1 : crcN (m + 1) y = crcS (crcN m y) := rfl
       have Hs1 := hid hs1
       clear hs1
       generalize crcN m y = n at hlt2 Hs1
       by_cases par : n % 2 = 0
       · have Hev := hid (crcS_even par)
         have e1 : ((n : Int) % 2 == 1) = false := by rw [beq_eq_false_iff_ne]; omega
         clear par
         go_wp2
         go_round
         case rel => exact ⟨m + 1, by omega, by go_num, by rw [Hev.out, Hs1.out]⟩
         case measure => simp [intOf]; omega
       · have Hod := hid (crcS_odd (n := n) hlt2 (by omega))
         have e1 : ((n : Int) % 2 == 1) = true := by rw [beq_iff_eq]; omega
         clear par
         go_wp2
         go_round
         case rel => exact ⟨m + 1, by omega, by go_num, by rw [Hod.out, Hs1.out]⟩
         case measure => simp [intOf]; omega
     · obtain rfl : m = 8 := by omega
       go_wp2
       go_round
       case rel => exact ⟨k + 1, _, by omega, by go_num, rfl, Hfin.out⟩
       case measure => simp [intOf]; omega
  · have hfin := hid (show 4294967295 - (x : Int) = ((crcSum s.data.toList : Nat) : Int) from by
     unfold crcSum; rw [Hx.out, List.take_of_length_le (by simp; omega)]; have := crcL_lt s.data.toList; omega)
    go_wp2
    go_ret
    exact ⟨ret_int hfin.out, rfl⟩
end Go.Proofs.YtjgnnobccecpeaaGreatDoor
/- The walks of the checks of one row, in the program. -/
namespace Go.Proofs.YtjgnnobccecpeaaGreatDoor
open Go.Lib (hid)
open Go.RowKit
open Go.Lib (validD)
theorem isText_any (s : ByteArray) (w : World) (hs : s.size ≤ 9223372036854775807) (hT : Tabs w) : Calls Tryz.prog 150 #[.string s] w fun e w' => e = .returned (.bool (txtOk s)) ∧ Below w.heap.size w w' := by
 by_cases h : s.size ≤ 16
 · rw [txtOk_short h]
   have hV := hid (valid_any s w hs hT)
   generalize validD s.data.toList = b at hV ⊢
   go_enter Tryz.func150, Tryz.ntmps150
   go_wp2_with fail
   refine Calls.mono hV.out ?_
   rintro e w1 ⟨rfl, hb⟩
   go_wp2
   go_ret
   exact ⟨rfl, hb⟩
 · rw [txtOk_long h]
   go_enter Tryz.func150, Tryz.ntmps150
   go_wp2
   go_ret
   exact ⟨rfl, Below.refl _ _⟩
theorem isName_any (s : ByteArray) (w : World) (hs : s.size ≤ 9223372036854775807) (hT : Tabs w) : Calls Tryz.prog 149 #[.string s] w fun e w' => e = .returned (.bool (nameOk s)) ∧ Below w.heap.size w w' := by
 by_cases h : s.size = 0
 · rw [nameOk_empty h]
   obtain rfl := empty_of h
   go_enter Tryz.func149, Tryz.ntmps149
   go_wp2
   go_ret
   exact ⟨rfl, Below.refl _ _⟩
 · rw [nameOk_more h]
   have hV := hid (isText_any s w hs hT)
   have e1 := beq_nil h
   have e2 := beq_empty h
   generalize txtOk s = b at hV ⊢
   go_enter Tryz.func149, Tryz.ntmps149
   go_wp2_with fail
   refine Calls.mono hV.out ?_
   rintro e w1 ⟨rfl, hb⟩
   go_wp2
   go_ret
   exact ⟨rfl, hb⟩
theorem swithin_yes (n lo hi : Int) (h1 : lo ≤ n) (h2 : n ≤ hi) (w : World) : Calls Tryz.prog 151 #[.int .i64 n, .int .i64 lo, .int .i64 hi] w fun e w' => e = .returned (.bool true) ∧ w = w' := by
 have e2 : decide (n ≤ hi) = true := decide_eq_true h2
 go_enter Tryz.func151, Tryz.ntmps151
 go_wp2
 go_ret
 exact ⟨rfl, rfl⟩
theorem swithin_no (n lo hi : Int) (h : n < lo ∨ hi < n) (w : World) : Calls Tryz.prog 151 #[.int .i64 n, .int .i64 lo, .int .i64 hi] w fun e w' => e = .returned (.bool false) ∧ w = w' := by
 by_cases h1 : lo ≤ n
 · have h2 : hi < n := by omega
   have e2 : decide (n ≤ hi) = false := decide_eq_false (by omega)
   clear h
   go_enter Tryz.func151, Tryz.ntmps151
   go_wp2
   go_ret
   exact ⟨rfl, rfl⟩
 · have e1 : decide (lo ≤ n) = false := decide_eq_false h1
   clear h
   go_enter Tryz.func151, Tryz.ntmps151
   go_wp2
   go_ret
   exact ⟨rfl, rfl⟩
theorem swithin_any (n lo hi : Int) (w : World) : Calls Tryz.prog 151 #[.int .i64 n, .int .i64 lo, .int .i64 hi] w fun e w' => e = .returned (.bool (ranged n lo hi)) ∧ w = w' := by
 cases h : ranged n lo hi
 · exact swithin_no n lo hi (ranged_not.1 h) w
 · exact swithin_yes n lo hi (ranged_iff.1 h).1 (ranged_iff.1 h).2 w
theorem checkJob_any (j : JobD) (w : World) (h1 : j.name.size ≤ 9223372036854775807) (h2 : j.tag.size ≤ 9223372036854775807) (hT : Tabs w) :
 Calls Tryz.prog 68 #[.agg (jobV j).toArray] w fun e w' => e = .returned (.int .i64 (jobE j)) ∧ Below w.heap.size w w' := by
 obtain ⟨E, hE⟩ : ∃ E, jobE j = E := ⟨_, rfl⟩
 rw [hE]
 have HE := hid hE
 clear hE
 obtain ⟨name, prio, need, tries, tag⟩ := j
 unfold jobV
 simp only at h1 h2 ⊢
 have hb0 : Below w.heap.size w (w.alloc (.cells #[.string name, .int .i64 prio, .int .i64 need, .int .i64 tries, .string tag] 38)) := (Below.refl _ _).alloc (Nat.le_refl _) _
 have hT0 := hT.below hb0
 have hN := hid (isName_any name _ h1 hT0)
 have HT := hid hT0
 have HB := hid hb0
 clear hT0 hb0 hT
 go_enter Tryz.func68, Tryz.ntmps68
 go_wp2_with fail
 refine Calls.mono hN.out ?_
 rintro e w1 ⟨rfl, hb1⟩
 have y1 : w1.cell? ⟨w.heap.size, 1, none⟩ = some (.int .i64 prio) := by rw [(bcell hb1).1 _ _ (by simp)]; simp [go_sem]
 have y2 : w1.cell? ⟨w.heap.size, 2, none⟩ = some (.int .i64 need) := by rw [(bcell hb1).1 _ _ (by simp)]; simp [go_sem]
 have y3 : w1.cell? ⟨w.heap.size, 3, none⟩ = some (.int .i64 tries) := by rw [(bcell hb1).1 _ _ (by simp)]; simp [go_sem]
 have y4 : w1.cell? ⟨w.heap.size, 4, none⟩ = some (.string tag) := by rw [(bcell hb1).1 _ _ (by simp)]; simp [go_sem]
 have HB1 := hid (HB.out.trans (hb1.mono HB.out.size))
 have HT1 := hid (HT.out.below hb1)
 have hsz : w.heap.size < w1.heap.size := by have := hb1.size; simp at this; omega
 clear hb1 HB HT hN
 cases hn : nameOk name
 · go_wp2
   go_ret
   exact ⟨ret_int (by rw [← HE.out]; simp [jobE, hn]), HB1.out⟩
 go_wp2_with fail
 refine Calls.mono (isText_any tag w1 h2 HT1.out) ?_
 rintro e w2 ⟨rfl, hb2⟩
 replace y1 := ((bcell hb2).1 _ _ hsz).trans y1
 replace y2 := ((bcell hb2).1 _ _ hsz).trans y2
 replace y3 := ((bcell hb2).1 _ _ hsz).trans y3
 have HB2 := hid (HB1.out.trans (hb2.mono HB1.out.size))
 clear y4 hb2 HB1 HT1 hsz
 cases ht : txtOk tag
 · go_wp2
   go_ret
   exact ⟨ret_int (by rw [← HE.out]; simp [jobE, hn, ht]), HB2.out⟩
 go_wp2_with fail
 refine Calls.mono (swithin_any _ _ _ _) ?_
 rintro e w3 ⟨rfl, rfl⟩
 cases hr1 : ranged prio (-1000) 1000
 · go_wp2
   go_ret
   exact ⟨ret_int (by rw [← HE.out]; simp [jobE, hn, ht, hr1]), HB2.out⟩
 go_wp2_with fail
 refine Calls.mono (swithin_any _ _ _ _) ?_
 rintro e w3 ⟨rfl, rfl⟩
 cases hr2 : ranged need 0 1000000
 · go_wp2
   go_ret
   exact ⟨ret_int (by rw [← HE.out]; simp [jobE, hn, ht, hr1, hr2]), HB2.out⟩
 go_wp2_with fail
 refine Calls.mono (swithin_any _ _ _ _) ?_
 rintro e w3 ⟨rfl, rfl⟩
 cases hr3 : ranged tries 0 100
 · go_wp2
   go_ret
   exact ⟨ret_int (by rw [← HE.out]; simp [jobE, hn, ht, hr1, hr2, hr3]), HB2.out⟩
 · go_wp2
   go_ret
   exact ⟨ret_int (by rw [← HE.out]; simp [jobE, hn, ht, hr1, hr2, hr3]), HB2.out⟩
theorem checkNode_any (n : NodeD) (w : World) (h1 : n.name.size ≤ 9223372036854775807) (h2 : n.zone.size ≤ 9223372036854775807) (hT : Tabs w) :
 Calls Tryz.prog 70 #[.agg (nodeV n).toArray] w fun e w' => e = .returned (.int .i64 (nodeE n)) ∧ Below w.heap.size w w' := by
 obtain ⟨E, hE⟩ : ∃ E, nodeE n = E := ⟨_, rfl⟩
 rw [hE]
 have HE := hid hE
 clear hE
 obtain ⟨name, room, zone⟩ := n
 unfold nodeV
 simp only at h1 h2 ⊢
 have hb0 : Below w.heap.size w (w.alloc (.cells #[.string name, .int .i64 room, .string zone] 40)) := (Below.refl _ _).alloc (Nat.le_refl _) _
 have hT0 := hT.below hb0
 have hN := hid (isName_any name _ h1 hT0)
 have HT := hid hT0
 have HB := hid hb0
 clear hT0 hb0 hT
 go_enter Tryz.func70, Tryz.ntmps70
 go_wp2_with fail
 refine Calls.mono hN.out ?_
 rintro e w1 ⟨rfl, hb1⟩
 have y1 : w1.cell? ⟨w.heap.size, 1, none⟩ = some (.int .i64 room) := by rw [(bcell hb1).1 _ _ (by simp)]; simp [go_sem]
 have y2 : w1.cell? ⟨w.heap.size, 2, none⟩ = some (.string zone) := by rw [(bcell hb1).1 _ _ (by simp)]; simp [go_sem]
 have HB1 := hid (HB.out.trans (hb1.mono HB.out.size))
 have HT1 := hid (HT.out.below hb1)
 have hsz : w.heap.size < w1.heap.size := by have := hb1.size; simp at this; omega
 clear hb1 HB HT hN
 cases hn : nameOk name
 · go_wp2
   go_ret
   exact ⟨ret_int (by rw [← HE.out]; simp [nodeE, hn]), HB1.out⟩
 go_wp2_with fail
 refine Calls.mono (isText_any zone w1 h2 HT1.out) ?_
 rintro e w2 ⟨rfl, hb2⟩
 replace y1 := ((bcell hb2).1 _ _ hsz).trans y1
 have HB2 := hid (HB1.out.trans (hb2.mono HB1.out.size))
 clear y2 hb2 HB1 HT1 hsz
 cases ht : txtOk zone
 · go_wp2
   go_ret
   exact ⟨ret_int (by rw [← HE.out]; simp [nodeE, hn, ht]), HB2.out⟩
 go_wp2_with fail
 refine Calls.mono (swithin_any _ _ _ _) ?_
 rintro e w3 ⟨rfl, rfl⟩
 cases hr1 : ranged room 0 1000000
 · go_wp2
   go_ret
   exact ⟨ret_int (by rw [← HE.out]; simp [nodeE, hn, ht, hr1]), HB2.out⟩
 · go_wp2
   go_ret
   exact ⟨ret_int (by rw [← HE.out]; simp [nodeE, hn, ht, hr1]), HB2.out⟩
end Go.Proofs.YtjgnnobccecpeaaGreatDoor
