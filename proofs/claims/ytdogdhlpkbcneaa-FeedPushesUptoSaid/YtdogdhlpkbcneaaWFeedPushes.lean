/- The walk of the law FeedPushes. -/
import Derived.Test.YtdogdhlpkbcneaaFeed
namespace Go.Proofs.Ytdogdhlpkbcneaa
open Go.RowKit
/-- How many bytes the first k pieces have. -/
def sizes (ps : List ByteArray) : Nat := (ps.map ByteArray.size).sum
theorem sizes_take {ps : List ByteArray} {k : Nat} {p : ByteArray} (h : ps[k]? = some p) : sizes (ps.take (k + 1)) = sizes (ps.take k) + p.size := by
  unfold sizes; rw [List.take_add_one, h]; simp
theorem sizes_le (ps : List ByteArray) (k : Nat) : sizes (ps.take k) ≤ sizes ps := by
  unfold sizes
  conv => rhs; rw [← List.take_append_drop k ps]
  rw [List.map_append, List.sum_append]; omega
def LInv (ps : List ByteArray) (n g : Nat) (w : World) (all_ at_ st_ i : Value) (wr : World) : Prop :=
  ∃ (k : Nat) (all rest : ByteArray) (a st : Nat), k ≤ n ∧ i = .int .i64 (k : Int) ∧ all_ = .string all ∧ at_ = .int .i64 (a : Int) ∧ st_ = .int .i64 (st : Int) ∧ FeedAt wr g rest (a : Int) (st : Int) ∧ all.size ≤ sizes (ps.take k) ∧ a ≤ all.size ∧ (st = 0 → rest = all.extract a all.size) ∧ (st ≠ 0 → rest = ⟨#[]⟩) ∧ Below w.heap.size w wr
theorem rest_append {all p : ByteArray} {a : Nat} (h : a ≤ all.size) : (all ++ p).extract a (all ++ p).size = all.extract a all.size ++ p := by
  have e : all.data.toList.length = all.size := by rw [Array.length_toList]; rfl
  have e2 : p.data.toList.length = p.size := by rw [Array.length_toList]; rfl
  apply ByteArray.ext
  apply Array.toList_inj.1
  simp only [Lib.extract_data, ByteArray.toList_data_append, ByteArray.size_append]
  rw [List.drop_append_of_le_length (by omega), List.take_of_length_le (by rw [List.length_append, List.length_drop]; omega), List.take_of_length_le (by rw [List.length_drop]; omega)]
set_option maxRecDepth 100000 in
set_option maxHeartbeats 1000000 in
theorem walkFeedPushes (ps : List ByteArray) (A : Option Addr) (n c : Nat) (w : World) (hx : SlAt w w.heap.size 1 A n (ps.map Value.string)) (hl : ps.length = n) (hsum : sizes ps ≤ 1048576) (hn : n ≤ 9223372036854775807) :
    Calls Try.prog 11 #[.slice A n c] w fun e w' => e = .returned (.bool true) ∧ Below w.heap.size w w' := by
  have Hl := Lib.hid hl
  have Hs := Lib.hid hsum
  clear hl hsum
  go_enter Try.func11, Try.ntmps11
  go_wp2_with fail
  refine Calls.mono (new_any _) ?_
  rintro e w1 ⟨rfl, hw1⟩
  have hF0 := Lib.hid (show FeedAt w1 w.heap.size ⟨#[]⟩ 0 0 from by rw [hw1]; exact feed_new w)
  have hB0 := Lib.hid (show Below w.heap.size w w1 from by rw [hw1]; exact (Below.refl _ _).alloc (Nat.le_refl _) _)
  clear hw1
  obtain ⟨g, hg⟩ : ∃ g, g = w.heap.size := ⟨_, rfl⟩
  go_wp2
  go_loopw [2, 4, 5, 6, 8, 9, 10, 11, 12, 13, 14, 15, 23, 27, 38] (fun _ al at_ st _ _ _ _ _ _ _ _ i _ _ wr => LInv ps n w.heap.size w al at_ st i wr) (fun _ _ _ _ _ _ _ _ _ _ _ _ i _ _ _ => n - (intOf i).toNat)
  case atStart => exact ⟨0, ⟨#[]⟩, ⟨#[]⟩, 0, 0, Nat.zero_le _, rfl, rfl, rfl, rfl, hF0.out, Nat.zero_le _, Nat.zero_le _, fun _ => rfl, fun h => absurd rfl h, hB0.out⟩
  case round =>
    obtain ⟨k, all, rest, a, st, hk, rfl, rfl, rfl, rfl, hF, hal, ha, hr0, hr1, hb⟩ := hrel
    have hgl := hF.lt
    by_cases hlt : k < n
    · obtain ⟨p, hp⟩ : ∃ p, ps[k]? = some p := ⟨_, List.getElem?_eq_getElem (by rw [Hl.out]; exact hlt)⟩
      have hst := sizes_take hp
      have hle := sizes_le ps (k + 1)
      have hss := Hs.out
      obtain ⟨b, off, u, rfl, hbB, hu, hc⟩ := (hx.below hb).cell (j := k) (by omega)
      rw [List.getElem?_map, hp] at hu
      injection hu with hu
      subst hu
      by_cases h0 : st = 0
      · subst h0
        have hr := hr0 rfl
        obtain ⟨al2, hal2⟩ : ∃ al2, all ++ p = al2 := ⟨_, rfl⟩
        obtain ⟨s, hs⟩ : ∃ s, rest ++ p = s := ⟨_, rfl⟩
        have hs2 : al2.extract a al2.size = s := by rw [← hal2, rest_append ha, ← hs, hr]
        have hz : al2.size = all.size + p.size := by rw [← hal2, ByteArray.size_append]
        obtain ⟨fs, m, e, hfr⟩ := Frs.all s
        have hfa := hfr.facts
        have hzs : s.size = al2.size - a := by rw [← hs2, ByteArray.size_extract]; omega
        have hF' : FeedAt wr w.heap.size rest (a : Int) 0 := hF
        have hcl : ¬ 9223372036854775807 < all.size + p.size := by omega
        have hcl2 : all.size + p.size ≤ 9223372036854775807 := by omega
        have q1 : ∀ W : World, (Instr.slice 9 (.string al2) (some (.int .i64 (a : Int))) none none).run Try.prog W = .ok (.string s) W := fun W => by
          rw [run_slice_string_from_if (P := Try.prog) (w := W) 9 al2 .i64 (a : Int) Try.underlying9, if_pos ⟨by omega, by omega⟩, show ((a : Int)).toNat = a from by omega, hs2]
        have hssz := Lib.hid (show s.size ≤ 2097152 from by omega)
        have hne := hfa.2.1
        have Hz := Lib.hid hz
        have Hst := Lib.hid hst
        have Hm := Lib.hid (show a + m ≤ al2.size from by omega)
        have Hfr := Lib.hid hfr
        have Hb := Lib.hid hb
        have hn1 := Lib.hid (show fs.length ≤ 9223372036854775807 from by omega)
        have hF' : FeedAt wr w.heap.size rest (a : Int) 0 := hF
        have o1 : IntKind.i64.wrap ((a : Int) + m) = (a : Int) + m := by rw [IntKind.wrap_i64]; omega
        by_cases h3 : e = 3
        · subst h3
          obtain ⟨r, hrr⟩ : ∃ r, s.extract m s.size = r := ⟨_, rfl⟩
          have o2 : wrap64 ((al2.size : Int) - ((a : Int) + (m : Int))) = (al2.size : Int) - ((a : Int) + (m : Int)) := by
            unfold wrap64; omega
          have eL : (r.size : Int) = (al2.size : Int) - ((a : Int) + (m : Int)) := by
            have : r.size = s.size - m := by rw [← hrr, ByteArray.size_extract]; omega
            omega
          have hrr : s.extract m s.size = r := hrr
          have hrr2 := Lib.hid (show al2.extract (a + m) al2.size = r from by
            rw [← hrr, ← hs2, ByteArray.extract_extract, ByteArray.size_extract]; congr 1; omega)
          have Hpush := Lib.hid (show Calls Try.prog 30 #[.pointer (some ⟨w.heap.size, 0, none⟩), .string p] wr fun x w' => ∃ A n c, x = .returned (.tuple #[.slice A n c, .int .i64 0]) ∧ fs.length = n ∧ SlAt w' w'.heap.size 3 A n (rowsV frmC fs) ∧ wr.grownBy w' (some w.heap.size) ∧ FeedAt w' w.heap.size r ((a : Int) + (m : Int)) 0 from by
            have h := push_any wr hs hfr hF' (by omega) (by omega)
            unfold PushPost at h
            simp only [if_true] at h
            rw [hrr] at h
            exact h)
          have Hrr := Lib.hid hrr
          clear hx hF hF' hr0 hr1 hr hs hs2 hz hzs hst hfa hfr hb hp hrr
          go_wp2_with fail
          refine Calls.mono Hpush.out ?_
          rintro x w2 ⟨A1, n1, c1, rfl, hlen1, hS1, hg1, hF1⟩
          have HF1 := Lib.hid hF1
          have HS1 := Lib.hid hS1
          have hgl2 := hF1.lt
          have Hlen1 := Lib.hid hlen1
          have Hb2 := Lib.hid (show Below w.heap.size w w2 from Hb.out.grown hg1 Hb.out.size (fun k hk => by injection hk with hk; omega))
          clear Hpush hF1 hS1 hg1 hlen1 hc
          go_wp2_with fail
          refine Calls.mono (rframes_any Hfr.out _ hssz.out) ?_
          rintro x w3 ⟨A2, n2, c2, rfl, hlen2, hS2, hb3⟩
          obtain rfl : n1 = n2 := by rw [← Hlen1.out, ← hlen2]
          have HS1 := Lib.hid ((HS1.out.below hb3).more hb3.size)
          have HS2 := Lib.hid hS2
          have HF1 := Lib.hid (show FeedAt w3 _ _ _ _ from Blk.below HF1.out hb3 hgl2)
          have Hb3 := Lib.hid (Hb2.out.trans (hb3.mono Hb2.out.size))
          have hgl3 := HF1.out.lt
          clear hlen2 hS2 hb3 Hb2
          go_wp2_with fail
          refine Calls.mono (eq_frm_same fs A1 A2 n1 c1 c2 _ HS1.out HS2.out Hlen1.out (by have := hn1.out; rw [Hlen1.out] at this; exact this)) ?_
          rintro x w4 ⟨rfl, hb4⟩
          have HF4 := Lib.hid (show FeedAt w4 _ _ _ _ from Blk.below HF1.out hb4 hgl3)
          have Hb4 := Lib.hid (Hb3.out.trans (hb4.mono Hb3.out.size))
          clear hb4
          go_wp2_with fail
          refine Calls.mono (left_any HF4.out) ?_
          rintro x w5 ⟨rfl, rfl⟩
          go_wp2_with fail
          refine Calls.mono (at_any HF4.out) ?_
          rintro x w5 ⟨rfl, rfl⟩
          go_wp2
          go_roundw
          case rel => exact ⟨k + 1, al2, r, a + m, 0, by omega, by go_num, rfl, by go_num, rfl, by rw [show ((a + m : Nat) : Int) = (a : Int) + (m : Int) from by omega]; exact HF4.out, by have := Hz.out; have := Hst.out; omega, Hm.out, fun _ => hrr2.out.symm, fun h => absurd rfl h, Hb4.out⟩
          case measure => simp [intOf]; omega
        · have e3 : ((e : Int) != 3) = true := by simp; omega
          have e4 : ((e : Int) != 0) = true := by simp; omega
          obtain ⟨r, hrr⟩ : ∃ r, (⟨#[]⟩ : ByteArray) = r := ⟨_, rfl⟩
          have eL : (r.size : Int) = 0 := by rw [← hrr]; rfl
          have Hpush := Lib.hid (show Calls Try.prog 30 #[.pointer (some ⟨w.heap.size, 0, none⟩), .string p] wr fun x w' => ∃ A n c, x = .returned (.tuple #[.slice A n c, .int .i64 (e : Int)]) ∧ fs.length = n ∧ SlAt w' w'.heap.size 3 A n (rowsV frmC fs) ∧ wr.grownBy w' (some w.heap.size) ∧ FeedAt w' w.heap.size r ((a : Int) + (m : Int)) (e : Int) from by
            have h := push_any wr hs hfr hF' (by omega) (by omega)
            unfold PushPost at h
            simp only [if_neg h3] at h
            rw [hrr] at h
            exact h)
          have Hrr := Lib.hid hrr
          clear hx hF hF' hr0 hr1 hr hs hs2 hz hzs hst hfa hfr hb hp hrr
          go_wp2_with fail
          refine Calls.mono Hpush.out ?_
          rintro x w2 ⟨A1, n1, c1, rfl, hlen1, hS1, hg1, hF1⟩
          have HF1 := Lib.hid hF1
          have HS1 := Lib.hid hS1
          have hgl2 := hF1.lt
          have Hlen1 := Lib.hid hlen1
          have Hb2 := Lib.hid (show Below w.heap.size w w2 from Hb.out.grown hg1 Hb.out.size (fun k hk => by injection hk with hk; omega))
          clear Hpush hF1 hS1 hg1 hlen1 hc
          go_wp2_with fail
          refine Calls.mono (rframes_any Hfr.out _ hssz.out) ?_
          rintro x w3 ⟨A2, n2, c2, rfl, hlen2, hS2, hb3⟩
          obtain rfl : n1 = n2 := by rw [← Hlen1.out, ← hlen2]
          have HS1 := Lib.hid ((HS1.out.below hb3).more hb3.size)
          have HS2 := Lib.hid hS2
          have HF1 := Lib.hid (show FeedAt w3 _ _ _ _ from Blk.below HF1.out hb3 hgl2)
          have Hb3 := Lib.hid (Hb2.out.trans (hb3.mono Hb2.out.size))
          have hgl3 := HF1.out.lt
          clear hlen2 hS2 hb3 Hb2
          go_wp2_with fail
          refine Calls.mono (eq_frm_same fs A1 A2 n1 c1 c2 _ HS1.out HS2.out Hlen1.out (by have := hn1.out; rw [Hlen1.out] at this; exact this)) ?_
          rintro x w4 ⟨rfl, hb4⟩
          have HF4 := Lib.hid (show FeedAt w4 _ _ _ _ from Blk.below HF1.out hb4 hgl3)
          have Hb4 := Lib.hid (Hb3.out.trans (hb4.mono Hb3.out.size))
          clear hb4
          go_wp2_with fail
          refine Calls.mono (left_any HF4.out) ?_
          rintro x w5 ⟨rfl, rfl⟩
          go_wp2_with fail
          refine Calls.mono (at_any HF4.out) ?_
          rintro x w5 ⟨rfl, rfl⟩
          go_wp2
          go_roundw
          case rel => exact ⟨k + 1, al2, r, a + m, e, by omega, by go_num, rfl, by go_num, rfl, by rw [show ((a + m : Nat) : Int) = (a : Int) + (m : Int) from by omega]; exact HF4.out, by have := Hz.out; have := Hst.out; omega, Hm.out, fun h => absurd h hne, fun _ => Hrr.out.symm, Hb4.out⟩
          case measure => simp [intOf]; omega
      · have hr := hr1 h0
        have e1 : ((st : Int) == 0) = false := by simp; omega
        have e2 : ((st : Int) != 0) = true := by simp; omega
        have eL : (rest.size : Int) = 0 := by rw [hr]; rfl
        have hst0 : (st : Int) ≠ 0 := by omega
        have Hst := Lib.hid hst
        have Hb := Lib.hid hb
        have HF := Lib.hid hF
        have Hr := Lib.hid hr
        clear hx hF hr0 hr1 hr hst hb hp
        go_wp2_with fail
        refine Calls.mono (push_stuck HF.out hst0) ?_
        rintro x w2 ⟨rfl, hb1⟩
        have HF1 := Lib.hid (show FeedAt w2 _ _ _ _ from Blk.below HF.out hb1 hgl)
        have Hb1 := Lib.hid (Hb.out.trans (hb1.mono Hb.out.size))
        have hgl1 := HF1.out.lt
        clear hb1 HF Hb hc
        go_wp2_with fail
        refine Calls.mono (eq_frm_same [] none none 0 0 0 _ SlAt.nil SlAt.nil rfl (by omega)) ?_
        rintro x w4 ⟨rfl, hb4⟩
        have HF4 := Lib.hid (show FeedAt w4 _ _ _ _ from Blk.below HF1.out hb4 hgl1)
        have Hb4 := Lib.hid (Hb1.out.trans (hb4.mono Hb1.out.size))
        clear hb4
        go_wp2_with fail
        refine Calls.mono (left_any HF4.out) ?_
        rintro x w5 ⟨rfl, rfl⟩
        go_wp2_with fail
        refine Calls.mono (at_any HF4.out) ?_
        rintro x w5 ⟨rfl, rfl⟩
        go_wp2
        go_roundw
        case rel => exact ⟨k + 1, all, rest, a, st, by omega, by go_num, rfl, rfl, rfl, HF4.out, by have := Hst.out; omega, ha, fun h => absurd h h0, fun _ => Hr.out, Hb4.out⟩
        case measure => simp [intOf]; omega
    · have Hb := Lib.hid hb
      have Hx : Frs ⟨#[120]⟩ [] 0 4 := .stop (decF_head (decH_0 (by decide) (by decide)) (by decide)) (by decide)
      clear hx hF hr0 hr1 hb
      go_wp2_with fail
      refine Calls.mono (new_any _) ?_
      rintro e w2 ⟨rfl, hw2⟩
      have hF2 := Lib.hid (show FeedAt w2 wr.heap.size ⟨#[]⟩ ((0 : Nat) : Int) 0 from by rw [hw2]; exact feed_new wr)
      have hB2 := Lib.hid (show Below wr.heap.size wr w2 from by rw [hw2]; exact (Below.refl _ _).alloc (Nat.le_refl _) _)
      clear hw2
      go_wp2_with fail
      refine Calls.mono (push_any (rest := ⟨#[]⟩) (p := ⟨#[120]⟩) (s := ⟨#[120]⟩) (at0 := 0) _ rfl Hx hF2.out (by decide) (by decide)) ?_
      rintro x w3 ⟨A1, n1, c1, rfl, -, -, hg3, -⟩
      have hB3 := Lib.hid (hB2.out.grown hg3 hB2.out.size (fun k hk => by injection hk with hk; omega))
      clear hg3
      go_wp2
      go_ret
      exact ⟨rfl, Hb.out.trans (hB3.out.mono Hb.out.size)⟩
end Go.Proofs.Ytdogdhlpkbcneaa
