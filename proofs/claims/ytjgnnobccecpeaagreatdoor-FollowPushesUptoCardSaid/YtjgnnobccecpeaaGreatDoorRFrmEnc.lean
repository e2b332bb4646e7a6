/- Of the proof of a statement: FrmEnc, ChkR, RowsR. -/
import Derived.Deep.RegionHeld3
import Derived.Deep.QuietTactic
import Derived.BigQuiet
import Derived.Test.YtjgnnobccecpeaaGreatDoorRPlDec
import Derived.Test.YtjgnnobccecpeaaGreatDoorRSum
import Derived.Test.YtjgnnobccecpeaaGreatDoorRUtf
set_option linter.unusedVariables false
set_option linter.unusedSimpArgs false
set_option maxRecDepth 100000
set_option maxHeartbeats 8000000
/- The walks of frame.Encode and FrameEncode. -/
namespace Go.Proofs.YtjgnnobccecpeaaGreatDoor
open Go.Lib (hid)
open Go.RowKit
theorem within_yes (n lo hi : Int) (h1 : lo ≤ n) (h2 : n ≤ hi) (w : World) : Calls Tryz.prog 284 #[.int .i64 n, .int .i64 lo, .int .i64 hi] w fun e w' => e = .returned (.bool true) ∧ w = w' := by
 have e2 : decide (n ≤ hi) = true := decide_eq_true h2
 go_enter Tryz.func284, Tryz.ntmps284
 go_wp2
 go_ret
 exact ⟨rfl, rfl⟩
theorem within_no (n lo hi : Int) (h : n < lo ∨ hi < n) (w : World) : Calls Tryz.prog 284 #[.int .i64 n, .int .i64 lo, .int .i64 hi] w fun e w' => e = .returned (.bool false) ∧ w = w' := by
 by_cases h1 : lo ≤ n
 · have h2 : hi < n := by omega
   have e2 : decide (n ≤ hi) = false := decide_eq_false (by omega)
   clear h
   go_enter Tryz.func284, Tryz.ntmps284
   go_wp2
   go_ret
   exact ⟨rfl, rfl⟩
 · have e1 : decide (lo ≤ n) = false := decide_eq_false h1
   clear h
   go_enter Tryz.func284, Tryz.ntmps284
   go_wp2
   go_ret
   exact ⟨rfl, rfl⟩
theorem isVersion_yes (n : Int) (h1 : 1 ≤ n) (h2 : n ≤ 3) (w : World) : Calls Tryz.prog 225 #[.int .i64 n] w fun e w' => e = .returned (.bool true) ∧ w = w' := by
 go_enter Tryz.func225, Tryz.ntmps225
 go_wp2_with (go_at_call 284; refine (within_yes _ _ _ h1 h2 _).mono ?_; rintro e w' ⟨rfl, rfl⟩)
 go_ret
 exact ⟨rfl, rfl⟩
theorem isVersion_no (n : Int) (h : n < 1 ∨ 3 < n) (w : World) : Calls Tryz.prog 225 #[.int .i64 n] w fun e w' => e = .returned (.bool false) ∧ w = w' := by
 have H := hid h
 clear h
 go_enter Tryz.func225, Tryz.ntmps225
 go_wp2_with (go_at_call 284; refine (within_no _ _ _ H.out _).mono ?_; rintro e w' ⟨rfl, rfl⟩)
 go_ret
 exact ⟨rfl, rfl⟩
theorem isKind_yes (n : Int) (h1 : 1 ≤ n) (h2 : n ≤ 4) (w : World) : Calls Tryz.prog 226 #[.int .i64 n] w fun e w' => e = .returned (.bool true) ∧ w = w' := by
 go_enter Tryz.func226, Tryz.ntmps226
 go_wp2_with (go_at_call 284; refine (within_yes _ _ _ h1 h2 _).mono ?_; rintro e w' ⟨rfl, rfl⟩)
 go_ret
 exact ⟨rfl, rfl⟩
theorem isKind_no (n : Int) (h : n < 1 ∨ 4 < n) (w : World) : Calls Tryz.prog 226 #[.int .i64 n] w fun e w' => e = .returned (.bool false) ∧ w = w' := by
 have H := hid h
 clear h
 go_enter Tryz.func226, Tryz.ntmps226
 go_wp2_with (go_at_call 284; refine (within_no _ _ _ H.out _).mono ?_; rintro e w' ⟨rfl, rfl⟩)
 go_ret
 exact ⟨rfl, rfl⟩
theorem fsum_any (s : ByteArray) (w : World) (hs : s.size ≤ 9223372036854775807) : Calls Tryz.prog 228 #[.string s] w fun e w' => e = .returned (.string ⟨(sum4 s.data.toList).toArray⟩) ∧ Below w.heap.size w w' := by
 have hlt := crcSum_lt s.data.toList
 go_enter Tryz.func228, Tryz.ntmps228
 go_wp2_with fail
 refine Calls.mono (sum_any s w hs) ?_
 rintro e w1 ⟨rfl, hb⟩
 have Hn := hid (show sum4 s.data.toList = [UInt8.ofNat (crcSum s.data.toList / 16777216), UInt8.ofNat (crcSum s.data.toList / 65536), UInt8.ofNat (crcSum s.data.toList / 256), UInt8.ofNat (crcSum s.data.toList)] from rfl)
 generalize crcSum s.data.toList = n at hlt Hn
 have b := fun (m : Nat) => show (m : Int) % 256 = (((UInt8.ofNat m).toNat : Nat) : Int) from by rw [UInt8.toNat_ofNat']; omega
 have hrun := run_string_new (P := Tryz.prog) (w := w1) (n := 4) (c := 4) (cs := #[.int .u8 ((n : Int) / 16777216), .int .u8 ((n : Int) / 65536 % 256), .int .u8 ((n : Int) / 256 % 256), .int .u8 ((n : Int) % 256)]) (l := [UInt8.ofNat (n / 16777216), UInt8.ofNat (n / 65536), UInt8.ofNat (n / 256), UInt8.ofNat n]) Tryz.underlying221 Tryz.underlying5 Tryz.underlying9 (by
  simp only [bytesV, List.map_cons, List.map_nil]
  rw [← b, ← b, ← b, ← b]
  have e1 : (((n / 16777216 : Nat) : Int)) % 256 = (n : Int) / 16777216 := by omega
  have e2 : (((n / 65536 : Nat) : Int)) % 256 = (n : Int) / 65536 % 256 := by omega
  have e3 : (((n / 256 : Nat) : Int)) % 256 = (n : Int) / 256 % 256 := by omega
  rw [e1, e2, e3]) rfl
 have HR := hid hrun
 clear b hrun
 go_wp2_with fail
 rw [HR.out]
 go_wp2
 go_ret
 exact ⟨ret_str (by rw [Hn.out]), hb.alloc hb.size _⟩
theorem rfsum_any (s : ByteArray) (w : World) (hs : s.size ≤ 9223372036854775807) : Calls Tryz.prog 245 #[.string s] w fun e w' => e = .returned (.string ⟨(sum4 s.data.toList).toArray⟩) ∧ Below w.heap.size w w' := by
 have hlt := crcSum_lt s.data.toList
 go_enter Tryz.func245, Tryz.ntmps245
 go_wp2_with fail
 refine Calls.mono (rsum_any s w hs) ?_
 rintro e w1 ⟨rfl, rfl⟩
 have Hn := hid (show sum4 s.data.toList = [UInt8.ofNat (crcSum s.data.toList / 16777216), UInt8.ofNat (crcSum s.data.toList / 65536), UInt8.ofNat (crcSum s.data.toList / 256), UInt8.ofNat (crcSum s.data.toList)] from rfl)
 generalize crcSum s.data.toList = n at hlt Hn
 go_wp2_with fail
 refine Calls.mono (chr_any ((n : Int) / 16777216) _ (by omega) (by omega)) ?_
 rintro e w1 ⟨rfl, hb1⟩
 go_wp2_with fail
 refine Calls.mono (chr_any ((n : Int) / 65536) _ (by omega) (by omega)) ?_
 rintro e w2 ⟨rfl, hb2⟩
 have hb3 := hb1.trans (hb2.mono hb1.size)
 clear hb1 hb2
 go_wp2_with fail
 refine Calls.mono (chr_any ((n : Int) / 256) _ (by omega) (by omega)) ?_
 rintro e w3 ⟨rfl, hb4⟩
 have hb5 := hb3.trans (hb4.mono hb3.size)
 clear hb3 hb4
 go_wp2_with fail
 refine Calls.mono (chr_any (n : Int) _ (by omega) (by omega)) ?_
 rintro e w4 ⟨rfl, hb6⟩
 have hb := hb5.trans (hb6.mono hb5.size)
 clear hb5 hb6
 go_wp2
 go_ret
 exact ⟨ret_str (by rw [Hn.out]; simp [ByteArray.mk_append_mk]), hb⟩
end Go.Proofs.YtjgnnobccecpeaaGreatDoor
/- The walks of the checks of one row, in the reference. -/
namespace Go.Proofs.YtjgnnobccecpeaaGreatDoor
open Go.Lib (hid)
open Go.RowKit
open Go.Lib (validD)
theorem isNote_any (s : ByteArray) (w : World) (hs : s.size ≤ 9223372036854775807) : Calls Tryz.prog 183 #[.string s] w fun e w' => e = .returned (.bool (txtOk s)) ∧ w = w' := by
 by_cases h : s.size ≤ 16
 · rw [txtOk_short h]
   have hV := hid (rutf_any s w (by omega))
   generalize validD s.data.toList = b at hV ⊢
   go_enter Tryz.func183, Tryz.ntmps183
   go_wp2_with fail
   refine Calls.mono hV.out ?_
   rintro e w1 ⟨rfl, rfl⟩
   go_wp2
   go_ret
   exact ⟨rfl, rfl⟩
 · rw [txtOk_long h]
   go_enter Tryz.func183, Tryz.ntmps183
   go_wp2
   go_ret
   exact ⟨rfl, rfl⟩
theorem rIsName_any (s : ByteArray) (w : World) (hs : s.size ≤ 9223372036854775807) : Calls Tryz.prog 182 #[.string s] w fun e w' => e = .returned (.bool (nameOk s)) ∧ w = w' := by
 by_cases h : s.size = 0
 · rw [nameOk_empty h]
   obtain rfl := empty_of h
   go_enter Tryz.func182, Tryz.ntmps182
   go_wp2
   go_ret
   exact ⟨rfl, rfl⟩
 · rw [nameOk_more h]
   have hV := hid (isNote_any s w hs)
   have e1 := beq_nil h
   have e2 := beq_empty h
   generalize txtOk s = b at hV ⊢
   go_enter Tryz.func182, Tryz.ntmps182
   go_wp2_with fail
   refine Calls.mono hV.out ?_
   rintro e w1 ⟨rfl, rfl⟩
   go_wp2
   go_ret
   exact ⟨rfl, rfl⟩
theorem outside_any (n lo hi : Int) (w : World) : Calls Tryz.prog 29 #[.int .i64 n, .int .i64 lo, .int .i64 hi] w fun e w' => e = .returned (.bool (!ranged n lo hi)) ∧ w = w' := by
 cases h : ranged n lo hi
 · exact outside_yes n lo hi (ranged_not.1 h) w
 · exact outside_no n lo hi (ranged_iff.1 h).1 (ranged_iff.1 h).2 w
theorem jobCheck_any (j : JobD) (w : World) (h1 : j.name.size ≤ 9223372036854775807) (h2 : j.tag.size ≤ 9223372036854775807) :
 Calls Tryz.prog 103 #[.agg (jobV j).toArray] w fun e w' => e = .returned (.int .i64 (jobE j)) ∧ Below w.heap.size w w' := by
 obtain ⟨E, hE⟩ : ∃ E, jobE j = E := ⟨_, rfl⟩
 rw [hE]
 have HE := hid hE
 clear hE
 obtain ⟨name, prio, need, tries, tag⟩ := j
 unfold jobV
 simp only at h1 h2 ⊢
 have HB := hid ((Below.refl w.heap.size w).alloc (Nat.le_refl _) (.cells #[.string name, .int .i64 prio, .int .i64 need, .int .i64 tries, .string tag] 38))
 go_enter Tryz.func103, Tryz.ntmps103
 go_wp2_with fail
 refine Calls.mono (rIsName_any _ _ h1) ?_
 rintro e w1 ⟨rfl, rfl⟩
 cases hn : nameOk name
 · go_wp2
   go_ret
   exact ⟨ret_int (by rw [← HE.out]; simp [jobE, hn]), HB.out⟩
 go_wp2_with fail
 refine Calls.mono (isNote_any _ _ h2) ?_
 rintro e w1 ⟨rfl, rfl⟩
 cases ht : txtOk tag
 · go_wp2
   go_ret
   exact ⟨ret_int (by rw [← HE.out]; simp [jobE, hn, ht]), HB.out⟩
 go_wp2_with fail
 refine Calls.mono (outside_any _ _ _ _) ?_
 rintro e w1 ⟨rfl, rfl⟩
 cases hr0 : ranged prio (-1000) 1000
 · go_wp2
   go_ret
   exact ⟨ret_int (by rw [← HE.out]; simp [jobE, hn, ht, hr0]), HB.out⟩
 go_wp2_with fail
 refine Calls.mono (outside_any _ _ _ _) ?_
 rintro e w1 ⟨rfl, rfl⟩
 cases hr1 : ranged need 0 1000000
 · go_wp2
   go_ret
   exact ⟨ret_int (by rw [← HE.out]; simp [jobE, hn, ht, hr0, hr1]), HB.out⟩
 go_wp2_with fail
 refine Calls.mono (outside_any _ _ _ _) ?_
 rintro e w1 ⟨rfl, rfl⟩
 cases hr2 : ranged tries 0 100
 · go_wp2
   go_ret
   exact ⟨ret_int (by rw [← HE.out]; simp [jobE, hn, ht, hr0, hr1, hr2]), HB.out⟩
 go_wp2
 go_ret
 exact ⟨ret_int (by rw [← HE.out]; simp [jobE, hn, ht, hr0, hr1, hr2]), HB.out⟩
theorem nodeCheck_any (n : NodeD) (w : World) (h1 : n.name.size ≤ 9223372036854775807) (h2 : n.zone.size ≤ 9223372036854775807) :
 Calls Tryz.prog 104 #[.agg (nodeV n).toArray] w fun e w' => e = .returned (.int .i64 (nodeE n)) ∧ Below w.heap.size w w' := by
 obtain ⟨E, hE⟩ : ∃ E, nodeE n = E := ⟨_, rfl⟩
 rw [hE]
 have HE := hid hE
 clear hE
 obtain ⟨name, room, zone⟩ := n
 unfold nodeV
 simp only at h1 h2 ⊢
 have HB := hid ((Below.refl w.heap.size w).alloc (Nat.le_refl _) (.cells #[.string name, .int .i64 room, .string zone] 40))
 go_enter Tryz.func104, Tryz.ntmps104
 go_wp2_with fail
 refine Calls.mono (rIsName_any _ _ h1) ?_
 rintro e w1 ⟨rfl, rfl⟩
 cases hn : nameOk name
 · go_wp2
   go_ret
   exact ⟨ret_int (by rw [← HE.out]; simp [nodeE, hn]), HB.out⟩
 go_wp2_with fail
 refine Calls.mono (isNote_any _ _ h2) ?_
 rintro e w1 ⟨rfl, rfl⟩
 cases ht : txtOk zone
 · go_wp2
   go_ret
   exact ⟨ret_int (by rw [← HE.out]; simp [nodeE, hn, ht]), HB.out⟩
 go_wp2_with fail
 refine Calls.mono (outside_any _ _ _ _) ?_
 rintro e w1 ⟨rfl, rfl⟩
 cases hr0 : ranged room 0 1000000
 · go_wp2
   go_ret
   exact ⟨ret_int (by rw [← HE.out]; simp [nodeE, hn, ht, hr0]), HB.out⟩
 go_wp2
 go_ret
 exact ⟨ret_int (by rw [← HE.out]; simp [nodeE, hn, ht, hr0]), HB.out⟩
end Go.Proofs.YtjgnnobccecpeaaGreatDoor
/- The walks of jobsCheck and nodesCheck in the reference. -/
namespace Go.Proofs.YtjgnnobccecpeaaGreatDoor
open Go.Lib (hid)
open Go.RowKit
theorem jobsCheck_any (xs : List JobD) (A : Option Addr) (n c : Nat) (w : World) (hx : SlAt w w.heap.size 5 A n (rowsV jobV xs)) (hl : xs.length = n) (hn : n ≤ 9223372036854775807) (hok : JobsOk xs) :
 Calls Tryz.prog 30 #[.slice A n c] w fun e w' => e = .returned (.int .i64 (rowsE jobE JobD.name xs)) ∧ Below w.heap.size w w' := by
 obtain ⟨R, hR⟩ : ∃ R, rowsE jobE JobD.name xs = R := ⟨_, rfl⟩
 rw [hR]
 have HR := hid hR
 have Hl := hid hl
 have Hok := hid hok
 clear hl hR hok
 go_enter Tryz.func30, Tryz.ntmps30
 go_wp2
 go_loopw [2, 3, 4, 5, 8, 14] (fun _ _ _ _ i _ wr => JobInv xs n R w i wr) (fun _ _ _ _ i _ _ => n - (intOf i).toNat)
 case atStart => exact ⟨0, Nat.zero_le _, rfl, by rw [← HR.out]; rfl, Below.refl _ _⟩
 case round =>
  obtain ⟨k, hk, rfl, hrow, hb⟩ := hrel
  have Hrow := hid hrow
  have Hb := hid hb
  have hsz := hb.size
  clear hrow
  by_cases hlt : k < n
  · obtain ⟨x, hf⟩ : ∃ x, xs[k]? = some x := ⟨_, List.getElem?_eq_getElem (by rw [Hl.out]; exact hlt)⟩
    obtain ⟨b, off, rfl, hbB, hc⟩ := (hx.below hb).rec_ jobV_len Hl.out hf
    have hso := hid (Hok.out x (List.mem_of_getElem? hf))
    have Hf := hid hf
    obtain ⟨E, hE⟩ : ∃ E, jobE x = E := ⟨_, rfl⟩
    have HE := hid hE
    obtain ⟨name, prio, need, tries, tag⟩ := x
    have c0 : wr.cell? ⟨b, off + k * 5, none⟩ = some (.string name) := hc 0 _ rfl
    have c1 : wr.cell? ⟨b, off + k * 5 + 1, none⟩ = some (.int .i64 prio) := hc 1 _ rfl
    have c2 : wr.cell? ⟨b, off + k * 5 + 2, none⟩ = some (.int .i64 need) := hc 2 _ rfl
    have c3 : wr.cell? ⟨b, off + k * 5 + 3, none⟩ = some (.int .i64 tries) := hc 3 _ rfl
    have c4 : wr.cell? ⟨b, off + k * 5 + 4, none⟩ = some (.string tag) := hc 4 _ rfl
    clear hc hf hE
    have hlb : b < wr.heap.size := by omega
    have hBa := hid (Hb.out.alloc Hb.out.size (.cells #[.string name, .int .i64 prio, .int .i64 need, .int .i64 tries, .string tag] 38))
    go_wp2_with fail
    refine Calls.mono (jobCheck_any ⟨name, prio, need, tries, tag⟩ _ hso.out.1 hso.out.2) ?_
    rintro e w1 ⟨rfl, hb1⟩
    rw [HE.out]
    have hA0 := (Below.refl wr.heap.size wr).alloc (Nat.le_refl _) (.cells #[.string name, .int .i64 prio, .int .i64 need, .int .i64 tries, .string tag] 38)
    have hA1 := hA0.trans (hb1.mono hA0.size)
    have hB1 := hid (hBa.out.trans (hb1.mono hBa.out.size))
    by_cases he : E = 0
    · subst he
      have l0 : w1.cell? ⟨wr.heap.size, 0, none⟩ = some (.string name) := by rw [(bcell hb1).1 _ _ (by simp)]; simp [go_sem]
      by_cases hk0 : k = 0
      · subst hk0
        have hst := hid (rows_next (key := JobD.name) Hf.out HE.out (.inl rfl))
        clear c0 c1 c2 c3 c4 hb1 hx hA0 hA1
        have hB2 := hid hB1.out.drew
        go_wp2
        go_region
        go_wp2
        go_roundw
        case rel => exact ⟨1, by omega, by go_num, by rw [← hst.out]; exact Hrow.out, hB2.out⟩
        case measure => simp [intOf]; omega
      · obtain ⟨y, hy⟩ : ∃ y, xs[k - 1]? = some y := ⟨_, List.getElem?_eq_getElem (by rw [Hl.out]; omega)⟩
        obtain ⟨b', off', hbo, hbB', hp⟩ := (hx.below hb).rec_ jobV_len Hl.out hy
        obtain ⟨rfl, rfl⟩ : b = b' ∧ off = off' := by simpa using hbo
        have Hy := hid hy
        obtain ⟨name', prio', need', tries', tag'⟩ := y
        have q0 : wr.cell? ⟨b, off + (k - 1) * 5, none⟩ = some (.string name') := hp 0 _ rfl
        have p0 : w1.cell? ⟨b, off + (k - 1) * 5, none⟩ = some (.string name') := ((bcell hA1).1 _ _ hlb).trans q0
        clear q0 c0 c1 c2 c3 c4 hp hy hb1 hx hA0 hA1
        have hkp : decide ((0 : Int) < (k : Int)) = true := decide_eq_true (by omega)
        have hkn : 0 < k := by omega
        have hB2 := hid hB1.out.drew
        obtain ⟨B, hB⟩ : ∃ B, Op.bytesLess name'.toList name.toList = B := ⟨_, rfl⟩
        have HL := hid hB
        cases B
        · have hst := hid (rows_order (key := JobD.name) Hf.out HE.out hk0 Hy.out HL.out)
          go_wp2
          go_region
          go_wp2
          go_ret
          exact ⟨ret_int (by rw [← Hrow.out]; exact hst.out.symm), hB2.out⟩
        · have hst := hid (rows_next (key := JobD.name) Hf.out HE.out (.inr ⟨_, Hy.out, HL.out⟩))
          go_wp2
          go_region
          go_wp2
          go_roundw
          case rel => exact ⟨k + 1, by omega, by go_num, by rw [← hst.out]; exact Hrow.out, hB2.out⟩
          case measure => simp [intOf]; omega
    · have hst := hid (rows_err (E := jobE) (key := JobD.name) Hf.out (by rw [HE.out]; exact he))
      have e1 : (E == 0) = false := beq_eq_false_iff_ne.2 he
      have e2 : (E != 0) = true := bne_iff_ne.2 he
      clear c0 c1 c2 c3 c4 hb1 hx hA0 hA1
      go_wp2
      go_ret
      exact ⟨ret_int (by rw [← Hrow.out, hst.out]; exact HE.out.symm), hB1.out⟩
  · obtain rfl : k = n := by omega
    have fin := hid (show R = 0 by rw [← Hrow.out]; exact rows_end (by rw [Hl.out]; exact Nat.le_refl _) _)
    clear hb hx
    go_wp2
    go_ret
    exact ⟨ret_int fin.out.symm, Hb.out⟩
theorem nodesCheck_any (xs : List NodeD) (A : Option Addr) (n c : Nat) (w : World) (hx : SlAt w w.heap.size 3 A n (rowsV nodeV xs)) (hl : xs.length = n) (hn : n ≤ 9223372036854775807) (hok : NodesOk xs) :
 Calls Tryz.prog 31 #[.slice A n c] w fun e w' => e = .returned (.int .i64 (rowsE nodeE NodeD.name xs)) ∧ Below w.heap.size w w' := by
 obtain ⟨R, hR⟩ : ∃ R, rowsE nodeE NodeD.name xs = R := ⟨_, rfl⟩
 rw [hR]
 have HR := hid hR
 have Hl := hid hl
 have Hok := hid hok
 clear hl hR hok
 go_enter Tryz.func31, Tryz.ntmps31
 go_wp2
 go_loopw [2, 3, 4, 5, 8, 14] (fun _ _ _ _ i _ wr => NodeInv xs n R w i wr) (fun _ _ _ _ i _ _ => n - (intOf i).toNat)
 case atStart => exact ⟨0, Nat.zero_le _, rfl, by rw [← HR.out]; rfl, Below.refl _ _⟩
 case round =>
  obtain ⟨k, hk, rfl, hrow, hb⟩ := hrel
  have Hrow := hid hrow
  have Hb := hid hb
  have hsz := hb.size
  clear hrow
  by_cases hlt : k < n
  · obtain ⟨x, hf⟩ : ∃ x, xs[k]? = some x := ⟨_, List.getElem?_eq_getElem (by rw [Hl.out]; exact hlt)⟩
    obtain ⟨b, off, rfl, hbB, hc⟩ := (hx.below hb).rec_ nodeV_len Hl.out hf
    have hso := hid (Hok.out x (List.mem_of_getElem? hf))
    have Hf := hid hf
    obtain ⟨E, hE⟩ : ∃ E, nodeE x = E := ⟨_, rfl⟩
    have HE := hid hE
    obtain ⟨name, room, zone⟩ := x
    have c0 : wr.cell? ⟨b, off + k * 3, none⟩ = some (.string name) := hc 0 _ rfl
    have c1 : wr.cell? ⟨b, off + k * 3 + 1, none⟩ = some (.int .i64 room) := hc 1 _ rfl
    have c2 : wr.cell? ⟨b, off + k * 3 + 2, none⟩ = some (.string zone) := hc 2 _ rfl
    clear hc hf hE
    have hlb : b < wr.heap.size := by omega
    have hBa := hid (Hb.out.alloc Hb.out.size (.cells #[.string name, .int .i64 room, .string zone] 40))
    go_wp2_with fail
    refine Calls.mono (nodeCheck_any ⟨name, room, zone⟩ _ hso.out.1 hso.out.2) ?_
    rintro e w1 ⟨rfl, hb1⟩
    rw [HE.out]
    have hA0 := (Below.refl wr.heap.size wr).alloc (Nat.le_refl _) (.cells #[.string name, .int .i64 room, .string zone] 40)
    have hA1 := hA0.trans (hb1.mono hA0.size)
    have hB1 := hid (hBa.out.trans (hb1.mono hBa.out.size))
    by_cases he : E = 0
    · subst he
      have l0 : w1.cell? ⟨wr.heap.size, 0, none⟩ = some (.string name) := by rw [(bcell hb1).1 _ _ (by simp)]; simp [go_sem]
      by_cases hk0 : k = 0
      · subst hk0
        have hst := hid (rows_next (key := NodeD.name) Hf.out HE.out (.inl rfl))
        clear c0 c1 c2 hb1 hx hA0 hA1
        have hB2 := hid hB1.out.drew
        go_wp2
        go_region
        go_wp2
        go_roundw
        case rel => exact ⟨1, by omega, by go_num, by rw [← hst.out]; exact Hrow.out, hB2.out⟩
        case measure => simp [intOf]; omega
      · obtain ⟨y, hy⟩ : ∃ y, xs[k - 1]? = some y := ⟨_, List.getElem?_eq_getElem (by rw [Hl.out]; omega)⟩
        obtain ⟨b', off', hbo, hbB', hp⟩ := (hx.below hb).rec_ nodeV_len Hl.out hy
        obtain ⟨rfl, rfl⟩ : b = b' ∧ off = off' := by simpa using hbo
        have Hy := hid hy
        obtain ⟨name', room', zone'⟩ := y
        have q0 : wr.cell? ⟨b, off + (k - 1) * 3, none⟩ = some (.string name') := hp 0 _ rfl
        have p0 : w1.cell? ⟨b, off + (k - 1) * 3, none⟩ = some (.string name') := ((bcell hA1).1 _ _ hlb).trans q0
        clear q0 c0 c1 c2 hp hy hb1 hx hA0 hA1
        have hkp : decide ((0 : Int) < (k : Int)) = true := decide_eq_true (by omega)
        have hkn : 0 < k := by omega
        have hB2 := hid hB1.out.drew
        obtain ⟨B, hB⟩ : ∃ B, Op.bytesLess name'.toList name.toList = B := ⟨_, rfl⟩
        have HL := hid hB
        cases B
        · have hst := hid (rows_order (key := NodeD.name) Hf.out HE.out hk0 Hy.out HL.out)
          go_wp2
          go_region
          go_wp2
          go_ret
          exact ⟨ret_int (by rw [← Hrow.out]; exact hst.out.symm), hB2.out⟩
        · have hst := hid (rows_next (key := NodeD.name) Hf.out HE.out (.inr ⟨_, Hy.out, HL.out⟩))
          go_wp2
          go_region
          go_wp2
          go_roundw
          case rel => exact ⟨k + 1, by omega, by go_num, by rw [← hst.out]; exact Hrow.out, hB2.out⟩
          case measure => simp [intOf]; omega
    · have hst := hid (rows_err (E := nodeE) (key := NodeD.name) Hf.out (by rw [HE.out]; exact he))
      have e1 : (E == 0) = false := beq_eq_false_iff_ne.2 he
      have e2 : (E != 0) = true := bne_iff_ne.2 he
      clear c0 c1 c2 hb1 hx hA0 hA1
      go_wp2
      go_ret
      exact ⟨ret_int (by rw [← Hrow.out, hst.out]; exact HE.out.symm), hB1.out⟩
  · obtain rfl : k = n := by omega
    have fin := hid (show R = 0 by rw [← Hrow.out]; exact rows_end (by rw [Hl.out]; exact Nat.le_refl _) _)
    clear hb hx
    go_wp2
    go_ret
    exact ⟨ret_int fin.out.symm, Hb.out⟩
end Go.Proofs.YtjgnnobccecpeaaGreatDoor
