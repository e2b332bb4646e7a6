/- Of the proof of a statement: PushFeed, FeedN, Src, Clone, OwnMore, SameR. -/
import Derived.Test.YtjgnnobccecpeaaGreatDoorRFrmDecR
set_option linter.unusedVariables false
set_option linter.unusedSimpArgs false
set_option maxRecDepth 100000
set_option maxHeartbeats 8000000
/- The walk of Feed.Push. -/
namespace Go.Proofs.YtjgnnobccecpeaaGreatDoor
open Go.Lib (hid)
open Go.RowKit
def FeedAt (w : World) (g : Nat) (rest : ByteArray) (at_ : Int) (stuck : Int) : Prop := Blk w g 236 #[.string rest, .int .i64 at_, .int .i64 stuck]
def PfInv (s : ByteArray) (g at0 : Nat) (fs : List FrameM) (m e : Nat) (w : World) (out : Value) (wr : World) (k : Nat) : Prop :=
 ∃ (done left : List FrameM) (A : Option Addr) (n c a m' : Nat), fs = done ++ left ∧ m = a + m' ∧ out = .slice A n c ∧ n ≤ a ∧ a ≤ s.size ∧ k = s.size - a ∧ Frs (s.extract a s.size) left m' e ∧ wr.ownsRow w.heap.size 151 3 (.slice A n c) n (rowsV frmC done) ∧ w.grownBy wr (some g) ∧ FeedAt wr g (s.extract a s.size) ((at0 : Int) + (a : Int)) 0
def PushPost (s : ByteArray) (g at0 : Nat) (fs : List FrameM) (m e : Nat) (w : World) (x : Ending) (w' : World) : Prop :=
 ∃ A n c, x = .returned (.tuple #[.slice A n c, .int .i64 (if e = 3 then 0 else (e : Int))]) ∧ fs.length = n ∧ SlAt w' w'.heap.size 3 A n (rowsV frmC fs) ∧ w.grownBy w' (some g) ∧
  FeedAt w' g (if e = 3 then s.extract m s.size else ⟨#[]⟩) ((at0 : Int) + (m : Int)) (if e = 3 then 0 else (e : Int))
theorem push_any {rest p s : ByteArray} {g at0 : Nat} {fs : List FrameM} {m e : Nat} (w : World) (hs : rest ++ p = s) (h : Frs s fs m e) (hF : FeedAt w g rest at0 0) (hsz : s.size ≤ 2097152) (hat : at0 ≤ 2097152) :
 Calls Tryz.prog 94 #[.pointer (some ⟨g, 0, none⟩), .string p] w (PushPost s g at0 fs m e w) := by
 have hh := hid h
 have hlt := hF.lt
 have x0 : w.cell? ⟨g, 0, none⟩ = some (.string rest) := Blk.cell hF 0
 have x2 : w.cell? ⟨g, 2, none⟩ = some (.int .i64 0) := Blk.cell hF 2
 have t0 := Blk.thaw hF 0
 have hB0 := hid (show FeedAt (w.setCell ⟨g, 0, none⟩ (.string s)) g s (at0 : Int) 0 from Blk.eq (Blk.set hF 0 _) (by simp))
 have hpl : ¬ 9223372036854775807 < rest.size + p.size := by
  have := congrArg ByteArray.size hs
  rw [ByteArray.size_append] at this; omega
 have hpl2 : rest.size + p.size ≤ 9223372036854775807 := by omega
 clear h hF
 go_enter Tryz.func94, Tryz.ntmps94
 go_wp2
 go_loopg [4, 5, 6, 7, 8, 9, 27] s.size (fun k _ _ out _ _ _ _ wr => PfInv s g at0 fs m e w out wr k)
 case atStart => exact ⟨[], fs, none, 0, 0, 0, m, rfl, by omega, rfl, Nat.le_refl _, Nat.zero_le _, rfl, by rw [show s.extract 0 s.size = s from by simp]; exact hh.out, World.ownsRow_nil _ _ _ _, bes_set (World.grownBy.refl w _) _ _, by rw [show s.extract 0 s.size = s from by simp]; exact Blk.eq hB0.out (by simp)⟩
 case round =>
  obtain ⟨done, left, A, n, c, a, m', hfs, hm, rfl, hna, ha, rfl, hF, ho, hg, hB⟩ := hrel
  have y0 : wr.cell? ⟨g, 0, none⟩ = some (.string (s.extract a s.size)) := Blk.cell hB 0
  have hsz1 := hid (show (s.extract a s.size).size ≤ 9223372036854775807 from by rw [ByteArray.size_extract]; omega)
  have hgl := hB.lt
  have HB := hid hB
  clear x0 x2 t0 hB0 hpl hpl2 hs hB
  cases hF with
  | stop hd he =>
   have hd := hid hd
   have e1 : ((e : Int) == 0) = false := by simp; omega
   have fin := hid (show fs = done from by rw [hfs]; simp)
   have hm := hid (show m = a from hm)
   clear hfs
   go_wp2_with fail
   refine Calls.mono (dec_eq hd.out _ hsz1.out) ?_
   rintro x w1 ⟨rfl, hb1⟩
   have ho1 := hid ((own_belowF ho hb1).alloc (.cells #[.int .i64 0, .int .i64 0, .string ⟨#[]⟩] 151))
   have hb2 := hb1.alloc hb1.size (.cells #[.int .i64 0, .int .i64 0, .string ⟨#[]⟩] 151)
   have hG := hid (bes_below hg hb2)
   have hB1 := HB.out.below hb2 hgl
   have z0 : w1.cell? ⟨g, 0, none⟩ = some (.string (s.extract a s.size)) := Blk.cell (Blk.below HB.out hb1 hgl) 0
   have z2 : w1.cell? ⟨g, 2, none⟩ = some (.int .i64 0) := Blk.cell (Blk.below HB.out hb1 hgl) 2
   have t0 := Blk.thaw (Blk.below HB.out hb1 hgl) 0
   have t2 := Blk.thaw (Blk.below HB.out hb1 hgl) 2
   have hgl1 : g < w1.heap.size := by have := hb1.size; omega
   have HB1 := hid hB1
   have hlen := hid (show done.length = n from by have := ho.1; rw [rowsV_length frmC_len] at this; omega)
   have hoE := hid ((own_belowF ho hb1).kept (row := some g) (bes_set (bes_set (World.grownBy.refl w1 _) 0 (.string ⟨#[]⟩)) 2 (.int .i64 (e : Int))) (.inr (fun h => by have := ((own_belowF ho hb1).lt g h).1; omega)))
   have hGE := hid (bes_set (bes_set (bes_below hg hb1) 0 (.string ⟨#[]⟩)) 2 (.int .i64 (e : Int)))
   have hBE := hid (show FeedAt ((w1.setCell ⟨g, 0, none⟩ (.string ⟨#[]⟩)).setCell ⟨g, 2, none⟩ (.int .i64 (e : Int))) g ⟨#[]⟩ ((at0 : Int) + (a : Int)) (e : Int) from Blk.eq ((Blk.set (Blk.below HB.out hb1 hgl) 0 _).set 2 _) (by simp))
   clear ho hb1 hb2 hg hB1 y0
   by_cases h3 : e = 3
   · subst h3
     clear e1 he
     go_wp2
     refine bodyPost_ret (v := .tuple #[.slice A n c, .int .i64 0]) (by simp [results, Tryz.results94, go_sem]) rfl ?_
     exact ⟨A, n, c, rfl, by rw [fin.out]; exact hlen.out, by rw [fin.out]; exact own_slAt ho1.out, hG.out, by rw [hm.out]; exact HB1.out⟩
   · have e2 : ((e : Int) == 3) = false := by simp; omega
     go_wp2
     refine bodyPost_ret (v := .tuple #[.slice A n c, .int .i64 (e : Int)]) (by simp [results, Tryz.results94, go_sem]) rfl ?_
     exact ⟨A, n, c, by rw [if_neg h3], by rw [fin.out]; exact hlen.out, by rw [fin.out]; exact own_slAt (hoE.out.alloc _), bes_below hGE.out ((Below.refl _ _).alloc (Nat.le_refl _) _), by rw [hm.out, if_neg h3, if_neg h3]; exact hBE.out.alloc _⟩
  | @step _ f n1 fs1 m1 _ hd h1 h2 hF =>
   have hd := hid hd
   have h2' := h2
   rw [ByteArray.size_extract] at h2'
   have e0 : (s.extract a s.size).extract n1 (s.extract a s.size).size = s.extract (a + n1) s.size := by
    rw [ByteArray.extract_extract, ByteArray.size_extract]
    congr 1
    omega
   have hF1 := hid (show Frs (s.extract (a + n1) s.size) fs1 m1 e from by rw [← e0]; exact hF)
   have q1 : ∀ W : World, (Instr.slice 9 (.string (s.extract a s.size)) (some (.int .i64 (n1 : Int))) none none).run Tryz.prog W = .ok (.string (s.extract (a + n1) s.size)) W := fun W => by
    rw [run_slice_string_from_if (P := Tryz.prog) (w := W) 9 (s.extract a s.size) .i64 (n1 : Int) Tryz.underlying9, if_pos ⟨by omega, by omega⟩, show ((n1 : Int)).toNat = n1 from by omega, e0]
   have fin := hid (show fs = (done ++ [f]) ++ fs1 from by rw [hfs]; simp)
   have hm := hid (show m = (a + n1) + m1 from by omega)
   clear hfs hF e0
   obtain ⟨ver, kind, pay⟩ := f
   go_wp2_with fail
   refine Calls.mono (dec_eq hd.out _ hsz1.out) ?_
   rintro x w1 ⟨rfl, hb1⟩
   dsimp only
   have ho1 := (own_belowF ho hb1).alloc (.cells #[.int .i64 (ver : Int), .int .i64 (kind : Int), .string pay] 151)
   have hb2 := hb1.alloc hb1.size (.cells #[.int .i64 (ver : Int), .int .i64 (kind : Int), .string pay] 151)
   have hG := hid (bes_below hg hb2)
   have hbr := hG.out.size
   have HB1 := hid (HB.out.below hb2 hgl)
   have Hlt := hid ho1.lt
   clear ho hb1 hb2 hg y0
   go_wp2_with (at_builtin; refine push_rec frmC rfl _ _ 147 151 zeroF 3 32 rfl Tryz.underlying147 infoFrame rfl (by decide) frmC_len frmC_one w.heap.size _ _ _ done rfl ho1 _ ⟨ver, kind, pay⟩ rfl _ (by simp) rfl (by omega) (by unfold maxLen; omega) hbr ?_; intro A2 c2 w2 ho2 hg2; have HB2 := hid (HB1.out.grew hg2 (fun k hk => by have := (Hlt.out k hk).1; omega)); have y0 := Blk.cell HB2.out 0; have y1 := Blk.cell HB2.out 1; have t0 := Blk.thaw HB2.out 0; have t1 := Blk.thaw HB2.out 1; dsimp at y0 y1)
   go_roundg (s.size - (a + n1))
   case rel => exact ⟨done ++ [⟨ver, kind, pay⟩], fs1, A2, n + 1, c2, a + n1, m1, fin.out, hm.out, rfl, by omega, by omega, rfl, hF1.out, ho2.kept (row := some g) (bes_set (bes_set (World.grownBy.refl w2 _) 0 _) 1 _) (.inr (fun h => by have := (ho2.lt g h).1; omega)), bes_set (bes_set (bes_grew hG.out hg2 (fun k hk => (Hlt.out k hk).1)) _ _) _ _, Blk.eq ((HB2.out.set 0 _).set 1 _) (by simp; omega)⟩
   case measure => omega
end Go.Proofs.YtjgnnobccecpeaaGreatDoor
/- Feed: New, and Push where it is stuck. -/
namespace Go.Proofs.YtjgnnobccecpeaaGreatDoor
open Go.Lib (hid)
open Go.RowKit
theorem new_any (w : World) : Calls Tryz.prog 93 #[] w fun x w' => x = .returned (.pointer (some ⟨w.heap.size, 0, none⟩)) ∧ w' = w.alloc (.cells #[.string ⟨#[]⟩, .int .i64 0, .int .i64 0] 236) := by
 go_enter Tryz.func93, Tryz.ntmps93
 go_wp2
 go_ret
 exact ⟨rfl, rfl⟩
theorem feed_new (w : World) : FeedAt (w.alloc (.cells #[.string ⟨#[]⟩, .int .i64 0, .int .i64 0] 236)) w.heap.size ⟨#[]⟩ 0 0 := heap_alloc_new _ _
theorem push_stuck {w : World} {g : Nat} {rest p : ByteArray} {a st : Int} (h : FeedAt w g rest a st) (hst : st ≠ 0) : Calls Tryz.prog 94 #[.pointer (some ⟨g, 0, none⟩), .string p] w fun x w' => x = .returned (.tuple #[.slice none 0 0, .int .i64 st]) ∧ Below w.heap.size w w' := by
 have y0 : w.cell? ⟨g, 2, none⟩ = some (.int .i64 st) := Blk.cell h 2
 have e1 : (st != 0) = true := by simpa using hst
 have hb := hid ((Below.refl w.heap.size w).drew)
 clear h hst
 go_enter Tryz.func94, Tryz.ntmps94
 go_wp2
 go_region
 go_wp2
 refine bodyPost_ret (v := .tuple #[.slice none 0 0, .int .i64 st]) (by simp [results, Tryz.results94, go_sem]) rfl ?_
 exact ⟨rfl, hb.out⟩
end Go.Proofs.YtjgnnobccecpeaaGreatDoor
/- The reader of the reference: how many. -/
namespace Go.Proofs.YtjgnnobccecpeaaGreatDoor
open Go.Lib (hid)
open Go.RowKit
theorem manyP_ok {most : Nat} {s r : ByteArray} {n : Nat} (h : numP s = .ok n r) (hl : ¬ most < n) : manyP most s = .ok n r := by unfold manyP; rw [h, RR.bind_ok, if_neg hl]
theorem manyP_large {most : Nat} {s r : ByteArray} {n : Nat} (h : numP s = .ok n r) (hl : most < n) : manyP most s = .bad 2 := by unfold manyP; rw [h, RR.bind_ok, if_pos hl]
theorem manyP_bad {most : Nat} {s : ByteArray} {x : Nat} (h : numP s = .bad x) : manyP most s = .bad x := by unfold manyP; rw [h, RR.bind_bad]
theorem sxmany (g most : Nat) (s : ByteArray) (w : World) (h : SxAt w g s) (hm : most ≤ 1000) :
 Calls Tryz.prog 179 #[.pointer (some ⟨g, 0, none⟩), .int .i64 (most : Int)] w (SxPost g (manyP most s) (fun n : Nat => .int .i64 n) w) := by
 have HB := hid (sxnum g s w h)
 clear h
 rcases hr : numP s with ⟨a, r⟩ | x
 · have hle := numP_le hr
   have Hr := hid hr
   by_cases hl : most < a
   · have hd : decide ((most : Int) < (a : Int)) = true := decide_eq_true (by omega)
     have hres := hid (manyP_large hr hl)
     clear hr
     go_enter Tryz.func179, Tryz.ntmps179
     go_wp2_with fail
     refine Calls.mono HB.out ?_
     intro e w1 hp
     obtain ⟨rfl, hs, hg⟩ := hp.ok Hr.out
     have hg := hid hg
     clear hp hs
     go_wp2
     exact ⟨rfl, SxPost.mkBad hres.out hg.out⟩
   · have hd : decide ((most : Int) < (a : Int)) = false := decide_eq_false (by omega)
     have hres := hid (manyP_ok hr hl)
     clear hr
     go_enter Tryz.func179, Tryz.ntmps179
     go_wp2_with fail
     refine Calls.mono HB.out ?_
     intro e w1 hp
     obtain ⟨rfl, hs, hg⟩ := hp.ok Hr.out
     have hs := hid hs
     have hg := hid hg
     clear hp
     go_wp2
     go_ret
     exact SxPost.mkOk hres.out hs.out hg.out
 · have Hr := hid hr
   have hres := hid (manyP_bad (most := most) hr)
   clear hr
   go_enter Tryz.func179, Tryz.ntmps179
   go_wp2_with fail
   refine Calls.mono HB.out ?_
   intro e w1 hp
   obtain ⟨rfl, hg⟩ := hp.bad Hr.out
   unfold thrown
   go_wp2
   exact ⟨rfl, SxPost.mkBad hres.out hg⟩
end Go.Proofs.YtjgnnobccecpeaaGreatDoor
/- The walks of slices.Clone and of Copy at rows of records: a row of the call's own that reads the same. -/
namespace Go.Proofs.YtjgnnobccecpeaaGreatDoor
open Go.Lib (hid)
open Go.RowKit
def ClPost {α : Type} (T : TypeId) (sz : Nat) (enc : α → List Value) (xs : List α) (w : World) (e : Ending) (w' : World) : Prop :=
 ∃ A' c', e = .returned (.slice A' xs.length c') ∧ w'.ownsRow w.heap.size T sz (.slice A' xs.length c') xs.length (rowsV enc xs) ∧ Below w.heap.size w w'
theorem ClPost.of_own {α : Type} {T : TypeId} {sz n : Nat} {enc : α → List Value} {xs : List α} {w w' : World} {v : Value} (hl : xs.length = n) (ho : w'.ownsRow w.heap.size T sz v n (rowsV enc xs)) (hb : Below w.heap.size w w') : ClPost T sz enc xs w (.returned v) w' := by
 subst hl
 rcases ho.2 with ⟨rfl, h0⟩ | ⟨g, cap, cur, rfl, _⟩
 · rw [h0] at ho
   exact ⟨none, 0, by rw [h0], by rw [h0]; exact ho, hb⟩
 · exact ⟨some ⟨g, 0, none⟩, cap, rfl, ho, hb⟩
theorem SlAt.adds {w : World} {B sz n : Nat} {ad : Addr} {xs : List Value} (h : SlAt w B sz (some ad) n xs) : ∀ j u, xs[j]? = some u → w.cell? (ad.add j) = some u := by
 intro j u hu
 have hn : 0 < n := by
  rcases Nat.eq_zero_or_pos n with h0 | h0
  · subst h0
    have : xs = [] := List.eq_nil_of_length_eq_zero (by rw [h.len]; omega)
    subst this; cases hu
  · exact h0
 obtain ⟨b, off, e, hB, hr⟩ := h.at_ hn
 injection e with e
 subst e
 have := hr j u hu
 unfold Addr.add
 split
 · rename_i hj; subst hj; simpa using this
 · exact this
theorem alloc_cell {w : World} {a : Addr} {v : Value} (o : Obj) (h : w.cell? a = some v) : (w.alloc o).cell? a = some v := by
 have hlt : a.block < w.heap.size := by
  rcases Nat.lt_or_ge a.block w.heap.size with h' | h'
  · exact h'
  · simp [World.cell?, Array.getElem?_eq_none h'] at h
 rw [← h]
 have := ((Below.refl w.heap.size w).alloc (Nat.le_refl _) o).block a.block hlt
 unfold World.cell?
 rw [this]
theorem clone_job (xs : List JobD) (A : Option Addr) (n c : Nat) (w : World) (hx : SlAt w w.heap.size 5 A n (rowsV jobV xs)) (hl : xs.length = n) (hn : n ≤ 1000) :
 Calls Tryz.prog 96 #[.slice A n c] w (ClPost 38 5 jobV xs w) := by
 have qe : ∀ (w : World) (a : Option Addr) (n c n' c' : Nat), (binOp .eql 22 (.slice a n c) (.slice none n' c')).run Tryz.prog w = .ok (.bool a.isNone) w := fun w a n c n' c' => Lib.run_eql_slice_nil w _ _ a n c n' c' Tryz.underlying22
 obtain ⟨i0, hi, hz0, hz1, hz2⟩ := info_parts infoJobT
 cases A with
 | none =>
  have h0 : n = 0 := by
   rcases Nat.eq_zero_or_pos n with h | h
   · exact h
   · obtain ⟨_, _, e, _⟩ := hx.at_ h; cases e
  subst h0
  have hxs : xs = [] := List.eq_nil_of_length_eq_zero hl
  subst hxs
  clear hx hl
  go_enter Tryz.func96, Tryz.ntmps96
  go_wp2
  go_ret
  exact ⟨none, 0, rfl, World.ownsRow_nil _ _ _ _, Below.refl _ _⟩
 | some ad =>
  have hadd := hx.adds
  have hlen : (rowsV jobV xs).length = n * 5 := hx.len
  have H := hid hadd
  clear hx hadd
  go_enter Tryz.func96, Tryz.ntmps96
  go_wp2_with (at_builtin; refine wpList_append_own_at _ rfl _ _ 22 rfl w.heap.size 38 i0 (.agg #[.string ⟨#[]⟩, .int .i64 0, .int .i64 0, .int .i64 0, .string ⟨#[]⟩]) 5 56 Tryz.underlying22 hi hz0 hz1 hz2 rfl (by decide) (.slice (some ⟨w.heap.size, 0, none⟩) 0 0) 0 [] rfl (World.ownsRow_made w #[] 0 (Nat.le_refl _) (Nat.zero_le _) rfl) ad n c (rowsV jobV xs) rfl hlen (fun j u hu => by have hadd := H.out; exact alloc_cell _ (hadd j u hu)) (fun u hu => by obtain ⟨a, _, ha⟩ := List.mem_flatMap.1 hu; exact jobV_oneT a u ha) (by unfold maxLen; omega) (by omega) (by simp) ?_; intro v' w1 hown hgrow hnil hblk)
  rw [Nat.zero_add, List.nil_append] at hown
  have hfin := hid (ClPost.of_own hl hown (((Below.refl _ w).alloc (Nat.le_refl _) _).grown hgrow (by simp) (by intro k hk; simp [Value.ownBlock] at hk; omega)))
  clear hown hgrow hnil hblk
  go_wp2
  go_ret
  exact hfin.out
theorem clone_node (xs : List NodeD) (A : Option Addr) (n c : Nat) (w : World) (hx : SlAt w w.heap.size 3 A n (rowsV nodeV xs)) (hl : xs.length = n) (hn : n ≤ 1000) :
 Calls Tryz.prog 97 #[.slice A n c] w (ClPost 40 3 nodeV xs w) := by
 have qe : ∀ (w : World) (a : Option Addr) (n c n' c' : Nat), (binOp .eql 23 (.slice a n c) (.slice none n' c')).run Tryz.prog w = .ok (.bool a.isNone) w := fun w a n c n' c' => Lib.run_eql_slice_nil w _ _ a n c n' c' Tryz.underlying23
 obtain ⟨i0, hi, hz0, hz1, hz2⟩ := info_parts infoNodeT
 cases A with
 | none =>
  have h0 : n = 0 := by
   rcases Nat.eq_zero_or_pos n with h | h
   · exact h
   · obtain ⟨_, _, e, _⟩ := hx.at_ h; cases e
  subst h0
  have hxs : xs = [] := List.eq_nil_of_length_eq_zero hl
  subst hxs
  clear hx hl
  go_enter Tryz.func97, Tryz.ntmps97
  go_wp2
  go_ret
  exact ⟨none, 0, rfl, World.ownsRow_nil _ _ _ _, Below.refl _ _⟩
 | some ad =>
  have hadd := hx.adds
  have hlen : (rowsV nodeV xs).length = n * 3 := hx.len
  have H := hid hadd
  clear hx hadd
  go_enter Tryz.func97, Tryz.ntmps97
  go_wp2_with (at_builtin; refine wpList_append_own_at _ rfl _ _ 23 rfl w.heap.size 40 i0 (.agg #[.string ⟨#[]⟩, .int .i64 0, .string ⟨#[]⟩]) 3 40 Tryz.underlying23 hi hz0 hz1 hz2 rfl (by decide) (.slice (some ⟨w.heap.size, 0, none⟩) 0 0) 0 [] rfl (World.ownsRow_made w #[] 0 (Nat.le_refl _) (Nat.zero_le _) rfl) ad n c (rowsV nodeV xs) rfl hlen (fun j u hu => by have hadd := H.out; exact alloc_cell _ (hadd j u hu)) (fun u hu => by obtain ⟨a, _, ha⟩ := List.mem_flatMap.1 hu; exact nodeV_oneT a u ha) (by unfold maxLen; omega) (by omega) (by simp) ?_; intro v' w1 hown hgrow hnil hblk)
  rw [Nat.zero_add, List.nil_append] at hown
  have hfin := hid (ClPost.of_own hl hown (((Below.refl _ w).alloc (Nat.le_refl _) _).grown hgrow (by simp) (by intro k hk; simp [Value.ownBlock] at hk; omega)))
  clear hown hgrow hnil hblk
  go_wp2
  go_ret
  exact hfin.out
theorem clone_lease (xs : List LeaseD) (A : Option Addr) (n c : Nat) (w : World) (hx : SlAt w w.heap.size 3 A n (rowsV leaseV xs)) (hl : xs.length = n) (hn : n ≤ 1000) :
 Calls Tryz.prog 98 #[.slice A n c] w (ClPost 42 3 leaseV xs w) := by
 have qe : ∀ (w : World) (a : Option Addr) (n c n' c' : Nat), (binOp .eql 24 (.slice a n c) (.slice none n' c')).run Tryz.prog w = .ok (.bool a.isNone) w := fun w a n c n' c' => Lib.run_eql_slice_nil w _ _ a n c n' c' Tryz.underlying24
 obtain ⟨i0, hi, hz0, hz1, hz2⟩ := info_parts infoLeaseT
 cases A with
 | none =>
  have h0 : n = 0 := by
   rcases Nat.eq_zero_or_pos n with h | h
   · exact h
   · obtain ⟨_, _, e, _⟩ := hx.at_ h; cases e
  subst h0
  have hxs : xs = [] := List.eq_nil_of_length_eq_zero hl
  subst hxs
  clear hx hl
  go_enter Tryz.func98, Tryz.ntmps98
  go_wp2
  go_ret
  exact ⟨none, 0, rfl, World.ownsRow_nil _ _ _ _, Below.refl _ _⟩
 | some ad =>
  have hadd := hx.adds
  have hlen : (rowsV leaseV xs).length = n * 3 := hx.len
  have H := hid hadd
  clear hx hadd
  go_enter Tryz.func98, Tryz.ntmps98
  go_wp2_with (at_builtin; refine wpList_append_own_at _ rfl _ _ 24 rfl w.heap.size 42 i0 (.agg #[.string ⟨#[]⟩, .string ⟨#[]⟩, .int .i64 0]) 3 40 Tryz.underlying24 hi hz0 hz1 hz2 rfl (by decide) (.slice (some ⟨w.heap.size, 0, none⟩) 0 0) 0 [] rfl (World.ownsRow_made w #[] 0 (Nat.le_refl _) (Nat.zero_le _) rfl) ad n c (rowsV leaseV xs) rfl hlen (fun j u hu => by have hadd := H.out; exact alloc_cell _ (hadd j u hu)) (fun u hu => by obtain ⟨a, _, ha⟩ := List.mem_flatMap.1 hu; exact leaseV_oneT a u ha) (by unfold maxLen; omega) (by omega) (by simp) ?_; intro v' w1 hown hgrow hnil hblk)
  rw [Nat.zero_add, List.nil_append] at hown
  have hfin := hid (ClPost.of_own hl hown (((Below.refl _ w).alloc (Nat.le_refl _) _).grown hgrow (by simp) (by intro k hk; simp [Value.ownBlock] at hk; omega)))
  clear hown hgrow hnil hblk
  go_wp2
  go_ret
  exact hfin.out
end Go.Proofs.YtjgnnobccecpeaaGreatDoor
/- Rows of the call's own: what becomes of them where something else turns. -/
namespace Go.Proofs.YtjgnnobccecpeaaGreatDoor
open Go.Lib (hid)
open Go.RowKit
theorem ownU_below {w w' : World} {base n sz : Nat} {e : TypeId} {v : Value} {xs : List Value} (ho : w.ownsRow base e sz v n xs) (hb : Below w.heap.size w w') : w'.ownsRow base e sz v n xs := by
 rcases ho with ⟨h1, h | ⟨q, cap, cur, hv, hq, hgq, r⟩⟩
 · exact ⟨h1, .inl h⟩
 · have hlt : q < w.heap.size := (Array.getElem?_eq_some_iff.1 hgq).1
   exact ⟨h1, .inr ⟨q, cap, cur, hv, hq, (hb.block q hlt).trans hgq, r⟩⟩
theorem own_setOther {w : World} {base sz n b i : Nat} {e e' : TypeId} {v u : Value} {xs : List Value} {cs : Array Value} (ho : w.ownsRow base e sz v n xs) (hb : w.heap[b]? = some (.cells cs e' (0, 0))) (hne : e ≠ e') : (w.setCell ⟨b, i, none⟩ u).ownsRow base e sz v n xs := by
 rcases ho with ⟨h1, h | ⟨q, cap, cur, hv, hq, hgq, r⟩⟩
 · exact ⟨h1, .inl h⟩
 · refine ⟨h1, .inr ⟨q, cap, cur, hv, hq, ?_, r⟩⟩
   rw [Below.heap_setCell w ⟨b, i, none⟩ u q (fun e1 => ?_)]
   · exact hgq
   · have e1 : q = b := e1
     rw [e1, hb] at hgq
     simp only [Option.some.injEq, Obj.cells.injEq] at hgq
     exact hne hgq.2.1.symm
end Go.Proofs.YtjgnnobccecpeaaGreatDoor
/- The walk of the reference's Same. -/
namespace Go.Proofs.YtjgnnobccecpeaaGreatDoor
open Go.Lib (hid)
open Go.RowKit
def SamePost (st st' : StateD) (w : World) (e : Ending) (w' : World) : Prop := ∃ t : Bool, e = .returned (.bool t) ∧ (t = true ↔ st = st') ∧ Below w.heap.size w w'
theorem SamePost.no {st st' : StateD} {w w' : World} (h : st ≠ st') (hb : Below w.heap.size w w') : SamePost st st' w (.returned (.bool false)) w' := ⟨false, rfl, ⟨fun h => (by cases h), fun h' => absurd h' h⟩, hb⟩
theorem StAt.up {w w' : World} {st : StateD} {x : StA} (hS : StAt w w.heap.size st x) (hb : Below w.heap.size w w') : StAt w' w'.heap.size st x := (hS.below hb).more hb.size
theorem SlAt.up {w w' : World} {sz n : Nat} {A : Option Addr} {xs : List Value} (h : SlAt w w.heap.size sz A n xs) (hb : Below w.heap.size w w') : SlAt w' w'.heap.size sz A n xs := (h.below hb).more hb.size
theorem same_any (st st' : StateD) (x x' : StA) (w : World) (hS : StAt w w.heap.size st x) (hS' : StAt w w.heap.size st' x') :
 Calls Tryz.prog 13 #[.agg (stC st x), .agg (stC st' x')] w (SamePost st st' w) := by
 have hb1 : Below w.heap.size w (w.alloc (.cells (stC st x) 26)) := (Below.refl _ _).alloc (Nat.le_refl _) _
 have hb2 := hb1.alloc hb1.size (.cells (stC st' x') 26)
 have HA := hid (show Blk ((w.alloc (.cells (stC st x) 26)).alloc (.cells (stC st' x') 26)) w.heap.size 26 (stC st x) from Blk.alloc (show Blk _ _ _ _ from heap_alloc_new w _) _)
 have HB := hid (show Blk ((w.alloc (.cells (stC st x) 26)).alloc (.cells (stC st' x') 26)) (w.heap.size + 1) 26 (stC st' x') from by
  have h := heap_alloc_new (w.alloc (.cells (stC st x) 26)) (.cells (stC st' x') 26)
  rwa [show (w.alloc (.cells (stC st x) 26)).heap.size = w.heap.size + 1 by simp] at h)
 have Hb2 := hid hb2
 have HS := hid hS
 have HS' := hid hS'
 clear hb1 hb2 hS hS'
 obtain ⟨rev, jobs, nodes, leases⟩ := st
 obtain ⟨aj, nj, cj, an, nn, cn, al, nl, cl⟩ := x
 obtain ⟨rev', jobs', nodes', leases'⟩ := st'
 obtain ⟨aj', nj', cj', an', nn', cn', al', nl', cl'⟩ := x'
 unfold stC at *
 dsimp only at *
 by_cases hr : rev = rev'
 rotate_left
 · have e1 : (rev == rev') = false := beq_eq_false_iff_ne.2 hr
   have hend := hid (SamePost.no (st := ⟨rev, jobs, nodes, leases⟩) (st' := ⟨rev', jobs', nodes', leases'⟩) (fun h => hr (by injection h)) Hb2.out)
   clear hr
   go_enter Tryz.func13, Tryz.ntmps13
   go_wp2
   go_ret
   exact hend.out
 subst hr
 have C1 := hid (eq_job jobs jobs' aj aj' nj nj' cj cj' _ (HS.out.j.up Hb2.out) (HS'.out.j.up Hb2.out) HS.out.lj HS'.out.lj HS.out.bj HS'.out.bj)
 have C2 := hid (fun W (hb : Below w.heap.size w W) => eq_node nodes nodes' an an' nn nn' cn cn' W (HS.out.n.up hb) (HS'.out.n.up hb) HS.out.ln HS'.out.ln HS.out.bn HS'.out.bn)
 have C3 := hid (fun W (hb : Below w.heap.size w W) => eq_lease leases leases' al al' nl nl' cl cl' W (HS.out.l.up hb) (HS'.out.l.up hb) HS.out.ll HS'.out.ll HS.out.bl HS'.out.bl)
 go_enter Tryz.func13, Tryz.ntmps13
 go_wp2_with fail
 refine Calls.mono C1.out ?_
 rintro e w1 ⟨t, rfl, ht, hb⟩
 have hbA := Hb2.out.trans (hb.mono Hb2.out.size)
 cases t
 · have hend := hid (SamePost.no (st := ⟨rev, jobs, nodes, leases⟩) (st' := ⟨rev, jobs', nodes', leases'⟩) (fun h => absurd (ht.2 (by injection h)) (by decide)) hbA)
   clear ht hb hbA
   go_wp2
   go_ret
   exact hend.out
 have Hj := hid (ht.1 rfl)
 have HA1 := hid (HA.out.below hb HA.out.lt)
 have HB1 := hid (HB.out.below hb HB.out.lt)
 have HbA := hid hbA
 have y2 : w1.cell? ⟨w.heap.size, 2, none⟩ = some (.slice an nn cn) := HA1.out.cell 2
 have z2 : w1.cell? ⟨w.heap.size + 1, 2, none⟩ = some (.slice an' nn' cn') := HB1.out.cell 2
 clear ht hb hbA HA HB C1
 go_wp2_with fail
 refine Calls.mono (C2.out _ HbA.out) ?_
 rintro e w2 ⟨t, rfl, ht, hb⟩
 have hbA := HbA.out.trans (hb.mono HbA.out.size)
 cases t
 · have hend := hid (SamePost.no (st := ⟨rev, jobs, nodes, leases⟩) (st' := ⟨rev, jobs', nodes', leases'⟩) (fun h => absurd (ht.2 (by injection h)) (by decide)) hbA)
   clear ht hb hbA
   go_wp2
   go_ret
   exact hend.out
 have Hn := hid (ht.1 rfl)
 have HA2 := hid (HA1.out.below hb HA1.out.lt)
 have HB2 := hid (HB1.out.below hb HB1.out.lt)
 have HbB := hid hbA
 clear y2 z2
 have y3 : w2.cell? ⟨w.heap.size, 3, none⟩ = some (.slice al nl cl) := HA2.out.cell 3
 have z3 : w2.cell? ⟨w.heap.size + 1, 3, none⟩ = some (.slice al' nl' cl') := HB2.out.cell 3
 clear ht hb hbA HA1 HB1 C2
 go_wp2_with fail
 refine Calls.mono (C3.out _ HbB.out) ?_
 rintro e w3 ⟨t, rfl, ht, hb⟩
 have hbA := HbB.out.trans (hb.mono HbB.out.size)
 have hend := hid (show SamePost ⟨rev, jobs, nodes, leases⟩ ⟨rev, jobs', nodes', leases'⟩ w (.returned (.bool t)) w3 from ⟨t, rfl, ⟨fun h => by rw [Hj.out, Hn.out, ht.1 h], fun h => ht.2 (by injection h)⟩, hbA⟩)
 clear ht hb hbA
 go_wp2
 go_ret
 exact hend.out
end Go.Proofs.YtjgnnobccecpeaaGreatDoor
