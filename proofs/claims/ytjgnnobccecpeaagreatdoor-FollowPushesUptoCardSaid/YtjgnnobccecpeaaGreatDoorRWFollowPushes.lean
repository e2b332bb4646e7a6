/- Of the proof of a statement: WFollowPushes, ArgPcs. -/
import Derived.Deep.Strs
import Derived.Test.YtjgnnobccecpeaaGreatDoorRRFol
set_option linter.unusedVariables false
set_option linter.unusedSimpArgs false
set_option maxRecDepth 100000
set_option maxHeartbeats 8000000
/- The walk of the law FollowPushes. -/
namespace Go.Proofs.YtjgnnobccecpeaaGreatDoor
open Go.Lib (hid)
open Go.RowKit
theorem frameF_ok {cur : Option StateD} {f : FrameM} (h : Okay cur) : Okay (frameF cur f).1 := by
 unfold frameF
 split
 · split
   · split
     · rename_i h0
       intro s hs
       injection hs with hs
       subst hs
       exact decF_chk (b := f.pay) (v := 3) (by rw [← h0])
     · intro s hs; cases hs
   · split
     · cases cur with
       | none => intro s hs; cases hs
       | some s0 =>
        simp only
        split
        · split
          · rename_i h0
            intro s hs
            injection hs with hs
            subst hs
            exact applyF_chk (s := s0) (d := (decDF f.pay).1) (by rw [← h0])
          · intro s hs; cases hs
        · intro s hs; cases hs
     · exact h
 · exact h
theorem runF_ok (fs : List FrameM) : ∀ (cur : Option StateD) (z : Int), Okay cur → Okay (fs.foldl stepF (cur, z)).1 := by
 induction fs with
 | nil => intro cur z h; exact h
 | cons f fs ih => intro cur z h; rw [List.foldl_cons]; exact ih _ _ (frameF_ok h)
theorem pushF_ok {F : FolD} {p : ByteArray} (h : Okay F.st) : Okay (pushF F p).1.st := by
 by_cases hs : F.stuck = 0
 · rw [pushF_go hs]
   exact runF_ok _ _ _ h
 · rw [pushF_stuck hs]; exact h
theorem push_x : (pushF ⟨⟨#[]⟩, 0, 0, none⟩ ⟨#[120]⟩).2.2 = 4 := by
 rw [pushF_go rfl]
 have hf := frsF_is ((⟨#[]⟩ : ByteArray) ++ ⟨#[120]⟩)
 generalize frsF ((⟨#[]⟩ : ByteArray) ++ ⟨#[120]⟩) = r at hf ⊢
 obtain ⟨fs, m, e⟩ := r
 have hx : fdecF ((⟨#[]⟩ : ByteArray) ++ ⟨#[120]⟩) = (.zero, 0, 4) := decF_head (decH_0 (by decide) (by decide)) (by decide)
 simp only at hf ⊢
 cases hf with
 | stop hd he =>
  rw [hx] at hd
  injection hd with _ hd
  injection hd with _ hd
  subst hd
  rfl
 | step hd =>
  rw [hx] at hd
  injection hd with _ hd
  injection hd with _ hd
  cases hd
def FwInv (ps : List ByteArray) (n : Nat) (w : World) (mv ev i : Value) (wr : World) : Prop :=
 ∃ (k : Nat) (F : FolD) (ms es : List Int), k ≤ n ∧ i = .int .i64 (k : Int) ∧ folF (ps.take k) = (F, ms, es) ∧ FolIs wr (w.heap.size + 1) w.heap.size F ∧ TwoAt wr (w.heap.size + 2) mv ev ms es ∧ Below w.heap.size w wr ∧ F.rest.size + F.far ≤ sizes (ps.take k) ∧ Okay F.st
theorem FolIs.below {w w' : World} {fb gb : Nat} {F : FolD} (h : FolIs w fb gb F) (hb : Below w.heap.size w w') : FolIs w' fb gb F := by
 obtain ⟨p, h1, h2, h3⟩ := h
 exact ⟨p, Blk.below h1 hb (Blk.lt h1), h2.below hb, Blk.below h3 hb (Blk.lt h3)⟩
theorem blk_pushed {w w' : World} {B k : Nat} {e t : TypeId} {v v' : Value} {zs : List Int} {cs : Array Value} (hr : NumRow w B e v zs) (hp : Pushed w w' B v v') (he : e ≠ t) (h : Blk w k t cs) : Blk w' k t cs := by
 refine (hp.grew.grown.block k h.lt (fun e1 => ?_)).trans h
 rcases hr with ⟨rfl, _⟩ | ⟨g, more, rfl, _, _, hb⟩
 · cases e1
 · injection e1 with e1
   subst e1
   unfold Blk at h hb
   rw [h] at hb
   injection hb with hb
   injection hb with _ hb _
   exact he hb.symm
theorem FolIs.pushed {w w' : World} {fb gb B : Nat} {e : TypeId} {v v' : Value} {zs : List Int} {F : FolD} (h : FolIs w fb gb F) (hr : NumRow w B e v zs) (hp : Pushed w w' B v v') (hB : B ≤ w.heap.size) (hf : fb < B) (hg : gb < B) (he : e ≠ 26) : FolIs w' fb gb F := by
 obtain ⟨p, h1, h2, h3⟩ := h
 have hb := hp.below hr hB
 refine ⟨p, Blk.below h1 hb hf, ?_, Blk.below h3 hb hg⟩
 cases hs : F.st with
 | none => rw [hs] at h2; exact h2
 | some s =>
  rw [hs] at h2
  obtain ⟨sb, x, e1, h4, h5⟩ := h2
  exact ⟨sb, x, e1, blk_pushed hr hp he h4, (h5.pushed hp).more hb.size⟩
def FwPost (w : World) (e : Ending) (w' : World) : Prop := e = .returned (.bool true) ∧ Below w.heap.size w w'
theorem walkFollowPushes (ps : List ByteArray) (A : Option Addr) (n c : Nat) (w : World) (hx : SlAt w w.heap.size 1 A n (ps.map Value.string)) (hl : ps.length = n) (hsum : sizes ps + ps.length ≤ 1048576) (hT : Tabs w) :
 Calls Tryz.prog 6 #[.slice A n c] w (FwPost w) := by
 have hn : n ≤ 1048576 := by omega
 have Hl := hid hl
 have Hs := hid (show sizes ps ≤ 1048576 from by omega)
 have Hx := hid hx
 have HT := hid hT
 clear hl hsum hx hT
 go_enter Tryz.func6, Tryz.ntmps6
 go_wp2_with fail
 refine Calls.mono (fnew_any w) ?_
 rintro e w1 ⟨rfl, hF1, hG1, hb1⟩
 have hz1 : w.heap.size + 2 ≤ w1.heap.size := by have := Blk.lt hF1; omega
 have HI1 := hid (show FolIs w1 (w.heap.size + 1) w.heap.size ⟨⟨#[]⟩, 0, 0, none⟩ from ⟨_, hF1, rfl, hG1⟩)
 have HB1 := hid hb1
 clear hF1 hG1 hb1
 go_wp2
 go_loopw [4, 5, 23] (fun mv ev i wr => FwInv ps n w mv ev i wr) (fun _ _ i _ => n - (intOf i).toNat)
 case atStart => exact ⟨0, ⟨⟨#[]⟩, 0, 0, none⟩, [], [], Nat.zero_le _, rfl, rfl, HI1.out, TwoAt.nil _ _, HB1.out, Nat.zero_le _, fun s h => by cases h⟩
 case round =>
  obtain ⟨k, F, ms, es, hk, rfl, hfo, hI, hTw, hb, hsz, hok⟩ := hrel
  have hml := (folF_len (ps.take k)).1
  have hel := (folF_len (ps.take k)).2
  rw [hfo] at hml hel
  have hmz : ms.length ≤ 1048576 := by rw [show ms.length = _ from hml, List.length_take]; omega
  have hez : es.length ≤ 1048576 := by rw [show es.length = _ from hel, List.length_take]; omega
  have HI := hid hI
  have HTw := hid hTw
  have Hb := hid hb
  have hzr : w.heap.size + 2 ≤ wr.heap.size := by obtain ⟨p, h1, _⟩ := hI; have := Blk.lt h1; omega
  by_cases hlt : k < n
  · obtain ⟨p, hp⟩ : ∃ p, ps[k]? = some p := ⟨_, List.getElem?_eq_getElem (by rw [Hl.out]; exact hlt)⟩
    have hst := sizes_take hp
    have hle := sizes_le ps (k + 1)
    have hss := Hs.out
    have hfs := folF_snoc hp
    rw [hfo] at hfs
    unfold folS at hfs
    obtain ⟨b0, off0, u0, rfl, hb0, hu0, hc0⟩ := (Hx.out.below hb).cell (j := k) (by omega)
    rw [List.getElem?_map, hp] at hu0
    injection hu0 with hu0
    subst hu0
    have Hcall := hid (fpush_any (s := p) hI (by omega) HT.out hb (by omega) (by omega) (by rw [ByteArray.size_append]; omega) (by omega))
    have Hsz := hid (show (pushF F p).1.rest.size + (pushF F p).1.far ≤ sizes (ps.take (k + 1)) from by have := pushF_size (F := F) (p := p) hsz; omega)
    have Hok := hid (pushF_ok (p := p) hok)
    generalize pushF F p = r at *
    obtain ⟨F2, q, E⟩ := r
    simp only at *
    have Hfs := hid hfs
    clear hI hTw hb hfo hfs hst hp hok hsz hml hel
    go_wp2_with fail
    refine Calls.mono Hcall.out ?_
    rintro e w2 ⟨rfl, hg2, hI2⟩
    have HI2 := hid hI2
    have HT2 := hid (HTw.out.grown2 hg2 (by omega) (by omega))
    have HB2 := hid (hg2.below Hb.out (by omega) (by omega))
    have hz2 := hg2.size
    clear Hcall hI2 hg2 hc0
    go_wp2_with (first
     | (at_builtin; refine push_num rfl _ _ 64 3 rfl Tryz.underlying64 infoInt (w.heap.size + 2) _ ms rfl HT2.out.rm (_) _ (by simp) rfl (by omega) (by omega) ?_; intro v3 w3 ho3 hg3; have K3 := hid (two_keep HT2.out.re hg3.grew HT2.out.d); have H3 := hid ho3; have G3 := hid hg3; have hz3 := hg3.grew.grown.size; clear ho3 hg3)
     | (at_builtin; refine push_num rfl _ _ 65 29 rfl Tryz.underlying65 infoErrno (w.heap.size + 2) _ es rfl K3.out.1 (_) _ (by simp) rfl (by omega) (by omega) ?_; intro v4 w4 ho4 hg4; have H4 := hid ho4; have G4 := hid hg4; clear ho4 hg4))
    have b3 := G3.out.below HT2.out.rm (by omega)
    have b4 := G4.out.below K3.out.1 (by omega)
    have Hv := hid (show FwInv ps n w _ _ (.int .i64 ((k + 1 : Nat) : Int)) _ from ⟨k + 1, F2, _, _, hlt, rfl, Hfs.out, ((HI2.out.pushed HT2.out.rm G3.out (by omega) (by omega) (by omega) (by decide)).pushed K3.out.1 G4.out (by omega) (by omega) (by omega) (by decide)), HT2.out.push H3.out G3.out H4.out G4.out, HB2.out.trans ((b3.trans b4).mono (by omega)), Hsz.out, Hok.out⟩)
    clear b3 b4
    go_roundw
    case rel => exact Hv.out
    case measure => simp [intOf]; omega
  · obtain rfl : k = n := by omega
    have hps : ps.take k = ps := List.take_of_length_le (by rw [Hl.out]; omega)
    rw [hps] at hfo hsz
    obtain ⟨Am, cm, rfl, -⟩ := hTw.rm.slAt
    obtain ⟨Ae, ce, rfl, -⟩ := hTw.re.slAt
    have Hfo := hid hfo
    have Hcall := hid (fstate_any hI hok)
    clear hI hTw hb hfo hsz hok hml hel hps
    go_wp2_with fail
    refine Calls.mono Hcall.out ?_
    rintro e w2 ⟨x, rfl, hA, hb2⟩
    obtain ⟨S, hS⟩ : ∃ S, saidF F.st = S := ⟨_, rfl⟩
    rw [hS] at hA ⊢
    obtain ⟨srev, sj, sn, sl⟩ := S
    obtain ⟨aj, nj, cj, an, nn, cn, al, nl, cl⟩ := x
    obtain ⟨W2, hW2⟩ : ∃ W2, w2.alloc (.cells #[.int .i64 srev, .slice aj nj cj, .slice an nn cn, .slice al nl cl] 26) = W2 := ⟨_, rfl⟩
    have hbW : Below w2.heap.size w2 W2 := by rw [← hW2]; exact (Below.refl _ _).alloc (Nat.le_refl _) _
    have HB1 := hid (show Blk W2 w2.heap.size 26 #[.int .i64 srev, .slice aj nj cj, .slice an nn cn, .slice al nl cl] from by rw [← hW2]; exact heap_alloc_new w2 _)
    have HA := hid ((hA.below hbW).more hbW.size)
    have HTw2 := hid (HTw.out.below (hb2.trans (hbW.mono hb2.size)))
    have HBW := hid (Hb.out.trans ((hb2.trans (hbW.mono hb2.size)).mono Hb.out.size))
    have HS := hid hS
    have HW2 := hid hW2
    have hsz2 := hb2.size
    clear Hcall hA hb2 hbW hS hW2
    simp only [stC]
    go_wp2_with fail
    rw [HW2.out]
    refine Calls.mono (rfollow_any ps A k c W2 ((Hx.out.below HBW.out).more HBW.out.size) Hl.out Hs.out hn) ?_
    rintro e w4 ⟨x, mv, ev, rfl, hA4, hTw4, hb4⟩
    rw [Hfo.out] at hA4 hTw4 ⊢
    simp only at hA4 hTw4 ⊢
    rw [HS.out] at hA4 ⊢
    obtain ⟨bj, mj, ej, bn, mn, en, bl, ml, el⟩ := x
    obtain ⟨Bm, dm, rfl, -⟩ := hTw4.rm.slAt
    obtain ⟨Be, de, rfl, -⟩ := hTw4.re.slAt
    obtain ⟨W4, hW4⟩ : ∃ W4, w4.alloc (.cells #[.int .i64 srev, .slice bj mj ej, .slice bn mn en, .slice bl ml el] 26) = W4 := ⟨_, rfl⟩
    have hbW : Below w4.heap.size w4 W4 := by rw [← hW4]; exact (Below.refl _ _).alloc (Nat.le_refl _) _
    have hb24 := hb4.trans (hbW.mono hb4.size)
    have HB2 := hid (show Blk W4 w4.heap.size 26 #[.int .i64 srev, .slice bj mj ej, .slice bn mn en, .slice bl ml el] from by rw [← hW4]; exact heap_alloc_new w4 _)
    have HB1 := hid (HB1.out.below hb24 HB1.out.lt)
    have HA := hid ((HA.out.below hb24).more hb24.size)
    have HA2 := hid ((hA4.below hbW).more hbW.size)
    have HTwA := hid (HTw2.out.below hb24)
    have HTwB := hid (hTw4.below hbW)
    have HBW4 := hid (HBW.out.trans (hb24.mono HBW.out.size))
    have hl1 := HB1.out.lt
    have HW4 := hid hW4
    have hsz4 := hb4.size
    clear hA4 hTw4 hb4 hbW hb24 hW4
    simp only [stC]
    go_wp2_with fail
    rw [HW4.out]
    refine Calls.mono (fnew_any W4) ?_
    rintro e w5 ⟨rfl, hF5, hG5, hb5⟩
    have hI5 : FolIs w5 (W4.heap.size + 1) W4.heap.size ⟨⟨#[]⟩, 0, 0, none⟩ := ⟨_, hF5, rfl, hG5⟩
    have Hcall := hid (fpush_any (s := ⟨#[120]⟩) hI5 (by omega) (HT.out.below HBW4.out) hb5 (by omega) (by omega) (by rw [ByteArray.size_append]; decide) (by decide))
    have HB5 := hid hb5
    clear hF5 hG5 hb5 hI5
    go_wp2_with fail
    refine Calls.mono Hcall.out ?_
    rintro e w6 ⟨rfl, hg6, -⟩
    have hb6 := hg6.below HB5.out (by omega) (by omega)
    have HB1 := hid (HB1.out.below hb6 HB1.out.lt)
    have HB2 := hid (HB2.out.below hb6 HB2.out.lt)
    have HA := hid ((HA.out.below hb6).more hb6.size)
    have HA2 := hid ((HA2.out.below hb6).more hb6.size)
    have HTwA := hid (HTwA.out.below hb6)
    have HTwB := hid (HTwB.out.below hb6)
    have HBW6 := hid (HBW4.out.trans (hb6.mono HBW4.out.size))
    rw [push_x]
    generalize (pushF ⟨⟨#[]⟩, 0, 0, none⟩ ⟨#[120]⟩).2.1 = qx
    clear hg6 hb6 Hcall
    obtain ⟨s0, s1, s2, s3⟩ := Blk.c4 (HB1.out)
    obtain ⟨r0, r1, r2, r3⟩ := Blk.c4 (HB2.out)
    go_wp2_with fail
    refine Calls.mono (same_any ⟨srev, sj, sn, sl⟩ ⟨srev, sj, sn, sl⟩ ⟨aj, nj, cj, an, nn, cn, al, nl, cl⟩ ⟨bj, mj, ej, bn, mn, en, bl, ml, el⟩ w6 HA.out HA2.out) ?_
    rintro e w7 ⟨tt, rfl, ht, hb7⟩
    obtain rfl : tt = true := ht.2 rfl
    have HmA := hid (HTwA.out.below hb7)
    have HmB := hid (HTwB.out.below hb7)
    have Hfin := hid (show FwPost w (.returned (.bool true)) w7 from ⟨rfl, HBW6.out.trans (hb7.mono HBW6.out.size)⟩)
    clear ht hb7 s0 s1 s2 s3 r0 r1 r2 r3
    obtain ⟨A1, c1, e1, hs1⟩ := HmA.out.rm.slAt
    obtain ⟨A2, c2, e2, hs2⟩ := HmB.out.rm.slAt
    obtain ⟨A3, c3, e3, hs3⟩ := HmA.out.re.slAt
    obtain ⟨A4, c4, e5, hs4⟩ := HmB.out.re.slAt
    cases e1
    cases e2
    cases e3
    cases e5
    have h1 := eq_int_any ms ms Am Bm _ _ cm dm _ w7 hs1 hs2 (by omega) (by omega)
    have h2 := eq_err_any es es Ae Be _ _ ce de _ w7 hs3 hs4 (by omega) (by omega)
    rw [show decide (ms = ms) = true from decide_eq_true rfl] at h1
    rw [show decide (es = es) = true from decide_eq_true rfl] at h2
    have E1 := hid h1
    have E2 := hid h2
    clear hs1 hs2 hs3 hs4 h1 h2
    go_wp2_with fail
    refine Calls.mono E1.out ?_
    rintro e w8 ⟨rfl, rfl⟩
    go_wp2_with fail
    refine Calls.mono E2.out ?_
    rintro e w8 ⟨rfl, rfl⟩
    go_wp2
    go_ret
    exact Hfin.out
end Go.Proofs.YtjgnnobccecpeaaGreatDoor
/- An argument []string, opened. -/
namespace Go.Proofs.YtjgnnobccecpeaaGreatDoor
open Go.Lib (hid)
open Go.ChangeShapes Go.WideShapes Go.ChangeAt Go.RowKit
theorem bulk_pcs {H : Type} : ∀ l : List ByteArray, sizes l + l.length ≤ Rows.uptoBulkAll (H := H) (l.map fun s => .lit (.string s.data.toList))
 | [] => Nat.zero_le _
 | s :: l => by
  have := bulk_pcs (H := H) l
  have e : s.data.toList.length = s.size := by rw [Array.length_toList]; rfl
  simp only [List.map_cons, Rows.uptoBulkAll, Rows.uptoBulk, sizes, List.sum_cons, List.length_cons] at this ⊢
  omega
theorem open_arg_pcs {H : Type} {enc : TypeId × Value → H} {W : World} {r : Reach} {b0 : Nat} {held : Bool} {v : Value} {d : DataW H} {p : List MemPlace}
 (hval : Value.okWide Tryz.prog W r b0 47 v) (hd : DataW.Trod enc Tryz.prog W 0 (fun _ => true) held 47 v d p) (hlt : ∀ x ∈ p, x.block < W.heap.size) :
 ∃ (ps : List ByteArray) (A : Option Addr) (n c : Nat), v = .slice A n c ∧ ps.length = n ∧ n ≤ 9223372036854775807 ∧ SlAt W W.heap.size 1 A n (ps.map Value.string) ∧ sizes ps + ps.length ≤ Rows.uptoBulk d := by
 obtain ⟨A, n, c, rfl⟩ := okWide_slice Tryz.underlying47 hval
 obtain ⟨fuel, hf⟩ := hd
 rcases Go.Deep.open_strs Tryz.underlying47 Tryz.underlying9 (by kernel_rfl) hf with ⟨h, -⟩ | ⟨a, len, cap, m, Sx, h, hb, hl, hm, hmm, hx, hc⟩
 · simp only [Value.cells, List.cons.injEq, Value.slice.injEq, and_true] at h
   obtain ⟨rfl, rfl, rfl⟩ := h
   exact ⟨[], none, 0, 0, rfl, rfl, by omega, SlAt.nil, Nat.zero_le _⟩
 · simp only [Value.cells, List.cons.injEq, Value.slice.injEq, and_true] at h
   obtain ⟨rfl, rfl, rfl⟩ := h
   simp only [if_true] at hmm
   subst hmm
   simp only [Prod.mk.injEq] at hx
   obtain ⟨rfl, rfl⟩ := hx
   refine ⟨(List.range n).map Sx, some a, n, m, rfl, by simp, by unfold maxLen at hm; omega, ⟨by simp, fun hn => ?_⟩, ?_⟩
   · obtain ⟨b, off, spot⟩ := a
     have h0 := (hc 0 (by omega)).1
     have hspot : spot = none := by simpa [Addr.add] using World.cell?_spot h0
     subst hspot
     refine ⟨b, off, rfl, ?_, fun j u hu => ?_⟩
     · exact hlt (.cell b off) (MemPlace.mem_row.2 ⟨0, by omega, rfl⟩)
     · have hj : j < n := by
        rcases Nat.lt_or_ge j n with h1 | h1
        · exact h1
        · rw [List.getElem?_eq_none (by simpa using h1)] at hu; cases hu
       have hg := (hc j (by omega)).1
       rw [add_plain] at hg
       rw [hg, ← hu]
       simp [hj]
   · have h1 := bulk_pcs (H := H) ((List.range n).map Sx)
     rw [List.map_map] at h1
     simp only [Rows.uptoBulk]
     have h2 : (List.range n).map ((fun s : ByteArray => (DataW.lit (.string s.data.toList) : DataW H)) ∘ Sx) = (List.range n).map fun i => .lit (.string (Sx i).data.toList) := rfl
     rw [h2] at h1
     omega
end Go.Proofs.YtjgnnobccecpeaaGreatDoor
