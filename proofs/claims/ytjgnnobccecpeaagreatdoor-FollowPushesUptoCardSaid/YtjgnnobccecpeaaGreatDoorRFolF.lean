/- Of the proof of a statement: FolF. -/
import Derived.Test.YtjgnnobccecpeaaGreatDoorRDApply
import Derived.Test.YtjgnnobccecpeaaGreatDoorRDDec
import Derived.Test.YtjgnnobccecpeaaGreatDoorRRDec
import Derived.Test.YtjgnnobccecpeaaGreatDoorRRPhQ
set_option linter.unusedVariables false
set_option linter.unusedSimpArgs false
set_option maxRecDepth 100000
set_option maxHeartbeats 8000000
/- A follower in memory; New and frame. -/
namespace Go.Proofs.YtjgnnobccecpeaaGreatDoor
open Go.Lib (hid)
open List (foldl_cons foldl_nil setIfInBounds_toArray set_cons_succ set_cons_zero)
open Go.RowKit
def FolAt (w : World) (fb gb : Nat) (p : Value) : Prop := Blk w fb 146 #[.pointer (some ⟨gb, 0, none⟩), p]
def StP (w : World) (p : Value) (cur : Option StateD) : Prop :=
 match cur with
 | none => p = .pointer none
 | some s => ∃ sb x, p = .pointer (some ⟨sb, 0, none⟩) ∧ Blk w sb 26 (stC s x) ∧ StAt w w.heap.size s x
theorem StP.below {w w' : World} {p : Value} {cur : Option StateD} (h : StP w p cur) (hb : Below w.heap.size w w') : StP w' p cur := by
 cases cur with
 | none => exact h
 | some s =>
  obtain ⟨sb, x, e, h1, h2⟩ := h
  exact ⟨sb, x, e, h1.below hb h1.lt, (h2.below hb).more hb.size⟩
theorem want_free {P : Program} {ops : Array Oper} {o : Oper} {a : Act} {w : World} {K : Act → World → Prop} {Q : Exit → Act → World → Prop} (h : o.guard = none) (ht : o.wp P a w K Q) : wantWp P ops o a w K Q := by
 unfold wantWp Region.wanted
 rw [h, if_pos rfl]
 exact ht
theorem grow_of_below {w w' : World} {row : Option Nat} (hb : Below w.heap.size w w') : w.grownBy w' row := ⟨hb.os, hb.tape, hb.output, hb.size, fun k hk _ => hb.block k hk⟩
theorem stC_noStr (st : StateD) (x : StA) : ∀ v ∈ stC st x, ∀ s, v ≠ .string s := by simp [stC]
theorem fol_noStr {gb : Nat} {p : Value} (h : ∀ s, p ≠ .string s) : ∀ v ∈ (#[.pointer (some ⟨gb, 0, none⟩), p] : Array Value), ∀ s, v ≠ .string s := by
 intro v hv s
 simp at hv
 rcases hv with rfl | rfl
 · simp
 · exact h s
theorem StP.noStr {w : World} {p : Value} {cur : Option StateD} (h : StP w p cur) : ∀ s, p ≠ .string s := by
 cases cur with
 | none => intro s e; rw [show p = _ from h] at e; cases e
 | some s0 =>
  obtain ⟨sb, x, e1, _⟩ := h
  intro s e; rw [e1] at e; cases e
def FrPost (fb gb : Nat) (cur : Option StateD) (f : FrameM) (w : World) (e : Ending) (w' : World) : Prop :=
 e = .returned (.int .i64 (frameF cur f).2) ∧ w.grownBy w' (some fb) ∧ ∃ p, FolAt w' fb gb p ∧ StP w' p (frameF cur f).1
theorem FrPost.kept {fb gb : Nat} {p : Value} {cur : Option StateD} {f : FrameM} {w w' : World} (hF : FolAt w fb gb p) (hP : StP w p cur) (h : frameF cur f = (cur, 0)) (hb : Below w.heap.size w w') : FrPost fb gb cur f w (.returned (.int .i64 0)) w' := by
 refine ⟨by rw [h], grow_of_below hb, p, hF.below hb (Blk.lt hF), ?_⟩
 rw [h]; exact hP.below hb
theorem FrPost.none_ {fb gb : Nat} {p : Value} {cur : Option StateD} {f : FrameM} {E : Int} {w w' : World} (hF : FolAt w' fb gb p) (h : frameF cur f = (none, E)) (hb : Below w.heap.size w w') : FrPost fb gb cur f w (.returned (.int .i64 E)) (w'.setCell ⟨fb, 1, none⟩ (.pointer none)) := by
 refine ⟨by rw [h], bes_set (grow_of_below hb) 1 _, .pointer none, Blk.eq (Blk.set hF 1 _) rfl, ?_⟩
 rw [h]; rfl
theorem FrPost.some_ {fb gb Sb : Nat} {p : Value} {cur : Option StateD} {f : FrameM} {st : StateD} {x : StA} {w w' : World} (hF : FolAt w' fb gb p) (h : frameF cur f = (some st, 0)) (hb : Below w.heap.size w w') (hS : Blk w' Sb 26 (stC st x)) (hA : StAt w' w'.heap.size st x) (hne : Sb ≠ fb) (hpp : ∀ s, p ≠ .string s) :
 FrPost fb gb cur f w (.returned (.int .i64 0)) ((w'.setCell ⟨fb, 1, none⟩ (.pointer none)).setCell ⟨fb, 1, none⟩ (.pointer (some ⟨Sb, 0, none⟩))) := by
 have g1 := grow_set w' fb 1 (.pointer none)
 have g2 := grow_set (w'.setCell ⟨fb, 1, none⟩ (.pointer none)) fb 1 (.pointer (some ⟨Sb, 0, none⟩))
 have hF1 : Blk (w'.setCell ⟨fb, 1, none⟩ (.pointer none)) fb 146 #[.pointer (some ⟨gb, 0, none⟩), .pointer none] := Blk.eq (Blk.set hF 1 _) rfl
 refine ⟨by rw [h], bes_set (bes_set (grow_of_below hb) 1 _) 1 _, .pointer (some ⟨Sb, 0, none⟩), Blk.eq (hF1.set 1 _) rfl, ?_⟩
 rw [h]
 refine ⟨Sb, x, rfl, grow_blk g2 (grow_blk g1 hS hne) hne, ?_⟩
 have hz : w'.heap.size ≤ ((w'.setCell ⟨fb, 1, none⟩ (.pointer none)).setCell ⟨fb, 1, none⟩ (.pointer (some ⟨Sb, 0, none⟩))).heap.size := by simp [World.setCell]
 exact ((hA.butZ hF (fol_noStr hpp) g1).butZ hF1 (by simp) g2).more hz
theorem fnew_any (w : World) : Calls Tryz.prog 21 #[] w fun e w' => e = .returned (.pointer (some ⟨w.heap.size + 1, 0, none⟩)) ∧ FolAt w' (w.heap.size + 1) w.heap.size (.pointer none) ∧ FeedAt w' w.heap.size ⟨#[]⟩ 0 0 ∧ Below w.heap.size w w' := by
 have H := hid (new_any w)
 have hb1 : Below w.heap.size w (w.alloc (.cells #[.string ⟨#[]⟩, .int .i64 0, .int .i64 0] 236)) := (Below.refl _ _).alloc (Nat.le_refl _) _
 have hs1 : (w.alloc (.cells #[.string ⟨#[]⟩, .int .i64 0, .int .i64 0] 236)).heap.size = w.heap.size + 1 := by simp
 have h2 := heap_alloc_new (w.alloc (.cells #[.string ⟨#[]⟩, .int .i64 0, .int .i64 0] 236)) (.cells #[.pointer (some ⟨w.heap.size, 0, none⟩), .pointer none] 146)
 rw [hs1] at h2
 have H2 := hid h2
 have H1 := hid (Blk.alloc (show Blk _ _ _ _ from feed_new w) (.cells #[.pointer (some ⟨w.heap.size, 0, none⟩), .pointer none] 146))
 have HB := hid (hb1.alloc hb1.size (.cells #[.pointer (some ⟨w.heap.size, 0, none⟩), .pointer none] 146))
 clear hb1 hs1 h2
 go_enter Tryz.func21, Tryz.ntmps21
 go_wp2_with fail
 refine Calls.mono H.out ?_
 rintro e w1 ⟨rfl, rfl⟩
 go_wp2
 go_ret
 exact ⟨by simp, H2.out, H1.out, HB.out⟩
structure FaG where
 k : Bool
 st : StateD
 x : StA
 E : Int
def faV (fb sb : Nat) (s : StateD) (x : StA) (d : DeltaD) (y : DelA) (γ : FaG) (i : Nat) (u : Value) : Prop :=
 match i with
 | 0 => u = .pointer (some ⟨fb, 0, none⟩)
 | 1 => u = .pointer (some ⟨fb, 0, none⟩)
 | 2 => u = .pointer (some ⟨fb, 1, none⟩)
 | 3 => u = .pointer (some ⟨sb, 0, none⟩)
 | 4 => u = .pointer (some ⟨sb, 0, none⟩)
 | 5 => u = .agg (stC s x)
 | 6 => u = .agg (dC d y)
 | 7 => γ.k = true ∧ u = .tuple #[.agg (stC γ.st γ.x), .int .i64 γ.E]
 | 8 => γ.k = true ∧ u = .tuple #[.agg (stC γ.st γ.x), .int .i64 γ.E]
 | 9 => γ.k = true ∧ u = .agg (stC γ.st γ.x)
 | 10 => γ.k = true ∧ u = .int .i64 γ.E
 | 12 => γ.k = true ∧ u = .int .i64 γ.E
 | _ => True
theorem faV_tr {fb sb : Nat} {s : StateD} {x : StA} {d : DeltaD} {y : DelA} {γ γ' : FaG} (h : γ.k = false) : ∀ j v, j ≠ 7 → faV fb sb s x d y γ j v → faV fb sb s x d y γ' j v := by
 intro j v hj hh
 match j, hj, hh with
 | 0, _, h | 1, _, h | 2, _, h | 3, _, h | 4, _, h | 5, _, h | 6, _, h => exact h
 | 7, hj, _ => exact absurd rfl hj
 | 8, _, ⟨e, _⟩ | 9, _, ⟨e, _⟩ | 10, _, ⟨e, _⟩ | 12, _, ⟨e, _⟩ => rw [h] at e; cases e
 | 11, _, _ => trivial
 | _ + 13, _, _ => trivial
def faPh (W : World) (Sb : Nat) (s : StateD) (d : DeltaD) (c : Nat) (γ : FaG) (w : World) : Prop :=
 (c = 0 → γ.k = false ∧ Below W.heap.size W w) ∧ (c = 1 → γ.k = true ∧ Below W.heap.size W w ∧ applyF s d = (γ.st, γ.E) ∧ StAt w w.heap.size γ.st γ.x) ∧
 (2 ≤ c → γ.k = true ∧ applyF s d = (γ.st, γ.E) ∧ StAt w w.heap.size γ.st γ.x ∧ W.grownBy w (some Sb) ∧ Blk w Sb 26 (stC γ.st γ.x))
theorem faCell {W w : World} {Sb c b o : Nat} {s : StateD} {d : DeltaD} {γ : FaG} (h : faPh W Sb s d c γ w) (hb : b < W.heap.size) (hne : b ≠ Sb) : w.cell? ⟨b, o, none⟩ = W.cell? ⟨b, o, none⟩ := by
 match c, h with
 | 0, h => exact (h.1 rfl).2.cell (p := ⟨b, o, none⟩) hb
 | 1, h => exact (h.2.1 rfl).2.1.cell (p := ⟨b, o, none⟩) hb
 | c + 2, h => exact World.cell?_of_block ((h.2.2 (by omega)).2.2.2.1.block b hb (by simp [hne]))
theorem grow_of_grow {a b c : World} {g : Nat} (hb : Below a.heap.size a b) (hg : b.grownBy c (some g)) : a.grownBy c (some g) :=
 ⟨hg.os.trans hb.os, hg.tape.trans hb.tape, hg.output.trans hb.output, Nat.le_trans hb.size hg.size, fun k hk hne => (hg.block k (Nat.lt_of_lt_of_le hk hb.size) hne).trans (hb.block k hk)⟩
theorem decDF_from {b : ByteArray} {d : DeltaD} (h : decDF b = (d, 0)) : 0 ≤ d.from_ ∧ d.from_ ≤ 1099511627776 := by
 unfold decDF at h
 split at h
 · injection h with h1 h2; omega
 · split at h
   · injection h with h1 h2; subst h1; exact ⟨by decide, by decide⟩
   · split at h
     · rename_i h0
       injection h with h1 h2
       subst h1
       unfold deltaE at h0
       split at h0
       · omega
       · rename_i ht
         rw [Bool.not_eq_false] at ht
         unfold dTimes at ht
         simp only [Bool.and_eq_true] at ht
         exact ranged_iff.1 ht.1.1
     · injection h with h1 h2; subst h1; exact ⟨by decide, by decide⟩
theorem DelAt.butZ {W w2 : World} {B g : Nat} {t : TypeId} {cs : Array Value} {d : DeltaD} {x : DelA} (h : DelAt W B d x) (hb : Blk W g t cs) (hc : ∀ v ∈ cs, ∀ s, v ≠ .string s) (hg : W.grownBy w2 (some g)) : DelAt w2 B d x :=
 { h with
   j := blk_noStr h.j hb hc (fun hn => first_of JobD.name (fun a => ⟨_, rfl⟩) h.lj hn) hg, n := blk_noStr h.n hb hc (fun hn => first_of NodeD.name (fun a => ⟨_, rfl⟩) h.ln hn) hg, l := blk_noStr h.l hb hc (fun hn => first_of LeaseD.job (fun a => ⟨_, rfl⟩) h.ll hn) hg
   gj := blk_noStr h.gj hb hc (fun hn => first_of id (fun a => ⟨_, rfl⟩) h.lgj hn) hg, gn := blk_noStr h.gn hb hc (fun hn => first_of id (fun a => ⟨_, rfl⟩) h.lgn hn) hg, gl := blk_noStr h.gl hb hc (fun hn => first_of id (fun a => ⟨_, rfl⟩) h.lgl hn) hg }
theorem frame_any (fb gb : Nat) (p : Value) (cur : Option StateD) (f : FrameM) (w : World) (hF : FolAt w fb gb p) (hP : StP w p cur) (hT : Tabs w) (hsz : f.pay.size ≤ 9223372036854775807) :
 Calls Tryz.prog 95 #[.pointer (some ⟨fb, 0, none⟩), frameV f] w (FrPost fb gb cur f w) := by
 obtain ⟨w1, hw1⟩ : ∃ w1, (w.alloc (.cells #[.int .i64 f.ver, .int .i64 f.kind, .string f.pay] 151)).alloc (.cells zSta 26) = w1 := ⟨_, rfl⟩
 have hs1 : w1.heap.size = w.heap.size + 2 := by rw [← hw1]; simp
 have hb1 : Below w.heap.size w w1 := by rw [← hw1]; exact ((Below.refl _ w).alloc (Nat.le_refl _) _).alloc (by simp) _
 have hX : Blk w1 w.heap.size 151 #[.int .i64 f.ver, .int .i64 f.kind, .string f.pay] := by rw [← hw1]; exact (show Blk (w.alloc _) w.heap.size 151 _ from heap_alloc_new w _).alloc _
 have hS : Blk w1 (w.heap.size + 1) 26 zSta := by
  rw [← hw1]
  have h := heap_alloc_new (w.alloc (.cells #[.int .i64 f.ver, .int .i64 f.kind, .string f.pay] 151)) (.cells zSta 26)
  rwa [show (w.alloc (.cells #[.int .i64 f.ver, .int .i64 f.kind, .string f.pay] 151)).heap.size = w.heap.size + 1 by simp] at h
 have hfl : fb < w.heap.size := Blk.lt hF
 have HF0 := hid hF
 have HP0 := hid hP
 have HT0 := hid hT
 have hspl : ∀ sb, p = .pointer (some ⟨sb, 0, none⟩) → cur ≠ none → sb < w.heap.size := fun sb e hc => by
  cases cur with
  | none => exact absurd rfl hc
  | some s =>
   obtain ⟨sb', x, e', h1, _⟩ := hP
   rw [e] at e'
   injection e' with e'
   injection e' with e'
   injection e' with e1
   rw [e1]; exact h1.lt
 have Hspl := hid hspl
 clear hspl
 have HB1 := hid hb1
 have HF1 := hid (show FolAt w1 fb gb p from Blk.below hF hb1 hfl)
 have HP1 := hid (hP.below hb1)
 have HS1 := hid hS
 have HX1 := hid hX
 have HT1 := hid (hT.below hb1)
 have HW := hid hw1
 have Hsz := hid hsz
 have x0 : w1.cell? ⟨w.heap.size, 0, none⟩ = some (.int .i64 f.ver) := hX.cell 0
 have x1 : w1.cell? ⟨w.heap.size, 1, none⟩ = some (.int .i64 f.kind) := hX.cell 1
 have x2 : w1.cell? ⟨w.heap.size, 2, none⟩ = some (.string f.pay) := hX.cell 2
 have c0 : w1.cell? ⟨fb, 0, none⟩ = some (.pointer (some ⟨gb, 0, none⟩)) := Blk.cell HF1.out 0
 have c1 : w1.cell? ⟨fb, 1, none⟩ = some p := Blk.cell HF1.out 1
 unfold frameV
 obtain ⟨ver, kind, pay⟩ := f
 simp only at *
 clear hb1 hX hS hF hP hT hsz hw1
 rw [← HW.out] at x0 x1 x2 c0 c1
 go_enter Tryz.func95, Tryz.ntmps95
 by_cases hv : ver = 3
 rotate_left
 · have e1 : ((ver : Int) == 3) = false := beq_eq_false_iff_ne.2 (by omega)
   have e2 : ((ver : Int) != 3) = true := bne_iff_ne.2 (by omega)
   have hend := hid (FrPost.kept (f := ⟨ver, kind, pay⟩) HF0.out HP0.out (fr_ver hv) HB1.out)
   clear c0 c1
   go_wp2
   go_ret
   rw [HW.out]
   exact hend.out
 have e1 : ((ver : Int) == 3) = true := by rw [hv]; rfl
 have e2 : ((ver : Int) != 3) = false := by rw [hv]; rfl
 by_cases hk1 : kind = 1
 · have k1 : ((kind : Int) == 1) = true := by rw [hk1]; rfl
   have Hv := hid (And.intro hv hk1)
   clear hv hk1 c0 c1
   go_wp2_with fail
   rw [HW.out]
   refine Calls.mono (wdecode_any pay 3 w1 Hsz.out HT1.out) ?_
   rintro e w2 ⟨st, x, E, rfl, hd, hA, hb2⟩
   have HF2 := hid (show FolAt w2 fb gb p from Blk.below HF1.out hb2 (by have := Blk.lt HF1.out; exact this))
   have HS2 := hid (HS1.out.below hb2 HS1.out.lt)
   have HB2 := hid (HB1.out.trans (hb2.mono HB1.out.size))
   have hfs : fb ≠ w.heap.size + 1 := by omega
   have Hd := hid hd
   have HA := hid hA
   obtain ⟨srev, sj, sn, sl⟩ := st
   obtain ⟨aj, nj, cj, an, nn, cn, al, nl, cl⟩ := x
   simp only [stC]
   clear hd hA hb2 x0 x1 x2
   obtain ⟨r0, r1, r2, r3⟩ := Blk.c4 (HS2.out)
   obtain ⟨z0, z1, z2, z3⟩ := Blk.z4 (HS2.out)
   obtain ⟨hbl, hgr⟩ := Blk.S4 (HS2.out) (.int .i64 srev) (.slice aj nj cj) (.slice an nn cn) (.slice al nl cl)
   obtain ⟨q0, q1, q2, q3⟩ := Blk.c4 hbl
   have hF3 := grow_blk hgr HF2.out hfs
   have m1 := (show _ = (some p : Option Value) from hF3.cell 1)
   have m1z := hF3.thaw 1
   have hF4 := hF3.set 1 (.pointer none)
   have n1 := (show _ = (some (.pointer none) : Option Value) from hF4.cell 1)
   have n1z := hF4.thaw 1
   have hB3 := grow_keep HB2.out hgr (by omega)
   have hA3 := (HA.out.butZ HS2.out (by simp) hgr).more hgr.size
   by_cases hE : E = 0
   · subst hE
     have Hfin := hid (FrPost.some_ (w := w) (cur := cur) (f := ⟨ver, kind, pay⟩) hF3 (fr_state Hv.out.1 Hv.out.2 Hd.out) hB3 (show Blk _ _ _ (stC ⟨srev, sj, sn, sl⟩ ⟨aj, nj, cj, an, nn, cn, al, nl, cl⟩) from hbl) hA3 (Ne.symm hfs) HP1.out.noStr)
     clear hF3 hF4 hB3 hA3 hbl hgr q0 q1 q2 q3
     go_wp2
     go_ret
     exact Hfin.out
   · have e3 : (E == 0) = false := beq_eq_false_iff_ne.2 hE
     have e4 : (E != 0) = true := bne_iff_ne.2 hE
     have Hfin := hid (FrPost.none_ (w := w) (cur := cur) (f := ⟨ver, kind, pay⟩) hF3 (fr_stateE Hv.out.1 Hv.out.2 Hd.out hE) hB3)
     clear hF3 hF4 hB3 hA3 hbl hgr q0 q1 q2 q3 hE
     go_wp2
     go_ret
     exact Hfin.out
 have k1 : ((kind : Int) == 1) = false := beq_eq_false_iff_ne.2 (by omega)
 by_cases hk2 : kind = 2
 rotate_left
 · have k2 : ((kind : Int) == 2) = false := beq_eq_false_iff_ne.2 (by omega)
   have hend := hid (FrPost.kept (f := ⟨ver, kind, pay⟩) HF0.out HP0.out (fr_kind hv hk1 hk2) HB1.out)
   clear hv hk1 hk2
   go_wp2
   go_ret
   rw [HW.out]
   exact hend.out
 have k2 : ((kind : Int) == 2) = true := by rw [hk2]; rfl
 have Hv := hid (And.intro hv hk2)
 clear hv hk1 hk2
 cases cur with
 | none =>
  obtain rfl : p = .pointer none := HP1.out
  have hend := hid (FrPost.kept (f := ⟨ver, kind, pay⟩) HF0.out HP0.out (fr_none Hv.out.1 Hv.out.2) HB1.out)
  go_wp2
  go_ret
  rw [HW.out]
  exact hend.out
 | some s0 =>
  obtain ⟨sb, xs, rfl, hsB, hsA⟩ := HP1.out
  have hsbw := Hspl.out sb rfl (by simp)
  have HsB := hid hsB
  have HsA := hid hsA
  clear hsB hsA Hspl
  obtain ⟨wd0, hwd0⟩ : ∃ W, w1.alloc (.cells zDel 49) = W := ⟨_, rfl⟩
  have hb0 : Below w1.heap.size w1 wd0 := by rw [← hwd0]; exact (Below.refl _ _).alloc (Nat.le_refl _) _
  have hD0 : Blk wd0 (w.heap.size + 2) 49 zDel := by
   rw [← hwd0]
   have h := heap_alloc_new w1 (.cells zDel 49)
   rwa [hs1] at h
  have x2d : wd0.cell? ⟨w.heap.size, 2, none⟩ = some (.string pay) := (hb0.cell (p := ⟨w.heap.size, 2, none⟩) (by show w.heap.size < w1.heap.size; omega)).trans (HX1.out.cell 2)
  have hsd0 : wd0.heap.size = w.heap.size + 3 := by rw [← hwd0]; simp; omega
  have HBd := hid (HB1.out.trans (hb0.mono HB1.out.size))
  have HFd := hid (show FolAt wd0 fb gb _ from Blk.below HF1.out hb0 (Blk.lt HF1.out))
  have HSd := hid (HS1.out.below hb0 HS1.out.lt)
  have HDd := hid hD0
  have HsBd := hid (HsB.out.below hb0 HsB.out.lt)
  have HsAd := hid ((HsA.out.below hb0).more hb0.size)
  have HTd := hid (HT1.out.below hb0)
  have HWd := hid hwd0
  clear hb0 hD0 HF1 HS1 HsB HsA HT1 HX1 HP1 hwd0
  rw [← HWd.out, ← HW.out] at x2d
  go_wp2_with fail
  rw [HW.out, HWd.out]
  refine Calls.mono (ddecode_any pay wd0 Hsz.out HTd.out) ?_
  rintro e w2 ⟨d, y, E, rfl, hd, hDA, hb2⟩
  clear x0 x1 x2 x2d c0 c1
  have HB2 := hid (HBd.out.trans (hb2.mono HBd.out.size))
  have HF2 := hid (show FolAt w2 fb gb _ from Blk.below HFd.out hb2 (Blk.lt HFd.out))
  have HS2 := hid (HSd.out.below hb2 HSd.out.lt)
  have HD2 := hid (HDd.out.below hb2 HDd.out.lt)
  have HsB2 := hid (HsBd.out.below hb2 HsBd.out.lt)
  have HsA2 := hid ((HsAd.out.below hb2).more hb2.size)
  have Hd := hid hd
  have HDA := hid hDA
  have hs2 := hb2.size
  have hfs : fb ≠ w.heap.size + 1 := by omega
  have hfd : fb ≠ w.heap.size + 2 := by omega
  have hsS : sb ≠ w.heap.size + 1 := by omega
  have hsD : sb ≠ w.heap.size + 2 := by omega
  have hDS : w.heap.size + 2 ≠ w.heap.size + 1 := by omega
  obtain ⟨from_, to_, djobs, dnodes, dleases, ggj, ggn, ggl⟩ := d
  obtain ⟨bj, mj, ej, bn, mn, en, bl, ml, el, gj, qj, fj, gn, qn, fn, gl, ql, fl⟩ := y
  simp only [dC]
  clear hd hDA hb2 HBd HFd HSd HDd HsBd HsAd HTd HWd HW
  obtain ⟨r0, r1, r2, r3, r4, r5, r6, r7⟩ := Blk.c8 (HD2.out)
  obtain ⟨z0, z1, z2, z3, z4, z5, z6, z7⟩ := Blk.z8 (HD2.out)
  obtain ⟨hbl, hgr⟩ := Blk.S8 (HD2.out) (.int .i64 from_) (.int .i64 to_) (.slice bj mj ej) (.slice bn mn en) (.slice bl ml el) (.slice gj qj fj) (.slice gn qn fn) (.slice gl ql fl)
  obtain ⟨q0, q1, q2, q3, q4, q5, q6, q7⟩ := Blk.c8 hbl
  have hB3 := grow_keep HB2.out hgr (by omega)
  have hF3 := grow_blk hgr HF2.out hfd
  have m1 := (show _ = (some (.pointer (some ⟨sb, 0, none⟩)) : Option Value) from hF3.cell 1)
  have m1z := hF3.thaw 1
  have hF4 := hF3.set 1 (.pointer none)
  have n1 := (show _ = (some (.pointer none) : Option Value) from hF4.cell 1)
  have n1z := hF4.thaw 1
  by_cases hE : E = 0
  rotate_left
  · have e3 : (E == 0) = false := beq_eq_false_iff_ne.2 hE
    have e4 : (E != 0) = true := bne_iff_ne.2 hE
    have Hfin := hid (FrPost.none_ (w := w) (cur := some s0) (f := ⟨ver, kind, pay⟩) hF3 (fr_deltaE Hv.out.1 Hv.out.2 Hd.out hE) hB3)
    clear hF3 hF4 hB3 hbl hgr q0 q1 q2 q3 q4 q5 q6 q7 hE
    go_wp2
    go_ret
    exact Hfin.out
  subst hE
  have hfb : 0 ≤ from_ ∧ from_ ≤ 1099511627776 := decDF_from Hd.out
  have hS3 := grow_blk hgr HS2.out (Ne.symm hDS)
  have hsB3 := grow_blk hgr HsB2.out hsD
  have hsA3 := (HsA2.out.butZ HD2.out (by simp) hgr).more hgr.size
  have hDA3 := (HDA.out.butZ HD2.out (by simp) hgr).more hgr.size
  have hT3 := HT0.out.below hB3
  obtain ⟨wd, hwd⟩ : ∃ W, ((((((((w2.setCell ⟨w.heap.size + 2, 0, none⟩ (.int .i64 from_)).setCell ⟨w.heap.size + 2, 1, none⟩ (.int .i64 to_)).setCell ⟨w.heap.size + 2, 2, none⟩ (.slice bj mj ej)).setCell ⟨w.heap.size + 2, 3, none⟩ (.slice bn mn en)).setCell ⟨w.heap.size + 2, 4, none⟩ (.slice bl ml el)).setCell ⟨w.heap.size + 2, 5, none⟩ (.slice gj qj fj)).setCell ⟨w.heap.size + 2, 6, none⟩ (.slice gn qn fn)).setCell ⟨w.heap.size + 2, 7, none⟩ (.slice gl ql fl)) = W := ⟨_, rfl⟩
  rw [hwd] at hB3 hF3 hS3 hsB3 hsA3 hDA3 hbl hT3
  have HWD := hid hwd
  have HB := hid hB3
  have HF := hid (show FolAt wd fb gb (.pointer (some ⟨sb, 0, none⟩)) from hF3)
  have HSb := hid hS3
  have HsB := hid hsB3
  have HsA := hid hsA3
  have HDA := hid hDA3
  have HDb := hid (show Blk wd (w.heap.size + 2) 49 #[.int .i64 from_, .int .i64 to_, .slice bj mj ej, .slice bn mn en, .slice bl ml el, .slice gj qj fj, .slice gn qn fn, .slice gl ql fl] from hbl)
  have HT := hid hT3
  have hfl' : fb < wd.heap.size := Blk.lt HF.out
  have hsbl := HsB.out.lt
  have hSl := HSb.out.lt
  have hDl := HDb.out.lt
  have H0 : faPh wd (w.heap.size + 1) s0 ⟨from_, to_, djobs, dnodes, dleases, ggj, ggn, ggl⟩ 0 ⟨false, zeroSt, nilA, 0⟩ wd.drew := ⟨fun _ => ⟨rfl, (Below.refl _ wd).drew⟩, fun h => absurd h (by omega), fun h => absurd h (by omega)⟩
  clear hF3 hF4 hB3 hS3 hsB3 hsA3 hDA3 hbl hgr hT3 hwd m1 m1z n1 n1z
  go_wp2_with fail
  rw [HWD.out]
  clear r0 z0 q0 r1 z1 q1 r2 z2 q2 r3 z3 q3 r4 z4 q4 r5 z5 q5 r6 z6 q6 r7 z7 q7
  refine wp_region_phasesQ (n := 61) (Γ := FaG) (by kernel_rfl) (faV fb sb s0 xs ⟨from_, to_, djobs, dnodes, dleases, ggj, ggn, ggl⟩ ⟨bj, mj, ej, bn, mn, en, bl, ml, el, gj, qj, fj, gn, qn, fn, gl, ql, fl⟩) [7, 11] (fun c γ wx => faPh wd (w.heap.size + 1) s0 ⟨from_, to_, djobs, dnodes, dleases, ggj, ggn, ggl⟩ c γ wx) ⟨false, zeroSt, nilA, 0⟩ (by decide +kernel) (by decide +kernel) rfl H0 ?_ ?_
  · refine ⟨?_, ?_, ?_, ?_, ?_, ?_, ?_, ?_, ?_, ?_, ?_, ?_, ?_, trivial⟩
    · refine .inr ⟨by decide, 0, 2, by decide +kernel, by decide +kernel, fun p γ a wx hpl hph hp hk => want_free rfl ?_⟩
      have h1 := hk.k 0 rfl
      simp [go_sem, Oper.wp, execOp, Act.eval, h1]
      exact ⟨_, rfl, γ, fun _ _ _ h => h, rfl, hp⟩
    · refine .inr ⟨by decide, 0, 2, by decide +kernel, by decide +kernel, fun p γ a wx hpl hph hp hk => want_free rfl ?_⟩
      obtain ⟨u1, h1, rfl⟩ := hk.g 0 42 rfl rfl
      simp [go_sem, Oper.wp, execOp, Act.eval, h1]
      exact ⟨_, rfl, γ, fun _ _ _ h => h, rfl, hp⟩
    · refine .inr ⟨by decide, 0, 2, by decide +kernel, by decide +kernel, fun p γ a wx hpl hph hp hk => want_free rfl ?_⟩
      obtain ⟨u1, h1, rfl⟩ := hk.g 1 43 rfl rfl
      simp [go_sem, Oper.wp, execOp, Act.eval, h1]
      exact ⟨_, rfl, γ, fun _ _ _ h => h, rfl, hp⟩
    · refine .inr ⟨by decide, 0, 2, by decide +kernel, by decide +kernel, fun p γ a wx hpl hph hp hk => want_free rfl ?_⟩
      obtain ⟨u1, h1, rfl⟩ := hk.g 2 44 rfl rfl
      have hc : wx.cell? ⟨fb, 1, none⟩ = some (.pointer (some ⟨sb, 0, none⟩)) := (faCell hp hfl' hfs).trans (Blk.cell HF.out 1)
      simp [go_sem, Oper.wp, execOp, Act.eval, h1, hc]
      exact ⟨_, rfl, γ, fun _ _ _ h => h, rfl, hp⟩
    · refine .inr ⟨by decide, 0, 2, by decide +kernel, by decide +kernel, fun p γ a wx hpl hph hp hk => want_free rfl ?_⟩
      obtain ⟨u1, h1, rfl⟩ := hk.g 3 45 rfl rfl
      simp [go_sem, Oper.wp, execOp, Act.eval, h1]
      exact ⟨_, rfl, γ, fun _ _ _ h => h, rfl, hp⟩
    · refine .inr ⟨by decide, 0, 2, by decide +kernel, by decide +kernel, fun p γ a wx hpl hph hp hk => want_free rfl ?_⟩
      obtain ⟨u1, h1, rfl⟩ := hk.g 4 46 rfl rfl
      have d0 : wx.cell? ⟨sb, 0, none⟩ = some (.int .i64 s0.rev) := (faCell hp hsbl hsS).trans (HsB.out.cell 0)
      have d1 : wx.cell? ⟨sb, 1, none⟩ = some (.slice xs.aj xs.nj xs.cj) := (faCell hp hsbl hsS).trans (HsB.out.cell 1)
      have d2 : wx.cell? ⟨sb, 2, none⟩ = some (.slice xs.an xs.nn xs.cn) := (faCell hp hsbl hsS).trans (HsB.out.cell 2)
      have d3 : wx.cell? ⟨sb, 3, none⟩ = some (.slice xs.al xs.nl xs.cl) := (faCell hp hsbl hsS).trans (HsB.out.cell 3)
      simp [go_sem, Oper.wp, execOp, Act.eval, h1, d0, d1, d2, d3]
      exact ⟨_, rfl, γ, fun _ _ _ h => h, rfl, hp⟩
    · refine .inr ⟨by decide, 0, 2, by decide +kernel, by decide +kernel, fun p γ a wx hpl hph hp hk => want_free rfl ?_⟩
      have h1 := hk.k 7 rfl
      have d0 : wx.cell? ⟨w.heap.size + 2, 0, none⟩ = some (.int .i64 from_) := (faCell hp hDl hDS).trans (HDb.out.cell 0)
      have d1 : wx.cell? ⟨w.heap.size + 2, 1, none⟩ = some (.int .i64 to_) := (faCell hp hDl hDS).trans (HDb.out.cell 1)
      have d2 : wx.cell? ⟨w.heap.size + 2, 2, none⟩ = some (.slice bj mj ej) := (faCell hp hDl hDS).trans (HDb.out.cell 2)
      have d3 : wx.cell? ⟨w.heap.size + 2, 3, none⟩ = some (.slice bn mn en) := (faCell hp hDl hDS).trans (HDb.out.cell 3)
      have d4 : wx.cell? ⟨w.heap.size + 2, 4, none⟩ = some (.slice bl ml el) := (faCell hp hDl hDS).trans (HDb.out.cell 4)
      have d5 : wx.cell? ⟨w.heap.size + 2, 5, none⟩ = some (.slice gj qj fj) := (faCell hp hDl hDS).trans (HDb.out.cell 5)
      have d6 : wx.cell? ⟨w.heap.size + 2, 6, none⟩ = some (.slice gn qn fn) := (faCell hp hDl hDS).trans (HDb.out.cell 6)
      have d7 : wx.cell? ⟨w.heap.size + 2, 7, none⟩ = some (.slice gl ql fl) := (faCell hp hDl hDS).trans (HDb.out.cell 7)
      simp [go_sem, Oper.wp, execOp, Act.eval, h1, d0, d1, d2, d3, d4, d5, d6, d7]
      exact ⟨_, rfl, γ, fun _ _ _ h => h, rfl, hp⟩
    · refine .inl ⟨0, rfl, fun γ a wx hp hk => want_free rfl ?_⟩
      obtain ⟨u1, h1, rfl⟩ := hk.g 5 47 rfl rfl
      obtain ⟨u2, h2, rfl⟩ := hk.g 6 48 rfl rfl
      simp [go_sem, Oper.wp, execOp, Act.eval, h1, h2]
      obtain ⟨hkf, hbw⟩ := hp.1 rfl
      refine (apply_any s0 xs (⟨from_, to_, djobs, dnodes, dleases, ggj, ggn, ggl⟩ : DeltaD) (⟨bj, mj, ej, bn, mn, en, bl, ml, el, gj, qj, fj, gn, qn, fn, gl, ql, fl⟩ : DelA) wx ((HsA.out.below hbw).more hbw.size) ((HDA.out.below hbw).more hbw.size) (HT.out.below hbw) (by simp only; omega) (by simp only; omega)).mono ?_
      rintro e w' ⟨st, x, E, rfl, ha, hA, hb⟩
      exact ⟨_, rfl, ⟨true, st, x, E⟩, faV_tr hkf, ⟨rfl, rfl⟩, fun h => absurd h (by omega), fun _ => ⟨rfl, hbw.trans (hb.mono hbw.size), ha, hA⟩, fun h => absurd h (by omega)⟩
    · refine .inr ⟨by decide, 0, 2, by decide +kernel, by decide +kernel, fun p γ a wx hpl hph hp hk => want_free rfl ?_⟩
      obtain ⟨u1, h1, r1⟩ := hk.g 7 49 rfl rfl
      obtain ⟨c1, r1⟩ := (show γ.k = true ∧ u1 = _ from r1)
      subst r1
      simp [go_sem, Oper.wp, execOp, Act.eval, h1]
      exact ⟨_, rfl, γ, fun _ _ _ h => h, ⟨c1, rfl⟩, hp⟩
    · refine .inr ⟨by decide, 0, 2, by decide +kernel, by decide +kernel, fun p γ a wx hpl hph hp hk => want_free rfl ?_⟩
      obtain ⟨u1, h1, r1⟩ := hk.g 8 41 rfl rfl
      obtain ⟨c1, r1⟩ := (show γ.k = true ∧ u1 = _ from r1)
      subst r1
      simp [go_sem, Oper.wp, execOp, Act.eval, h1]
      exact ⟨_, rfl, γ, fun _ _ _ h => h, ⟨c1, rfl⟩, hp⟩
    · refine .inr ⟨by decide, 0, 2, by decide +kernel, by decide +kernel, fun p γ a wx hpl hph hp hk => want_free rfl ?_⟩
      obtain ⟨u1, h1, r1⟩ := hk.g 8 41 rfl rfl
      obtain ⟨c1, r1⟩ := (show γ.k = true ∧ u1 = _ from r1)
      subst r1
      simp [go_sem, Oper.wp, execOp, Act.eval, h1]
      exact ⟨_, rfl, γ, fun _ _ _ h => h, ⟨c1, rfl⟩, hp⟩
    · refine .inl ⟨1, rfl, fun γ a wx hp hk => want_free rfl ?_⟩
      obtain ⟨u1, h1, r1⟩ := hk.g 9 50 rfl rfl
      obtain ⟨c1, r1⟩ := (show γ.k = true ∧ u1 = _ from r1)
      subst r1
      have h2 := hk.k 5 rfl
      obtain ⟨hkk, hbw, ha, hA⟩ := hp.2.1 rfl
      have hSx := HSb.out.below hbw hSl
      obtain ⟨d0, d1, d2, d3⟩ := Blk.c4 (hSx)
      obtain ⟨z0, z1, z2, z3⟩ := Blk.z4 (hSx)
      obtain ⟨hbl, hgr⟩ := Blk.S4 (hSx) (.int .i64 γ.st.rev) (.slice γ.x.aj γ.x.nj γ.x.cj) (.slice γ.x.an γ.x.nn γ.x.cn) (.slice γ.x.al γ.x.nl γ.x.cl)
      obtain ⟨q0, q1, q2, q3⟩ := Blk.c4 hbl
      have hfin : faPh wd (w.heap.size + 1) s0 (⟨from_, to_, djobs, dnodes, dleases, ggj, ggn, ggl⟩ : DeltaD) 2 γ _ := ⟨fun h => absurd h (by omega), fun h => absurd h (by omega), fun _ => ⟨hkk, ha, (hA.butZ hSx (by simp) hgr).more hgr.size, grow_of_grow hbw hgr, (show Blk _ _ _ (stC γ.st γ.x) from hbl)⟩⟩
      clear hp hbl hgr hA hSx hbw q0 q1 q2 q3
      simp [go_sem, Oper.wp, execOp, Act.eval, h1, h2, stC, d0, d1, d2, d3, z0, z1, z2, z3]
      exact ⟨.int .i64 0, γ, fun _ _ _ h => h, trivial, hfin⟩
    · refine .inr ⟨by decide, 0, 2, by decide +kernel, by decide +kernel, fun p γ a wx hpl hph hp hk => want_free rfl ?_⟩
      obtain ⟨u1, h1, r1⟩ := hk.g 10 51 rfl rfl
      obtain ⟨c1, r1⟩ := (show γ.k = true ∧ u1 = _ from r1)
      subst r1
      simp [go_sem, Oper.wp, execOp, Act.eval, h1]
      exact ⟨_, rfl, γ, fun _ _ _ h => h, ⟨c1, rfl⟩, hp⟩
  · intro γ a wx hd
    obtain ⟨hkk, ha, hA, hg, hSx⟩ := hd.ph.2.2 (by decide)
    obtain ⟨fv, rfl, hfv⟩ := hd.frame [42, 43, 44, 45, 46, 47, 48, 49, 41, 50, 51, 6] rfl
    obtain ⟨-, h6⟩ := (show γ.k = true ∧ fv 6 = _ from hfv 12 _ 6 rfl rfl)
    have hF3 : FolAt wx fb gb (.pointer (some ⟨sb, 0, none⟩)) := grow_blk hg HF.out hfs
    have hB3 := grow_keep HB.out hg (by omega)
    have m1 : wx.cell? ⟨fb, 1, none⟩ = some (.pointer (some ⟨sb, 0, none⟩)) := Blk.cell hF3 1
    have m1z : wx.frozen? ⟨fb, 1, none⟩ = false := Blk.thaw hF3 1
    have hF4 := Blk.set hF3 1 (.pointer none)
    have n1 := (show _ = (some (.pointer none) : Option Value) from hF4.cell 1)
    have n1z := hF4.thaw 1
    simp only [foldl_cons, foldl_nil, setIfInBounds_toArray, set_cons_succ, set_cons_zero, h6]
    obtain ⟨kγ, stγ, xγ, E⟩ := γ
    simp only at ha hA hSx
    clear hd hfv h6 hkk H0
    by_cases hE : E = 0
    · subst hE
      have Hfin := hid (FrPost.some_ (w := w) (cur := some s0) (f := ⟨ver, kind, pay⟩) hF3 (fr_delta Hv.out.1 Hv.out.2 Hd.out ha) hB3 hSx hA (Ne.symm hfs) (by simp))
      clear hF3 hF4 hB3 hA hSx hg ha
      go_wp2
      go_ret
      exact Hfin.out
    · have e3 : (E == 0) = false := beq_eq_false_iff_ne.2 hE
      have e4 : (E != 0) = true := bne_iff_ne.2 hE
      have Hfin := hid (FrPost.none_ (w := w) (cur := some s0) (f := ⟨ver, kind, pay⟩) hF3 (fr_deltaA Hv.out.1 Hv.out.2 Hd.out ha hE) hB3)
      clear hF3 hF4 hB3 hA hSx hg ha hE
      go_wp2
      go_ret
      exact Hfin.out
end Go.Proofs.YtjgnnobccecpeaaGreatDoor
