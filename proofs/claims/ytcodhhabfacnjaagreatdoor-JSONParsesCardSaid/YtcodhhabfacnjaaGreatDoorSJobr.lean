/- Of the proof of a statement: Jobr. -/
import Derived.Test.YtcodhhabfacnjaaGreatDoorSJtxt
set_option linter.unusedVariables false
set_option linter.unusedSimpArgs false
/- The walk of the program's reader of JSON: object. -/
namespace Go.Proofs.YtcodhhabfacnjaaGreatDoor
open Go.RowKit
open Go.Lib (hasPrefix trimPrefix)
/-- A field's value in memory. -/
def fvV : FV → Value
  | .num n => .int .i64 n
  | .txt s => .string s
def fsV (fs : Flds) : Array Value := (fs.map fun f => fvV f.2).toArray
theorem fsV_at {fs : Flds} {k : Nat} {f : ByteArray × FV} (h : fs[k]? = some f) : (fsV fs)[k]? = some (fvV f.2) := by
  unfold fsV
  rw [List.getElem?_toArray, List.getElem?_map, h]; rfl
theorem fsV_set (a r : Flds) (f f' : ByteArray × FV) : (fsV (a ++ f :: r)).setIfInBounds a.length (fvV f'.2) = fsV (a ++ f' :: r) := by
  unfold fsV
  rw [List.setIfInBounds_toArray]
  congr 1
  rw [List.map_append, List.map_append, List.map_cons, List.map_cons, List.set_append_right _ _ (by simp)]
  simp
/-- Where the fields point: the k-th one at the k-th cell of block X. -/
def ptrP (X k : Nat) : FV → Value
  | .num _ => .pointer (some ⟨X, k, none⟩)
  | .txt _ => .pointer none
def ptrQ (X k : Nat) : FV → Value
  | .num _ => .pointer none
  | .txt _ => .pointer (some ⟨X, k, none⟩)
structure FldPt (w : World) (fb X : Nat) (fs : Flds) : Prop where
  at_ : ∀ k nm v, fs[k]? = some (nm, v) → w.cell? ⟨fb, k * 3, none⟩ = some (.string nm) ∧ w.cell? ⟨fb, k * 3 + 1, none⟩ = some (ptrP X k v) ∧ w.cell? ⟨fb, k * 3 + 2, none⟩ = some (ptrQ X k v)
theorem FldPt.two {w w' : World} {fb X g : Nat} {fs : Flds} (h : FldPt w fb X fs) (ht : Two w w' g X) (h1 : fb ≠ g) (h2 : fb ≠ X) : FldPt w' fb X fs :=
  ⟨fun k nm v hk => by
    obtain ⟨a, b, c⟩ := h.at_ k nm v hk
    have e := ht.block fb (block_lt_of_cell a) h1 h2
    exact ⟨(World.cell?_of_block e).trans a, (World.cell?_of_block e).trans b, (World.cell?_of_block e).trans c⟩⟩
theorem ErrVars.two {w w' : World} {g X : Nat} (h : ErrVars w g) (ht : Two w w' g X) (h1 : 0 ≠ X) (h2 : 1 ≠ X) : ErrVars w' g := by
  obtain ⟨⟨t, p, a⟩, ⟨t', p', b⟩, c, d⟩ := h
  exact ⟨⟨t, p, (World.cell?_of_block (ht.block _ (block_lt_of_cell a) c h1)).trans a⟩, ⟨t', p', (World.cell?_of_block (ht.block _ (block_lt_of_cell b) d h2)).trans b⟩, c, d⟩
/-- What stands on the way through the fields. -/
structure ObAt (w0 : World) (g X fb : Nat) (T : TypeId) (fs : Flds) (a : Flds) (k : Nat) (σ : JS) (w : World) : Prop where
  rd : JrOk w g σ
  x : Blk w X T (fsV (a ++ fs.drop k))
  two : Two w0 w g X
  len : a.length = k
theorem JrOk.up {w w' : World} {g : Nat} {σ : JS} (h : JrOk w g σ) (hb : Below w.heap.size w w') : JrOk w' g σ := ⟨Blk.below h.at_ hb h.at_.lt, h.err.grow (grow_below g hb), h.len⟩
theorem JrOk.other {w w' : World} {g X : Nat} {σ : JS} (h : JrOk w g σ) (hg : w.grownBy w' (some X)) (h1 : g ≠ X) (h2 : 0 ≠ X) (h3 : 1 ≠ X) : JrOk w' g σ := by
  obtain ⟨⟨t, p, a⟩, ⟨t', p', b⟩, c, d⟩ := h.err
  exact ⟨grow_blk hg h.at_ h1, ⟨⟨t, p, cell_but hg h2 a⟩, ⟨t', p', cell_but hg h3 b⟩, c, d⟩, h.len⟩
/-- A field is read: how far it has come. -/
structure O8 (w0 : World) (g X J : Nat) (T : TypeId) (csJ : Array Value) (σ σ' : JS) (xs xs' : Array Value) (p : Nat) (w : World) : Prop where
  rd : JrOk w g (if p = 0 then σ else σ')
  x : Blk w X T (if p < 2 then xs else xs')
  j : Blk w J 72 csJ
  two : Two w0 w g X
def o8V (g X k J : Nat) (c : Nat) (val : Value) : Nat → Value → Prop
  | 0, u => u = .pointer (some ⟨J, c, none⟩)
  | 1, u => u = .pointer (some ⟨X, k, none⟩)
  | 2, u => u = .pointer (some ⟨g, 0, none⟩)
  | 3, u => u = val
  | 4, u => u = .pointer (some ⟨X, k, none⟩)
  | 5, _ => True
  | _, _ => False
def ObInv (w0 : World) (g X fb : Nat) (T : TypeId) (fs : Flds) (σ0 : JS) (n : Nat) (i : Value) (wr : World) : Prop :=
  ∃ k : Nat, k ≤ n ∧ i = .int .i64 k ∧ ObAt w0 g X fb T fs ((fs.take k).foldl fldJ ([], mustJ [123] σ0)).1 k ((fs.take k).foldl fldJ ([], mustJ [123] σ0)).2 wr
theorem Two.drew {w w' : World} {a b : Nat} (h : Two w w' a b) : Two w w'.drew a b := ⟨h.os, h.tape, h.output, h.size, h.block⟩
theorem take_snocJG {α : Type} {l : List α} {k : Nat} {c : α} (h : l[k]? = some c) : l.take (k + 1) = l.take k ++ [c] := by
  obtain ⟨hlt, rfl⟩ := List.getElem?_eq_some_iff.1 h
  exact (List.take_append_getElem hlt).symm
set_option maxRecDepth 100000 in
set_option maxHeartbeats 8000000 in
theorem jobject_any (g : Nat) (σ : JS) (fb X n : Nat) (T : TypeId) (fs : Flds) (w : World) (h : JrOk w g σ) (hX : Blk w X T (fsV fs)) (hF : FldPt w fb X fs) (hn : fs.length = n) (h5 : n ≤ 5) (hnm : ∀ f ∈ fs, f.1.size ≤ 100)
    (hXg : X ≠ g) (hfg : fb ≠ g) (hfX : fb ≠ X) (hE1 : 0 ≠ X) (hE2 : 1 ≠ X) :
    Calls Tryz.prog 31 #[.pointer (some ⟨g, 0, none⟩), .slice (some ⟨fb, 0, none⟩) n n] w fun e w' => e = .returned (.tuple #[]) ∧ JrOk w' g (objJ fs σ).2 ∧ Blk w' X T (fsV (objJ fs σ).1) ∧ Two w w' g X := by
  have HM0 := Lib.hid (jmust_any g σ ⟨#[123]⟩ w h)
  rw [show (⟨#[123]⟩ : ByteArray).data.toList = [123] from rfl] at HM0
  have hgX : g ≠ X := Ne.symm hXg
  have HX0 := Lib.hid hX
  have HF := Lib.hid hF
  have HN := Lib.hid hnm
  have Hn := Lib.hid hn
  clear h hX hF hnm hn
  go_enter Tryz.func31, Tryz.ntmps31
  go_wp2_with fail
  refine Calls.mono HM0.out ?_
  rintro e w1 ⟨rfl, hR1, hg1⟩
  have HO1 := Lib.hid (show ObAt w g X fb T fs [] 0 (mustJ [123] σ) w1 from ⟨hR1, by rw [List.drop_zero, List.nil_append]; exact grow_blk hg1 HX0.out hXg, (Two.refl w g X).fst hg1, rfl⟩)
  clear hR1 hg1 HM0
  go_wp2_with fail
  go_loopw [10] (fun i wr => ObInv w g X fb T fs σ n i wr) (fun i _ => n - (intOf i).toNat)
  case atStart => exact ⟨0, Nat.zero_le _, rfl, HO1.out⟩
  case round =>
    clear HO1
    obtain ⟨k, hk, rfl, hO⟩ := hrel
    obtain ⟨⟨a1, a2⟩, ha⟩ : ∃ a, (fs.take k).foldl fldJ ([], mustJ [123] σ) = a := ⟨_, rfl⟩
    rw [ha] at hO
    replace hO : ObAt w g X fb T fs a1 k a2 wr := hO
    by_cases hlt : k < n
    · obtain ⟨⟨nm, v⟩, hf⟩ : ∃ f, fs[k]? = some f := ⟨_, List.getElem?_eq_getElem (by have := Hn.out; omega)⟩
      have hsz : nm.size ≤ 100 := HN.out _ (List.mem_of_getElem? hf)
      obtain ⟨x0, x1, x2⟩ := (HF.out.two hO.two hfg hfX).at_ k nm v hf
      have hfl := block_lt_of_cell x0
      have HL := Lib.hid hO.len
      cases v with
      | num x =>
        replace x1 : wr.cell? ⟨fb, k * 3 + 1, none⟩ = some (.pointer (some ⟨X, k, none⟩)) := x1
        replace x2 : wr.cell? ⟨fb, k * 3 + 2, none⟩ = some (.pointer none) := x2
        have HJ := Lib.hid (show Blk (wr.alloc (.cells #[.string nm, .pointer (some ⟨X, k, none⟩), .pointer none] 72)) wr.heap.size 72 #[.string nm, .pointer (some ⟨X, k, none⟩), .pointer none] from heap_alloc_new wr _)
        have HR1 := Lib.hid (hO.rd.up ((Below.refl wr.heap.size wr).alloc (Nat.le_refl _) (.cells #[.string nm, .pointer (some ⟨X, k, none⟩), .pointer none] 72)))
        by_cases hk0 : k = 0
        · skip
          subst hk0
          simp only [Nat.zero_mul, Nat.zero_add] at x0 x1 x2
          obtain ⟨σA, hσA⟩ : ∃ σA, (if a1 = [] then a2 else mustJ [44] a2) = σA := ⟨_, rfl⟩
          obtain ⟨σB, hσB⟩ : ∃ σB, mustJ (quoteL nm.data.toList ++ [58]) σA = σB := ⟨_, rfl⟩
          have Hst := Lib.hid (show (fs.take (0 + 1)).foldl fldJ ([], mustJ [123] σ) = (a1 ++ [(nm, .num (numEnd σB).1)], (numEnd σB).2) from by
            rw [take_snocJG hf, List.foldl_append, ha]
            show fldJ (a1, a2) (nm, .num x) = _
            unfold fldJ
            simp only
            rw [hσA, hσB]
            rfl)
          have hA : σA = a2 := by rw [← hσA, if_pos (List.length_eq_zero_iff.1 hO.len)]
          subst hA
          have hX1 : (fsV (a1 ++ fs.drop 0))[0]? = some (.int .i64 x) := by
            have := fsV_at (fs := a1 ++ fs.drop 0) (k := 0) (f := (nm, .num x)) (by rw [List.getElem?_append_right (by rw [hO.len]; exact Nat.le_refl _), hO.len, Nat.sub_self, List.getElem?_drop, Nat.add_zero]; exact hf)
            exact this
          have hX2 : (fsV (a1 ++ fs.drop 0)).setIfInBounds 0 (.int .i64 (numEnd σB).1) = fsV ((a1 ++ [(nm, .num (numEnd σB).1)]) ++ fs.drop (0 + 1)) := by
            have := fsV_set a1 (fs.drop (0 + 1)) (nm, .num x) (nm, .num (numEnd σB).1)
            rw [hO.len, ← drop_cons hf] at this
            rw [List.append_assoc]
            exact this
          obtain ⟨xs, hxs⟩ : ∃ xs, fsV (a1 ++ fs.drop 0) = xs := ⟨_, rfl⟩
          obtain ⟨xs2, hxs2⟩ : ∃ xs2, fsV ((a1 ++ [(nm, .num (numEnd σB).1)]) ++ fs.drop (0 + 1)) = xs2 := ⟨_, rfl⟩
          have HXx := Lib.hid (show Blk wr X T xs from by rw [← hxs]; exact hO.x)
          rw [hxs] at hX1
          rw [hxs, hxs2] at hX2
          have Hxs2 := Lib.hid hxs2
          have HX1 := Lib.hid hX1
          have HX2 := Lib.hid hX2
          have HT1 := Lib.hid (hO.two.snd (grow_below X ((Below.refl wr.heap.size wr).alloc (Nat.le_refl _) (.cells #[.string nm, .pointer (some ⟨X, 0, none⟩), .pointer none] 72))))
          have HB1 := Lib.hid (Blk.alloc HXx.out (.cells #[.string nm, .pointer (some ⟨X, 0, none⟩), .pointer none] 72))
          have hgl := Blk.lt hO.rd.at_
          have hXl := hO.x.lt
          have hσB' := Lib.hid hσB
          clear hX1 hX2 hxs hxs2 hO hσA hσB ha hf
          have c0 := HJ.out.cell 0
          simp only [List.getElem?_toArray, List.getElem?_cons_zero] at c0
          obtain ⟨w2, hw2⟩ : ∃ w2, wr.alloc (.cells #[.string nm, .pointer (some ⟨X, 0, none⟩), .pointer none] 72) = w2 := ⟨_, rfl⟩
          rw [hw2] at HJ HR1 HT1 HB1 c0
          have HQ := Lib.hid (Quote_any nm w2 (by omega))
          have HR2 := HR1
          have HT2 := HT1
          have HB2 := HB1
          have HJ2 := HJ
          have Hw2 := Lib.hid hw2
          clear hw2
          go_wp2_with fail
          rw [Hw2.out]
          refine Calls.mono HQ.out ?_
          clear c0 x0 x1 x2
          rintro e w3 ⟨rfl, hb3⟩
          have hq1 : (⟨(quoteL nm.data.toList).toArray⟩ : ByteArray).size ≤ 602 := by show (quoteL nm.data.toList).toArray.size ≤ 602; rw [List.size_toArray]; exact quoteL_len nm hsz
          obtain ⟨qs, hqs⟩ : ∃ qs, (⟨(quoteL nm.data.toList).toArray⟩ : ByteArray) = qs := ⟨_, rfl⟩
          have Hqs := Lib.hid (show (qs ++ ⟨#[58]⟩ : ByteArray).data.toList = quoteL nm.data.toList ++ [58] from by rw [← hqs, ByteArray.toList_data_append])
          rw [hqs] at hq1 ⊢
          have hadd : ¬ 9223372036854775807 < qs.size + 1 := by omega
          have HM2 := Lib.hid (jmust_any g σA (qs ++ ⟨#[58]⟩) w3 (HR2.out.up hb3))
          rw [Hqs.out, hσB'.out] at HM2
          have HT3 := Lib.hid (HT2.out.snd (grow_below X hb3))
          have HB3 := Lib.hid (HB2.out.below hb3 HB2.out.lt)
          have HJ3 := Lib.hid (HJ2.out.below hb3 HJ2.out.lt)
          clear hb3 hqs
          go_wp2_with fail
          refine Calls.mono HM2.out ?_
          rintro e w4 ⟨rfl, hR4, hg4⟩
          have hgl4 : g < w4.heap.size := hR4.at_.lt
          have hO8 := Lib.hid (show O8 w g X wr.heap.size T #[.string nm, .pointer (some ⟨X, 0, none⟩), .pointer none] σB (numEnd σB).2 xs xs2 0 w4.drew from ⟨hR4.drew, (show Blk w4 X T _ from grow_blk hg4 HB3.out hXg), (show Blk w4 wr.heap.size _ _ from grow_blk hg4 HJ3.out (Nat.ne_of_gt hgl)), (HT3.out.fst hg4).drew⟩)
          have c1 := (grow_blk hg4 HJ3.out (Nat.ne_of_gt hgl)).cell 1
          simp only [List.getElem?_toArray, List.getElem?_cons_zero, List.getElem?_cons_succ] at c1
          clear hR4 hg4 HM2 HQ hadd hq1
          go_wp2_with fail
          clear c1
          refine wp_region_phases (Γ := Unit) (n := 41) (by kernel_rfl) (fun _ => o8V g X 0 wr.heap.size 1 (.int .i64 (numEnd σB).1)) [3, 5] (fun p _ w' => O8 w g X wr.heap.size T #[.string nm, .pointer (some ⟨X, 0, none⟩), .pointer none] σB (numEnd σB).2 xs xs2 p w') () (by decide +kernel) (by decide +kernel) rfl ?_ ?_ ?_
          · exact hO8.out
          · refine ⟨?_, ?_, ?_, ?_, ?_, ?_, trivial⟩
            · refine ⟨rfl, .inr ⟨by decide, 0, 2, by decide +kernel, by decide +kernel, fun p γ a wx hpl hph hp hk => ?_⟩⟩
              have h1 := hk.1 5 _ rfl (by decide +kernel)
              simp [go_sem, Oper.wp, execOp, Act.eval, h1]
              exact ⟨_, rfl, rfl, hp⟩
            · refine ⟨rfl, .inr ⟨by decide, 0, 2, by decide +kernel, by decide +kernel, fun p γ a wx hpl hph hp hk => ?_⟩⟩
              obtain ⟨u1, h1, r1⟩ := hk.2.1 0 _ 28 rfl rfl (by decide +kernel)
              replace r1 : u1 = _ := r1
              subst r1
              have hc : wx.cell? ⟨wr.heap.size, 1, none⟩ = some (.pointer (some ⟨X, 0, none⟩)) := hp.j.cell 1
              simp [go_sem, Oper.wp, execOp, Act.eval, h1, hc]
              exact ⟨_, rfl, rfl, hp⟩
            · refine ⟨rfl, .inr ⟨by decide, 0, 2, by decide +kernel, by decide +kernel, fun p γ a wx hpl hph hp hk => ?_⟩⟩
              have h1 := hk.1 0 _ rfl (by decide +kernel)
              simp [go_sem, Oper.wp, execOp, Act.eval, h1]
              exact ⟨_, rfl, rfl, hp⟩
            · refine ⟨rfl, .inl ⟨0, rfl, fun γ a wx hp hk => ?_⟩⟩
              obtain ⟨u1, h1, r1⟩ := hk.2.1 2 _ 30 rfl rfl (by decide +kernel)
              replace r1 : u1 = _ := r1
              subst r1
              simp [go_sem, Oper.wp, execOp, Act.eval, h1]
              refine (jnumber_any g σB wx hp.rd).mono ?_
              rintro e w' ⟨rfl, hR, hg⟩
              exact ⟨_, rfl, rfl, ⟨hR, grow_blk hg hp.x hXg, grow_blk hg hp.j (Nat.ne_of_gt hgl), hp.two.fst hg⟩⟩
            · refine ⟨rfl, .inr ⟨by decide, 1, 2, by decide +kernel, by decide +kernel, fun p γ a wx hpl hph hp hk => ?_⟩⟩
              obtain ⟨u1, h1, r1⟩ := hk.2.1 1 _ 29 rfl rfl (by decide +kernel)
              replace r1 : u1 = _ := r1
              subst r1
              simp [go_sem, Oper.wp, execOp, Act.eval, h1]
              exact ⟨_, rfl, rfl, hp⟩
            · refine ⟨rfl, .inl ⟨1, rfl, fun γ a wx hp hk => ?_⟩⟩
              obtain ⟨u1, h1, r1⟩ := hk.2.1 4 _ 32 rfl rfl (by decide +kernel)
              replace r1 : u1 = _ := r1
              subst r1
              obtain ⟨u2, h2, r2⟩ := hk.2.1 3 _ 31 rfl rfl (by decide +kernel)
              replace r2 : u2 = _ := r2
              subst r2
              have hc : wx.cell? ⟨X, 0, none⟩ = some (.int .i64 x) := (hp.x.cell 0).trans HX1.out
              have hz : wx.frozen? ⟨X, 0, none⟩ = false := hp.x.thaw 0
              have hs := grow_set wx X 0 (.int .i64 (numEnd σB).1)
              have HN : O8 w g X wr.heap.size T #[.string nm, .pointer (some ⟨X, 0, none⟩), .pointer none] σB (numEnd σB).2 xs xs2 2 (wx.setCell ⟨X, 0, none⟩ (.int .i64 (numEnd σB).1)) := ⟨hp.rd.other hs hgX hE1 hE2, Blk.eq (hp.x.set 0 _) HX2.out, grow_blk hs hp.j (Nat.ne_of_gt hXl), hp.two.snd hs⟩
              simp [go_sem, Oper.wp, execOp, Act.eval, h1, h2, hc, hz]
              exact ⟨⟨.tuple #[], trivial⟩, HN⟩
          · intro γ a wx hd
            have hp := hd.ph
            obtain ⟨fv, rfl, hfv⟩ := hd.frame [28, 29, 30, 31, 32] rfl
            have Hp := Lib.hid hp
            clear hd hp hfv hO8
            simp only [List.foldl_cons, List.foldl_nil, List.setIfInBounds_toArray, List.set_cons_succ, List.set_cons_zero]
            go_wp2_with fail
            go_roundw
            case rel => exact ⟨0 + 1, by omega, by go_num, by rw [Hst.out]; exact ⟨Hp.out.rd, (by rw [Hxs2.out]; exact Hp.out.x), Hp.out.two, by rw [List.length_append, HL.out]; rfl⟩⟩
            case measure => simp [intOf]; omega
        · skip
          have hk0 : ¬ k = 0 := hk0
          have Hk0 := Lib.hid hk0
          have dk : decide ((0 : Int) < (k : Int)) = true := decide_eq_true (by omega)
          obtain ⟨σA, hσA⟩ : ∃ σA, (if a1 = [] then a2 else mustJ [44] a2) = σA := ⟨_, rfl⟩
          obtain ⟨σB, hσB⟩ : ∃ σB, mustJ (quoteL nm.data.toList ++ [58]) σA = σB := ⟨_, rfl⟩
          have Hst := Lib.hid (show (fs.take (k + 1)).foldl fldJ ([], mustJ [123] σ) = (a1 ++ [(nm, .num (numEnd σB).1)], (numEnd σB).2) from by
            rw [take_snocJG hf, List.foldl_append, ha]
            show fldJ (a1, a2) (nm, .num x) = _
            unfold fldJ
            simp only
            rw [hσA, hσB]
            rfl)
          have hA : mustJ [44] a2 = σA := by rw [← hσA, if_neg (fun e => hk0 (by rw [← hO.len, e]; rfl))]
          have HM := Lib.hid (jmust_any g a2 ⟨#[44]⟩ (wr.alloc (.cells #[.string nm, .pointer (some ⟨X, k, none⟩), .pointer none] 72)) HR1.out)
          rw [show mustJ (⟨#[44]⟩ : ByteArray).data.toList a2 = σA from hA] at HM
          have hX1 : (fsV (a1 ++ fs.drop k))[k]? = some (.int .i64 x) := by
            have := fsV_at (fs := a1 ++ fs.drop k) (k := k) (f := (nm, .num x)) (by rw [List.getElem?_append_right (by rw [hO.len]; exact Nat.le_refl _), hO.len, Nat.sub_self, List.getElem?_drop, Nat.add_zero]; exact hf)
            exact this
          have hX2 : (fsV (a1 ++ fs.drop k)).setIfInBounds k (.int .i64 (numEnd σB).1) = fsV ((a1 ++ [(nm, .num (numEnd σB).1)]) ++ fs.drop (k + 1)) := by
            have := fsV_set a1 (fs.drop (k + 1)) (nm, .num x) (nm, .num (numEnd σB).1)
            rw [hO.len, ← drop_cons hf] at this
            rw [List.append_assoc]
            exact this
          obtain ⟨xs, hxs⟩ : ∃ xs, fsV (a1 ++ fs.drop k) = xs := ⟨_, rfl⟩
          obtain ⟨xs2, hxs2⟩ : ∃ xs2, fsV ((a1 ++ [(nm, .num (numEnd σB).1)]) ++ fs.drop (k + 1)) = xs2 := ⟨_, rfl⟩
          have HXx := Lib.hid (show Blk wr X T xs from by rw [← hxs]; exact hO.x)
          rw [hxs] at hX1
          rw [hxs, hxs2] at hX2
          have Hxs2 := Lib.hid hxs2
          have HX1 := Lib.hid hX1
          have HX2 := Lib.hid hX2
          have HT1 := Lib.hid (hO.two.snd (grow_below X ((Below.refl wr.heap.size wr).alloc (Nat.le_refl _) (.cells #[.string nm, .pointer (some ⟨X, k, none⟩), .pointer none] 72))))
          have HB1 := Lib.hid (Blk.alloc HXx.out (.cells #[.string nm, .pointer (some ⟨X, k, none⟩), .pointer none] 72))
          have hgl := Blk.lt hO.rd.at_
          have hXl := hO.x.lt
          have hσB' := Lib.hid hσB
          clear hX1 hX2 hxs hxs2 hO hσA hσB ha hf hA hk0
          go_wp2_with fail
          refine Calls.mono HM.out ?_
          clear x0 x1 x2
          rintro e w2 ⟨rfl, hR2, hg2⟩
          have HR2 := Lib.hid hR2
          have HT2 := Lib.hid (HT1.out.fst hg2)
          have HB2 := Lib.hid (grow_blk hg2 HB1.out hXg)
          have hJ2 := grow_blk hg2 HJ.out (Nat.ne_of_gt hgl)
          have HJ2 := Lib.hid hJ2
          have c0 := hJ2.cell 0
          simp only [List.getElem?_toArray, List.getElem?_cons_zero] at c0
          have HQ := Lib.hid (Quote_any nm w2 (by omega))
          clear hR2 hg2 hJ2 HM
          go_wp2_with fail
          refine Calls.mono HQ.out ?_
          clear c0
          rintro e w3 ⟨rfl, hb3⟩
          have hq1 : (⟨(quoteL nm.data.toList).toArray⟩ : ByteArray).size ≤ 602 := by show (quoteL nm.data.toList).toArray.size ≤ 602; rw [List.size_toArray]; exact quoteL_len nm hsz
          obtain ⟨qs, hqs⟩ : ∃ qs, (⟨(quoteL nm.data.toList).toArray⟩ : ByteArray) = qs := ⟨_, rfl⟩
          have Hqs := Lib.hid (show (qs ++ ⟨#[58]⟩ : ByteArray).data.toList = quoteL nm.data.toList ++ [58] from by rw [← hqs, ByteArray.toList_data_append])
          rw [hqs] at hq1 ⊢
          have hadd : ¬ 9223372036854775807 < qs.size + 1 := by omega
          have HM2 := Lib.hid (jmust_any g σA (qs ++ ⟨#[58]⟩) w3 (HR2.out.up hb3))
          rw [Hqs.out, hσB'.out] at HM2
          have HT3 := Lib.hid (HT2.out.snd (grow_below X hb3))
          have HB3 := Lib.hid (HB2.out.below hb3 HB2.out.lt)
          have HJ3 := Lib.hid (HJ2.out.below hb3 HJ2.out.lt)
          clear hb3 hqs
          go_wp2_with fail
          refine Calls.mono HM2.out ?_
          rintro e w4 ⟨rfl, hR4, hg4⟩
          have hgl4 : g < w4.heap.size := hR4.at_.lt
          have hO8 := Lib.hid (show O8 w g X wr.heap.size T #[.string nm, .pointer (some ⟨X, k, none⟩), .pointer none] σB (numEnd σB).2 xs xs2 0 w4.drew from ⟨hR4.drew, (show Blk w4 X T _ from grow_blk hg4 HB3.out hXg), (show Blk w4 wr.heap.size _ _ from grow_blk hg4 HJ3.out (Nat.ne_of_gt hgl)), (HT3.out.fst hg4).drew⟩)
          have c1 := (grow_blk hg4 HJ3.out (Nat.ne_of_gt hgl)).cell 1
          simp only [List.getElem?_toArray, List.getElem?_cons_zero, List.getElem?_cons_succ] at c1
          clear hR4 hg4 HM2 HQ hadd hq1
          go_wp2_with fail
          clear c1
          refine wp_region_phases (Γ := Unit) (n := 41) (by kernel_rfl) (fun _ => o8V g X k wr.heap.size 1 (.int .i64 (numEnd σB).1)) [3, 5] (fun p _ w' => O8 w g X wr.heap.size T #[.string nm, .pointer (some ⟨X, k, none⟩), .pointer none] σB (numEnd σB).2 xs xs2 p w') () (by decide +kernel) (by decide +kernel) rfl ?_ ?_ ?_
          · exact hO8.out
          · refine ⟨?_, ?_, ?_, ?_, ?_, ?_, trivial⟩
            · refine ⟨rfl, .inr ⟨by decide, 0, 2, by decide +kernel, by decide +kernel, fun p γ a wx hpl hph hp hk => ?_⟩⟩
              have h1 := hk.1 5 _ rfl (by decide +kernel)
              simp [go_sem, Oper.wp, execOp, Act.eval, h1]
              exact ⟨_, rfl, rfl, hp⟩
            · refine ⟨rfl, .inr ⟨by decide, 0, 2, by decide +kernel, by decide +kernel, fun p γ a wx hpl hph hp hk => ?_⟩⟩
              obtain ⟨u1, h1, r1⟩ := hk.2.1 0 _ 28 rfl rfl (by decide +kernel)
              replace r1 : u1 = _ := r1
              subst r1
              have hc : wx.cell? ⟨wr.heap.size, 1, none⟩ = some (.pointer (some ⟨X, k, none⟩)) := hp.j.cell 1
              simp [go_sem, Oper.wp, execOp, Act.eval, h1, hc]
              exact ⟨_, rfl, rfl, hp⟩
            · refine ⟨rfl, .inr ⟨by decide, 0, 2, by decide +kernel, by decide +kernel, fun p γ a wx hpl hph hp hk => ?_⟩⟩
              have h1 := hk.1 0 _ rfl (by decide +kernel)
              simp [go_sem, Oper.wp, execOp, Act.eval, h1]
              exact ⟨_, rfl, rfl, hp⟩
            · refine ⟨rfl, .inl ⟨0, rfl, fun γ a wx hp hk => ?_⟩⟩
              obtain ⟨u1, h1, r1⟩ := hk.2.1 2 _ 30 rfl rfl (by decide +kernel)
              replace r1 : u1 = _ := r1
              subst r1
              simp [go_sem, Oper.wp, execOp, Act.eval, h1]
              refine (jnumber_any g σB wx hp.rd).mono ?_
              rintro e w' ⟨rfl, hR, hg⟩
              exact ⟨_, rfl, rfl, ⟨hR, grow_blk hg hp.x hXg, grow_blk hg hp.j (Nat.ne_of_gt hgl), hp.two.fst hg⟩⟩
            · refine ⟨rfl, .inr ⟨by decide, 1, 2, by decide +kernel, by decide +kernel, fun p γ a wx hpl hph hp hk => ?_⟩⟩
              obtain ⟨u1, h1, r1⟩ := hk.2.1 1 _ 29 rfl rfl (by decide +kernel)
              replace r1 : u1 = _ := r1
              subst r1
              simp [go_sem, Oper.wp, execOp, Act.eval, h1]
              exact ⟨_, rfl, rfl, hp⟩
            · refine ⟨rfl, .inl ⟨1, rfl, fun γ a wx hp hk => ?_⟩⟩
              obtain ⟨u1, h1, r1⟩ := hk.2.1 4 _ 32 rfl rfl (by decide +kernel)
              replace r1 : u1 = _ := r1
              subst r1
              obtain ⟨u2, h2, r2⟩ := hk.2.1 3 _ 31 rfl rfl (by decide +kernel)
              replace r2 : u2 = _ := r2
              subst r2
              have hc : wx.cell? ⟨X, k, none⟩ = some (.int .i64 x) := (hp.x.cell k).trans HX1.out
              have hz : wx.frozen? ⟨X, k, none⟩ = false := hp.x.thaw k
              have hs := grow_set wx X k (.int .i64 (numEnd σB).1)
              have HN : O8 w g X wr.heap.size T #[.string nm, .pointer (some ⟨X, k, none⟩), .pointer none] σB (numEnd σB).2 xs xs2 2 (wx.setCell ⟨X, k, none⟩ (.int .i64 (numEnd σB).1)) := ⟨hp.rd.other hs hgX hE1 hE2, Blk.eq (hp.x.set k _) HX2.out, grow_blk hs hp.j (Nat.ne_of_gt hXl), hp.two.snd hs⟩
              simp [go_sem, Oper.wp, execOp, Act.eval, h1, h2, hc, hz]
              exact ⟨⟨.tuple #[], trivial⟩, HN⟩
          · intro γ a wx hd
            have hp := hd.ph
            obtain ⟨fv, rfl, hfv⟩ := hd.frame [28, 29, 30, 31, 32] rfl
            have Hp := Lib.hid hp
            clear hd hp hfv hO8
            simp only [List.foldl_cons, List.foldl_nil, List.setIfInBounds_toArray, List.set_cons_succ, List.set_cons_zero]
            go_wp2_with fail
            go_roundw
            case rel => exact ⟨k + 1, by omega, by go_num, by rw [Hst.out]; exact ⟨Hp.out.rd, (by rw [Hxs2.out]; exact Hp.out.x), Hp.out.two, by rw [List.length_append, HL.out]; rfl⟩⟩
            case measure => simp [intOf]; omega
      | txt x =>
        replace x1 : wr.cell? ⟨fb, k * 3 + 1, none⟩ = some (.pointer none) := x1
        replace x2 : wr.cell? ⟨fb, k * 3 + 2, none⟩ = some (.pointer (some ⟨X, k, none⟩)) := x2
        have HJ := Lib.hid (show Blk (wr.alloc (.cells #[.string nm, .pointer none, .pointer (some ⟨X, k, none⟩)] 72)) wr.heap.size 72 #[.string nm, .pointer none, .pointer (some ⟨X, k, none⟩)] from heap_alloc_new wr _)
        have HR1 := Lib.hid (hO.rd.up ((Below.refl wr.heap.size wr).alloc (Nat.le_refl _) (.cells #[.string nm, .pointer none, .pointer (some ⟨X, k, none⟩)] 72)))
        by_cases hk0 : k = 0
        · skip
          subst hk0
          simp only [Nat.zero_mul, Nat.zero_add] at x0 x1 x2
          obtain ⟨σA, hσA⟩ : ∃ σA, (if a1 = [] then a2 else mustJ [44] a2) = σA := ⟨_, rfl⟩
          obtain ⟨σB, hσB⟩ : ∃ σB, mustJ (quoteL nm.data.toList ++ [58]) σA = σB := ⟨_, rfl⟩
          have Hst := Lib.hid (show (fs.take (0 + 1)).foldl fldJ ([], mustJ [123] σ) = (a1 ++ [(nm, .txt (BA (textJ σB).1))], (textJ σB).2) from by
            rw [take_snocJG hf, List.foldl_append, ha]
            show fldJ (a1, a2) (nm, .txt x) = _
            unfold fldJ
            simp only
            rw [hσA, hσB]
            rfl)
          have hA : σA = a2 := by rw [← hσA, if_pos (List.length_eq_zero_iff.1 hO.len)]
          subst hA
          have hX1 : (fsV (a1 ++ fs.drop 0))[0]? = some (.string x) := by
            have := fsV_at (fs := a1 ++ fs.drop 0) (k := 0) (f := (nm, .txt x)) (by rw [List.getElem?_append_right (by rw [hO.len]; exact Nat.le_refl _), hO.len, Nat.sub_self, List.getElem?_drop, Nat.add_zero]; exact hf)
            exact this
          have hX2 : (fsV (a1 ++ fs.drop 0)).setIfInBounds 0 (.string (BA (textJ σB).1)) = fsV ((a1 ++ [(nm, .txt (BA (textJ σB).1))]) ++ fs.drop (0 + 1)) := by
            have := fsV_set a1 (fs.drop (0 + 1)) (nm, .txt x) (nm, .txt (BA (textJ σB).1))
            rw [hO.len, ← drop_cons hf] at this
            rw [List.append_assoc]
            exact this
          obtain ⟨xs, hxs⟩ : ∃ xs, fsV (a1 ++ fs.drop 0) = xs := ⟨_, rfl⟩
          obtain ⟨xs2, hxs2⟩ : ∃ xs2, fsV ((a1 ++ [(nm, .txt (BA (textJ σB).1))]) ++ fs.drop (0 + 1)) = xs2 := ⟨_, rfl⟩
          have HXx := Lib.hid (show Blk wr X T xs from by rw [← hxs]; exact hO.x)
          rw [hxs] at hX1
          rw [hxs, hxs2] at hX2
          have Hxs2 := Lib.hid hxs2
          have HX1 := Lib.hid hX1
          have HX2 := Lib.hid hX2
          have HT1 := Lib.hid (hO.two.snd (grow_below X ((Below.refl wr.heap.size wr).alloc (Nat.le_refl _) (.cells #[.string nm, .pointer none, .pointer (some ⟨X, 0, none⟩)] 72))))
          have HB1 := Lib.hid (Blk.alloc HXx.out (.cells #[.string nm, .pointer none, .pointer (some ⟨X, 0, none⟩)] 72))
          have hgl := Blk.lt hO.rd.at_
          have hXl := hO.x.lt
          have hσB' := Lib.hid hσB
          clear hX1 hX2 hxs hxs2 hO hσA hσB ha hf
          have c0 := HJ.out.cell 0
          simp only [List.getElem?_toArray, List.getElem?_cons_zero] at c0
          obtain ⟨w2, hw2⟩ : ∃ w2, wr.alloc (.cells #[.string nm, .pointer none, .pointer (some ⟨X, 0, none⟩)] 72) = w2 := ⟨_, rfl⟩
          rw [hw2] at HJ HR1 HT1 HB1 c0
          have HQ := Lib.hid (Quote_any nm w2 (by omega))
          have HR2 := HR1
          have HT2 := HT1
          have HB2 := HB1
          have HJ2 := HJ
          have Hw2 := Lib.hid hw2
          clear hw2
          go_wp2_with fail
          rw [Hw2.out]
          refine Calls.mono HQ.out ?_
          clear c0 x0 x1 x2
          rintro e w3 ⟨rfl, hb3⟩
          have hq1 : (⟨(quoteL nm.data.toList).toArray⟩ : ByteArray).size ≤ 602 := by show (quoteL nm.data.toList).toArray.size ≤ 602; rw [List.size_toArray]; exact quoteL_len nm hsz
          obtain ⟨qs, hqs⟩ : ∃ qs, (⟨(quoteL nm.data.toList).toArray⟩ : ByteArray) = qs := ⟨_, rfl⟩
          have Hqs := Lib.hid (show (qs ++ ⟨#[58]⟩ : ByteArray).data.toList = quoteL nm.data.toList ++ [58] from by rw [← hqs, ByteArray.toList_data_append])
          rw [hqs] at hq1 ⊢
          have hadd : ¬ 9223372036854775807 < qs.size + 1 := by omega
          have HM2 := Lib.hid (jmust_any g σA (qs ++ ⟨#[58]⟩) w3 (HR2.out.up hb3))
          rw [Hqs.out, hσB'.out] at HM2
          have HT3 := Lib.hid (HT2.out.snd (grow_below X hb3))
          have HB3 := Lib.hid (HB2.out.below hb3 HB2.out.lt)
          have HJ3 := Lib.hid (HJ2.out.below hb3 HJ2.out.lt)
          clear hb3 hqs
          go_wp2_with fail
          refine Calls.mono HM2.out ?_
          rintro e w4 ⟨rfl, hR4, hg4⟩
          have hgl4 : g < w4.heap.size := hR4.at_.lt
          have hO8 := Lib.hid (show O8 w g X wr.heap.size T #[.string nm, .pointer none, .pointer (some ⟨X, 0, none⟩)] σB (textJ σB).2 xs xs2 0 w4.drew from ⟨hR4.drew, (show Blk w4 X T _ from grow_blk hg4 HB3.out hXg), (show Blk w4 wr.heap.size _ _ from grow_blk hg4 HJ3.out (Nat.ne_of_gt hgl)), (HT3.out.fst hg4).drew⟩)
          have c1 := (grow_blk hg4 HJ3.out (Nat.ne_of_gt hgl)).cell 1
          simp only [List.getElem?_toArray, List.getElem?_cons_zero, List.getElem?_cons_succ] at c1
          clear hR4 hg4 HM2 HQ hadd hq1
          go_wp2_with fail
          clear c1
          refine wp_region_phases (Γ := Unit) (n := 41) (by kernel_rfl) (fun _ => o8V g X 0 wr.heap.size 2 (.string (BA (textJ σB).1))) [3, 5] (fun p _ w' => O8 w g X wr.heap.size T #[.string nm, .pointer none, .pointer (some ⟨X, 0, none⟩)] σB (textJ σB).2 xs xs2 p w') () (by decide +kernel) (by decide +kernel) rfl ?_ ?_ ?_
          · exact hO8.out
          · refine ⟨?_, ?_, ?_, ?_, ?_, ?_, trivial⟩
            · refine ⟨rfl, .inr ⟨by decide, 0, 2, by decide +kernel, by decide +kernel, fun p γ a wx hpl hph hp hk => ?_⟩⟩
              have h1 := hk.1 5 _ rfl (by decide +kernel)
              simp [go_sem, Oper.wp, execOp, Act.eval, h1]
              exact ⟨_, rfl, rfl, hp⟩
            · refine ⟨rfl, .inr ⟨by decide, 0, 2, by decide +kernel, by decide +kernel, fun p γ a wx hpl hph hp hk => ?_⟩⟩
              obtain ⟨u1, h1, r1⟩ := hk.2.1 0 _ 33 rfl rfl (by decide +kernel)
              replace r1 : u1 = _ := r1
              subst r1
              have hc : wx.cell? ⟨wr.heap.size, 2, none⟩ = some (.pointer (some ⟨X, 0, none⟩)) := hp.j.cell 2
              simp [go_sem, Oper.wp, execOp, Act.eval, h1, hc]
              exact ⟨_, rfl, rfl, hp⟩
            · refine ⟨rfl, .inr ⟨by decide, 0, 2, by decide +kernel, by decide +kernel, fun p γ a wx hpl hph hp hk => ?_⟩⟩
              have h1 := hk.1 0 _ rfl (by decide +kernel)
              simp [go_sem, Oper.wp, execOp, Act.eval, h1]
              exact ⟨_, rfl, rfl, hp⟩
            · refine ⟨rfl, .inl ⟨0, rfl, fun γ a wx hp hk => ?_⟩⟩
              obtain ⟨u1, h1, r1⟩ := hk.2.1 2 _ 35 rfl rfl (by decide +kernel)
              replace r1 : u1 = _ := r1
              subst r1
              simp [go_sem, Oper.wp, execOp, Act.eval, h1]
              refine (jtext_any g σB wx hp.rd).mono ?_
              rintro e w' ⟨rfl, hR, hg⟩
              exact ⟨_, rfl, rfl, ⟨hR, grow_blk hg hp.x hXg, grow_blk hg hp.j (Nat.ne_of_gt hgl), hp.two.fst hg⟩⟩
            · refine ⟨rfl, .inr ⟨by decide, 1, 2, by decide +kernel, by decide +kernel, fun p γ a wx hpl hph hp hk => ?_⟩⟩
              obtain ⟨u1, h1, r1⟩ := hk.2.1 1 _ 34 rfl rfl (by decide +kernel)
              replace r1 : u1 = _ := r1
              subst r1
              simp [go_sem, Oper.wp, execOp, Act.eval, h1]
              exact ⟨_, rfl, rfl, hp⟩
            · refine ⟨rfl, .inl ⟨1, rfl, fun γ a wx hp hk => ?_⟩⟩
              obtain ⟨u1, h1, r1⟩ := hk.2.1 4 _ 37 rfl rfl (by decide +kernel)
              replace r1 : u1 = _ := r1
              subst r1
              obtain ⟨u2, h2, r2⟩ := hk.2.1 3 _ 36 rfl rfl (by decide +kernel)
              replace r2 : u2 = _ := r2
              subst r2
              have hc : wx.cell? ⟨X, 0, none⟩ = some (.string x) := (hp.x.cell 0).trans HX1.out
              have hz : wx.frozen? ⟨X, 0, none⟩ = false := hp.x.thaw 0
              have hs := grow_set wx X 0 (.string (BA (textJ σB).1))
              have HN : O8 w g X wr.heap.size T #[.string nm, .pointer none, .pointer (some ⟨X, 0, none⟩)] σB (textJ σB).2 xs xs2 2 (wx.setCell ⟨X, 0, none⟩ (.string (BA (textJ σB).1))) := ⟨hp.rd.other hs hgX hE1 hE2, Blk.eq (hp.x.set 0 _) HX2.out, grow_blk hs hp.j (Nat.ne_of_gt hXl), hp.two.snd hs⟩
              simp [go_sem, Oper.wp, execOp, Act.eval, h1, h2, hc, hz]
              exact ⟨⟨.tuple #[], trivial⟩, HN⟩
          · intro γ a wx hd
            have hp := hd.ph
            obtain ⟨fv, rfl, hfv⟩ := hd.frame [33, 34, 35, 36, 37] rfl
            have Hp := Lib.hid hp
            clear hd hp hfv hO8
            simp only [List.foldl_cons, List.foldl_nil, List.setIfInBounds_toArray, List.set_cons_succ, List.set_cons_zero]
            go_wp2_with fail
            go_roundw
            case rel => exact ⟨0 + 1, by omega, by go_num, by rw [Hst.out]; exact ⟨Hp.out.rd, (by rw [Hxs2.out]; exact Hp.out.x), Hp.out.two, by rw [List.length_append, HL.out]; rfl⟩⟩
            case measure => simp [intOf]; omega
        · skip
          have hk0 : ¬ k = 0 := hk0
          have Hk0 := Lib.hid hk0
          have dk : decide ((0 : Int) < (k : Int)) = true := decide_eq_true (by omega)
          obtain ⟨σA, hσA⟩ : ∃ σA, (if a1 = [] then a2 else mustJ [44] a2) = σA := ⟨_, rfl⟩
          obtain ⟨σB, hσB⟩ : ∃ σB, mustJ (quoteL nm.data.toList ++ [58]) σA = σB := ⟨_, rfl⟩
          have Hst := Lib.hid (show (fs.take (k + 1)).foldl fldJ ([], mustJ [123] σ) = (a1 ++ [(nm, .txt (BA (textJ σB).1))], (textJ σB).2) from by
            rw [take_snocJG hf, List.foldl_append, ha]
            show fldJ (a1, a2) (nm, .txt x) = _
            unfold fldJ
            simp only
            rw [hσA, hσB]
            rfl)
          have hA : mustJ [44] a2 = σA := by rw [← hσA, if_neg (fun e => hk0 (by rw [← hO.len, e]; rfl))]
          have HM := Lib.hid (jmust_any g a2 ⟨#[44]⟩ (wr.alloc (.cells #[.string nm, .pointer none, .pointer (some ⟨X, k, none⟩)] 72)) HR1.out)
          rw [show mustJ (⟨#[44]⟩ : ByteArray).data.toList a2 = σA from hA] at HM
          have hX1 : (fsV (a1 ++ fs.drop k))[k]? = some (.string x) := by
            have := fsV_at (fs := a1 ++ fs.drop k) (k := k) (f := (nm, .txt x)) (by rw [List.getElem?_append_right (by rw [hO.len]; exact Nat.le_refl _), hO.len, Nat.sub_self, List.getElem?_drop, Nat.add_zero]; exact hf)
            exact this
          have hX2 : (fsV (a1 ++ fs.drop k)).setIfInBounds k (.string (BA (textJ σB).1)) = fsV ((a1 ++ [(nm, .txt (BA (textJ σB).1))]) ++ fs.drop (k + 1)) := by
            have := fsV_set a1 (fs.drop (k + 1)) (nm, .txt x) (nm, .txt (BA (textJ σB).1))
            rw [hO.len, ← drop_cons hf] at this
            rw [List.append_assoc]
            exact this
          obtain ⟨xs, hxs⟩ : ∃ xs, fsV (a1 ++ fs.drop k) = xs := ⟨_, rfl⟩
          obtain ⟨xs2, hxs2⟩ : ∃ xs2, fsV ((a1 ++ [(nm, .txt (BA (textJ σB).1))]) ++ fs.drop (k + 1)) = xs2 := ⟨_, rfl⟩
          have HXx := Lib.hid (show Blk wr X T xs from by rw [← hxs]; exact hO.x)
          rw [hxs] at hX1
          rw [hxs, hxs2] at hX2
          have Hxs2 := Lib.hid hxs2
          have HX1 := Lib.hid hX1
          have HX2 := Lib.hid hX2
          have HT1 := Lib.hid (hO.two.snd (grow_below X ((Below.refl wr.heap.size wr).alloc (Nat.le_refl _) (.cells #[.string nm, .pointer none, .pointer (some ⟨X, k, none⟩)] 72))))
          have HB1 := Lib.hid (Blk.alloc HXx.out (.cells #[.string nm, .pointer none, .pointer (some ⟨X, k, none⟩)] 72))
          have hgl := Blk.lt hO.rd.at_
          have hXl := hO.x.lt
          have hσB' := Lib.hid hσB
          clear hX1 hX2 hxs hxs2 hO hσA hσB ha hf hA hk0
          go_wp2_with fail
          refine Calls.mono HM.out ?_
          clear x0 x1 x2
          rintro e w2 ⟨rfl, hR2, hg2⟩
          have HR2 := Lib.hid hR2
          have HT2 := Lib.hid (HT1.out.fst hg2)
          have HB2 := Lib.hid (grow_blk hg2 HB1.out hXg)
          have hJ2 := grow_blk hg2 HJ.out (Nat.ne_of_gt hgl)
          have HJ2 := Lib.hid hJ2
          have c0 := hJ2.cell 0
          simp only [List.getElem?_toArray, List.getElem?_cons_zero] at c0
          have HQ := Lib.hid (Quote_any nm w2 (by omega))
          clear hR2 hg2 hJ2 HM
          go_wp2_with fail
          refine Calls.mono HQ.out ?_
          clear c0
          rintro e w3 ⟨rfl, hb3⟩
          have hq1 : (⟨(quoteL nm.data.toList).toArray⟩ : ByteArray).size ≤ 602 := by show (quoteL nm.data.toList).toArray.size ≤ 602; rw [List.size_toArray]; exact quoteL_len nm hsz
          obtain ⟨qs, hqs⟩ : ∃ qs, (⟨(quoteL nm.data.toList).toArray⟩ : ByteArray) = qs := ⟨_, rfl⟩
          have Hqs := Lib.hid (show (qs ++ ⟨#[58]⟩ : ByteArray).data.toList = quoteL nm.data.toList ++ [58] from by rw [← hqs, ByteArray.toList_data_append])
          rw [hqs] at hq1 ⊢
          have hadd : ¬ 9223372036854775807 < qs.size + 1 := by omega
          have HM2 := Lib.hid (jmust_any g σA (qs ++ ⟨#[58]⟩) w3 (HR2.out.up hb3))
          rw [Hqs.out, hσB'.out] at HM2
          have HT3 := Lib.hid (HT2.out.snd (grow_below X hb3))
          have HB3 := Lib.hid (HB2.out.below hb3 HB2.out.lt)
          have HJ3 := Lib.hid (HJ2.out.below hb3 HJ2.out.lt)
          clear hb3 hqs
          go_wp2_with fail
          refine Calls.mono HM2.out ?_
          rintro e w4 ⟨rfl, hR4, hg4⟩
          have hgl4 : g < w4.heap.size := hR4.at_.lt
          have hO8 := Lib.hid (show O8 w g X wr.heap.size T #[.string nm, .pointer none, .pointer (some ⟨X, k, none⟩)] σB (textJ σB).2 xs xs2 0 w4.drew from ⟨hR4.drew, (show Blk w4 X T _ from grow_blk hg4 HB3.out hXg), (show Blk w4 wr.heap.size _ _ from grow_blk hg4 HJ3.out (Nat.ne_of_gt hgl)), (HT3.out.fst hg4).drew⟩)
          have c1 := (grow_blk hg4 HJ3.out (Nat.ne_of_gt hgl)).cell 1
          simp only [List.getElem?_toArray, List.getElem?_cons_zero, List.getElem?_cons_succ] at c1
          clear hR4 hg4 HM2 HQ hadd hq1
          go_wp2_with fail
          clear c1
          refine wp_region_phases (Γ := Unit) (n := 41) (by kernel_rfl) (fun _ => o8V g X k wr.heap.size 2 (.string (BA (textJ σB).1))) [3, 5] (fun p _ w' => O8 w g X wr.heap.size T #[.string nm, .pointer none, .pointer (some ⟨X, k, none⟩)] σB (textJ σB).2 xs xs2 p w') () (by decide +kernel) (by decide +kernel) rfl ?_ ?_ ?_
          · exact hO8.out
          · refine ⟨?_, ?_, ?_, ?_, ?_, ?_, trivial⟩
            · refine ⟨rfl, .inr ⟨by decide, 0, 2, by decide +kernel, by decide +kernel, fun p γ a wx hpl hph hp hk => ?_⟩⟩
              have h1 := hk.1 5 _ rfl (by decide +kernel)
              simp [go_sem, Oper.wp, execOp, Act.eval, h1]
              exact ⟨_, rfl, rfl, hp⟩
            · refine ⟨rfl, .inr ⟨by decide, 0, 2, by decide +kernel, by decide +kernel, fun p γ a wx hpl hph hp hk => ?_⟩⟩
              obtain ⟨u1, h1, r1⟩ := hk.2.1 0 _ 33 rfl rfl (by decide +kernel)
              replace r1 : u1 = _ := r1
              subst r1
              have hc : wx.cell? ⟨wr.heap.size, 2, none⟩ = some (.pointer (some ⟨X, k, none⟩)) := hp.j.cell 2
              simp [go_sem, Oper.wp, execOp, Act.eval, h1, hc]
              exact ⟨_, rfl, rfl, hp⟩
            · refine ⟨rfl, .inr ⟨by decide, 0, 2, by decide +kernel, by decide +kernel, fun p γ a wx hpl hph hp hk => ?_⟩⟩
              have h1 := hk.1 0 _ rfl (by decide +kernel)
              simp [go_sem, Oper.wp, execOp, Act.eval, h1]
              exact ⟨_, rfl, rfl, hp⟩
            · refine ⟨rfl, .inl ⟨0, rfl, fun γ a wx hp hk => ?_⟩⟩
              obtain ⟨u1, h1, r1⟩ := hk.2.1 2 _ 35 rfl rfl (by decide +kernel)
              replace r1 : u1 = _ := r1
              subst r1
              simp [go_sem, Oper.wp, execOp, Act.eval, h1]
              refine (jtext_any g σB wx hp.rd).mono ?_
              rintro e w' ⟨rfl, hR, hg⟩
              exact ⟨_, rfl, rfl, ⟨hR, grow_blk hg hp.x hXg, grow_blk hg hp.j (Nat.ne_of_gt hgl), hp.two.fst hg⟩⟩
            · refine ⟨rfl, .inr ⟨by decide, 1, 2, by decide +kernel, by decide +kernel, fun p γ a wx hpl hph hp hk => ?_⟩⟩
              obtain ⟨u1, h1, r1⟩ := hk.2.1 1 _ 34 rfl rfl (by decide +kernel)
              replace r1 : u1 = _ := r1
              subst r1
              simp [go_sem, Oper.wp, execOp, Act.eval, h1]
              exact ⟨_, rfl, rfl, hp⟩
            · refine ⟨rfl, .inl ⟨1, rfl, fun γ a wx hp hk => ?_⟩⟩
              obtain ⟨u1, h1, r1⟩ := hk.2.1 4 _ 37 rfl rfl (by decide +kernel)
              replace r1 : u1 = _ := r1
              subst r1
              obtain ⟨u2, h2, r2⟩ := hk.2.1 3 _ 36 rfl rfl (by decide +kernel)
              replace r2 : u2 = _ := r2
              subst r2
              have hc : wx.cell? ⟨X, k, none⟩ = some (.string x) := (hp.x.cell k).trans HX1.out
              have hz : wx.frozen? ⟨X, k, none⟩ = false := hp.x.thaw k
              have hs := grow_set wx X k (.string (BA (textJ σB).1))
              have HN : O8 w g X wr.heap.size T #[.string nm, .pointer none, .pointer (some ⟨X, k, none⟩)] σB (textJ σB).2 xs xs2 2 (wx.setCell ⟨X, k, none⟩ (.string (BA (textJ σB).1))) := ⟨hp.rd.other hs hgX hE1 hE2, Blk.eq (hp.x.set k _) HX2.out, grow_blk hs hp.j (Nat.ne_of_gt hXl), hp.two.snd hs⟩
              simp [go_sem, Oper.wp, execOp, Act.eval, h1, h2, hc, hz]
              exact ⟨⟨.tuple #[], trivial⟩, HN⟩
          · intro γ a wx hd
            have hp := hd.ph
            obtain ⟨fv, rfl, hfv⟩ := hd.frame [33, 34, 35, 36, 37] rfl
            have Hp := Lib.hid hp
            clear hd hp hfv hO8
            simp only [List.foldl_cons, List.foldl_nil, List.setIfInBounds_toArray, List.set_cons_succ, List.set_cons_zero]
            go_wp2_with fail
            go_roundw
            case rel => exact ⟨k + 1, by omega, by go_num, by rw [Hst.out]; exact ⟨Hp.out.rd, (by rw [Hxs2.out]; exact Hp.out.x), Hp.out.two, by rw [List.length_append, HL.out]; rfl⟩⟩
            case measure => simp [intOf]; omega
    · have hkn : n ≤ k := by omega
      have hall : fs.take k = fs := List.take_of_length_le (by have := Hn.out; omega)
      rw [hall] at ha
      have Hob := Lib.hid (show objJ fs σ = (a1, mustJ [125] a2) from by unfold objJ fldsJ; rw [ha])
      have hd : fs.drop k = [] := List.drop_of_length_le (by have := Hn.out; omega)
      have HOx := Lib.hid (show Blk wr X T (fsV a1) from Blk.eq hO.x (by rw [hd, List.append_nil]))
      have HO := Lib.hid hO
      have HM := Lib.hid (jmust_any g a2 ⟨#[125]⟩ wr hO.rd)
      rw [show (⟨#[125]⟩ : ByteArray).data.toList = [125] from rfl] at HM
      have hd1 : decide ((k : Int) < (n : Int)) = false := decide_eq_false (by omega)
      clear ha hO hd hall hlt
      go_wp2_with fail
      refine Calls.mono HM.out ?_
      rintro e w2 ⟨rfl, hR2, hg2⟩
      have HE := Lib.hid (show JrOk w2 g (objJ fs σ).2 ∧ Blk w2 X T (fsV (objJ fs σ).1) ∧ Two w w2 g X from by rw [Hob.out]; exact ⟨hR2, grow_blk hg2 HOx.out hXg, HO.out.two.fst hg2⟩)
      clear hR2 hg2
      go_wp2
      go_end0
      exact ⟨rfl, HE.out⟩
end Go.Proofs.YtcodhhabfacnjaaGreatDoor
