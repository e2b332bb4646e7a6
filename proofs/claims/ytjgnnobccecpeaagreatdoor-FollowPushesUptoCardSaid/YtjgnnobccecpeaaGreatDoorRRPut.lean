/- Of the proof of a statement: RPut. -/
import Derived.Lib.QuietBelow
import Derived.Test.YtjgnnobccecpeaaGreatDoorRClone
import Derived.Test.YtjgnnobccecpeaaGreatDoorRDDec
set_option linter.unusedVariables false
set_option linter.unusedSimpArgs false
set_option maxRecDepth 100000
set_option maxHeartbeats 8000000
/- The walks of the reference's put and without, at jobs, nodes and leases. -/
namespace Go.Proofs.YtjgnnobccecpeaaGreatDoor
open Go.Lib (hid)
open Go.RowKit
theorem Blk.grewN {a b : World} {g : Nat} {t : TypeId} {cs : Array Value} {v v' : Value} (h : Blk a g t cs) (hg : Grew a b v v') (hv : v.ownBlock ≠ some g) : Blk b g t cs := (hg.grown.block g h.lt (fun e => hv e.symm)).trans h
theorem putFrom_step {α : Type} {key : α → ByteArray} {x y : α} {d B E : Bool} {l : List α} {k : Nat} (h : l[k]? = some y) (hB : kless (key y) (key x) = B) (hE : ((key y).toList == (key x).toList) = E) :
 putFrom key x d (l.drop k) = (if !d && !B then [x] else []) ++ (if E then [] else [y]) ++ putFrom key x (d || !B) (l.drop (k + 1)) := by
 rw [drop_cons h, putFrom, hB]
 congr 2
 by_cases e : key y = key x
 · rw [if_neg (by simp [e])]
   rw [e, beq_self_eq_true] at hE
   subst hE; rfl
 · rw [if_pos e]
   have : ((key y).toList == (key x).toList) = false := by
    rw [beq_eq_false_iff_ne]
    exact fun h => e (bytes_of_toList h)
   rw [this] at hE
   subst hE; rfl
theorem putFrom_len {α : Type} (key : α → ByteArray) (x : α) : ∀ (l : List α) (d : Bool), (putFrom key x d l).length ≤ l.length + (if d then 0 else 1)
 | [], d => by cases d <;> simp [putFrom]
 | y :: l, d => by
  have ih := putFrom_len key x l (d || !kless (key y) (key x))
  rw [putFrom, List.length_append, List.length_append, List.length_cons]
  cases d <;> cases hk : kless (key y) (key x) <;> simp [hk] at ih ⊢ <;> split <;> simp <;> omega
def RPutPost {α : Type} (T : TypeId) (sz : Nat) (enc : α → List Value) (l : List α) (w : World) (e : Ending) (w' : World) : Prop :=
 ∃ A c, e = .returned (.slice A l.length c) ∧ w'.ownsRow w.heap.size T sz (.slice A l.length c) l.length (rowsV enc l) ∧ Below w.heap.size w w'
theorem rkey_job (name : ByteArray) (prio : Int) (need : Int) (tries : Int) (tag : ByteArray) (w : World) : Calls Tryz.prog 61 #[.agg #[.string name, .int .i64 prio, .int .i64 need, .int .i64 tries, .string tag]] w fun e w' => e = .returned (.string name) ∧ Below w.heap.size w w' := by
 have HB := hid ((Below.refl w.heap.size w).alloc (Nat.le_refl _) (.cells #[.string name, .int .i64 prio, .int .i64 need, .int .i64 tries, .string tag] 38))
 go_enter Tryz.func61, Tryz.ntmps61
 go_wp2
 go_ret
 exact ⟨rfl, HB.out⟩
theorem rput_job (x : JobD) (xs : List JobD) (A : Option Addr) (n c : Nat) (w : World) (hx : SlAt w w.heap.size 5 A n (rowsV jobV xs)) (hl : xs.length = n) (hn : n ≤ 1000) :
 Calls Tryz.prog 60 #[.slice A n c, .agg (jobV x).toArray, .func (.func 61) #[] #[]] w (RPutPost 38 5 jobV (putK JobD.name xs x) w) := by
 obtain ⟨P, hP⟩ : ∃ P, putK JobD.name xs x = P := ⟨_, rfl⟩
 have HP0 := hid (show [] ++ putFrom JobD.name x false (xs.drop 0) = P from hP)
 have HPl := hid (show P.length ≤ n + 1 from by rw [← hP, ← hl]; exact putFrom_len _ _ _ _)
 rw [hP]
 clear hP
 obtain ⟨xname, xprio, xneed, xtries, xtag⟩ := x
 rw [show (Value.agg (jobV ⟨xname, xprio, xneed, xtries, xtag⟩).toArray) = .agg #[.string xname, .int .i64 xprio, .int .i64 xneed, .int .i64 xtries, .string xtag] from rfl]
 obtain ⟨W0, hW0⟩ : ∃ W0, w.alloc (.cells #[.string xname, .int .i64 xprio, .int .i64 xneed, .int .i64 xtries, .string xtag] 38) = W0 := ⟨_, rfl⟩
 have HX0 := hid (show Blk W0 w.heap.size 38 #[.string xname, .int .i64 xprio, .int .i64 xneed, .int .i64 xtries, .string xtag] from by rw [← hW0]; exact heap_alloc_new w _)
 have HB0 := hid (show Below w.heap.size w W0 from by rw [← hW0]; exact (Below.refl _ _).alloc (Nat.le_refl _) _)
 have hs0 : W0.heap.size = w.heap.size + 1 := by rw [← hW0]; simp
 have HW0 := hid hW0
 have Hl := hid hl
 have Hx := hid hx
 clear hW0 hl hx
 go_enter Tryz.func60, Tryz.ntmps60
 go_wp2
 rw [HW0.out]
 go_loopw [7, 8, 13] (fun out done i wr => ∃ (k : Nat) (A : Option Addr) (c : Nat) (l : List JobD) (d : Bool), k ≤ n ∧ i = .int .i64 k ∧ out = .slice A l.length c ∧ done = .bool d ∧ l ++ putFrom JobD.name ⟨xname, xprio, xneed, xtries, xtag⟩ d (xs.drop k) = P ∧ l.length ≤ 2 * k ∧ Blk wr w.heap.size 38 #[.string xname, .int .i64 xprio, .int .i64 xneed, .int .i64 xtries, .string xtag] ∧ Below w.heap.size w wr ∧ wr.ownsRow (w.heap.size + 1) 38 5 (.slice A l.length c) l.length (rowsV jobV l)) (fun _ _ i _ => n - (intOf i).toNat)
 case atStart => exact ⟨0, none, 0, [], false, Nat.zero_le _, rfl, rfl, rfl, HP0.out, Nat.le_refl _, HX0.out, HB0.out, World.ownsRow_nil _ _ _ _⟩
 case round =>
  clear HP0 HX0 HB0 HW0 hs0
  obtain ⟨k, A', c', l, d, hk, rfl, rfl, rfl, hp, hll, hX, hb, ho⟩ := hrel
  have HP := hid hp
  have HX := hid hX
  have HB := hid hb
  have HO := hid ho
  have hbs := hb.size
  have hxl := hX.lt
  clear hp hX hb ho
  by_cases hlt : k < n
  · obtain ⟨y, hf⟩ : ∃ y, xs[k]? = some y := ⟨_, List.getElem?_eq_getElem (by have := Hl.out; omega)⟩
    obtain ⟨bb, off, hao, hbB, hc⟩ := (Hx.out.below HB.out).rec_ jobV_len Hl.out hf
    subst hao
    obtain ⟨b1, hb1⟩ : ∃ b, kless (JobD.name y) (JobD.name (⟨xname, xprio, xneed, xtries, xtag⟩ : JobD)) = b := ⟨_, rfl⟩
    obtain ⟨b2, hb2⟩ : ∃ b, ((JobD.name y).toList == (JobD.name (⟨xname, xprio, xneed, xtries, xtag⟩ : JobD)).toList) = b := ⟨_, rfl⟩
    have Hst := hid (fun d => putFrom_step (d := d) hf hb1 hb2)
    obtain ⟨yname, yprio, yneed, ytries, ytag⟩ := y
    have Hb1 := hid (show Op.bytesLess yname.toList xname.toList = b1 from hb1)
    have Hb2 := hid (show (yname.toList == xname.toList) = b2 from hb2)
    clear hb1 hb2
    obtain ⟨e0, e1, e2, e3, e4⟩ := rc5 hc
    have hlb : bb < wr.heap.size := by omega
    obtain ⟨W1, hW1⟩ : ∃ W1, wr.alloc (.cells #[.string yname, .int .i64 yprio, .int .i64 yneed, .int .i64 ytries, .string ytag] 38) = W1 := ⟨_, rfl⟩
    have hB1 : Below wr.heap.size wr W1 := by rw [← hW1]; exact (Below.refl _ _).alloc (Nat.le_refl _) _
    have HY := hid (show Blk W1 wr.heap.size 38 #[.string yname, .int .i64 yprio, .int .i64 yneed, .int .i64 ytries, .string ytag] from by rw [← hW1]; exact heap_alloc_new wr _)
    have HX := hid (HX.out.below hB1 hxl)
    have Hn := hid (show ∀ q, (Value.slice A' l.length c').ownBlock = some q → w.heap.size + 1 ≤ q ∧ q < wr.heap.size from fun q hq => ⟨(HO.out.lt q hq).1, (HO.out.lt q hq).2⟩)
    have HO := hid (ownU_below HO.out hB1)
    have HB := hid (HB.out.trans (hB1.mono hbs))
    have HW1 := hid hW1
    have hyl := HY.out.lt
    clear hc hf hB1 hW1
    cases d
    · go_wp2_with fail
      rw [HW1.out]
      obtain ⟨x0, x1, x2, x3, x4⟩ := Blk.r5 (HX.out)
      obtain ⟨y0, y1, y2, y3, y4⟩ := Blk.r5 (HY.out)
      refine wp_region_quiet_below (by kernel_rfl) (by kernel_rfl) ?_
      repeat (go_big_quiet_step ((go_at_call 61; exact Calls.regrown_of (rkey_job _ _ _ _ _ _))))
      refine wpQuiet_nil ?_
      intro _ hw'
      obtain ⟨⟨nq, osq⟩, hw''⟩ := hw'
      subst hw''
      have hq := below_regrown W1 nq osq
      clear x0 y0 x1 y1 x2 y2 x3 y3 x4 y4
      dsimp only
      generalize Sort.grow (redrawn W1 nq) osq = W6 at hq ⊢
      have HX := hid (HX.out.below hq HX.out.lt)
      have HY := hid (HY.out.below hq HY.out.lt)
      have HO := hid (ownU_below HO.out hq)
      have HB := hid (HB.out.trans (hq.mono HB.out.size))
      have hyl := HY.out.lt
      have hbs2 := HB.out.size
      clear hq
      rw [Hb1.out]
      cases b1
      · have hlen1 : (l ++ [(⟨xname, xprio, xneed, xtries, xtag⟩ : JobD)]).length = l.length + 1 := by simp
        obtain ⟨x0, x1, x2, x3, x4⟩ := Blk.c5 (HX.out)
        go_wp2_with (at_builtin; refine push_rec jobV rfl _ _ 22 38 (.agg #[.string ⟨#[]⟩, .int .i64 0, .int .i64 0, .int .i64 0, .string ⟨#[]⟩]) 5 56 rfl Tryz.underlying22 infoJobT rfl (by decide) jobV_len jobV_oneT (w.heap.size + 1) _ _ _ l rfl HO.out _ ⟨xname, xprio, xneed, xtries, xtag⟩ rfl _ (by simp) rfl (by omega) (by unfold maxLen; omega) (by omega) ?_; intro A2 c2 W7 ho4 hg4; have HX2 := hid (HX.out.grew hg4 (fun q hq => by have := (Hn.out q hq).1; omega)); have HY2 := hid (HY.out.grewN hg4 (fun hq => by have := (Hn.out _ hq).2; omega)); have HB2 := hid (HB.out.trans (hg4.below (B := w.heap.size) hbs2 (fun q hq => by have := (Hn.out q hq).1; omega))); have HO2 := hid ho4; clear x0 x1 x2 x3 x4 HX HY HB HO ho4)
        have HX := HX2
        have HY := HY2
        have HB := HB2
        have HO := HO2
        clear HX2 HY2 HB2 HO2 hg4
        have hyl := HY.out.lt
        obtain ⟨x0, x1, x2, x3, x4⟩ := Blk.r5 (HX.out)
        obtain ⟨y0, y1, y2, y3, y4⟩ := Blk.r5 (HY.out)
        refine wp_region_quiet_below (by kernel_rfl) (by kernel_rfl) ?_
        repeat (go_big_quiet_step ((go_at_call 61; exact Calls.regrown_of (rkey_job _ _ _ _ _ _))))
        refine wpQuiet_nil ?_
        intro _ hw'
        obtain ⟨⟨nq, osq⟩, hw''⟩ := hw'
        subst hw''
        have hq := below_regrown W7 nq osq
        clear x0 y0 x1 y1 x2 y2 x3 y3 x4 y4
        dsimp only
        generalize Sort.grow (redrawn W7 nq) osq = W9 at hq ⊢
        have HX := hid (HX.out.below hq HX.out.lt)
        have HY := hid (HY.out.below hq HY.out.lt)
        have HO := hid (ownU_below HO.out hq)
        have HB := hid (HB.out.trans (hq.mono HB.out.size))
        have hyl := HY.out.lt
        have hbs2 := HB.out.size
        clear hq
        rw [Hb2.out]
        cases b2
        · have Hst := hid (Hst.out false)
          have HPn := hid (show ((l ++ [(⟨xname, xprio, xneed, xtries, xtag⟩ : JobD)]) ++ [(⟨yname, yprio, yneed, ytries, ytag⟩ : JobD)]) ++ putFrom JobD.name ⟨xname, xprio, xneed, xtries, xtag⟩ true (xs.drop (k + 1)) = P from by rw [← HP.out, Hst.out]; simp)
          have hlen : ((l ++ [(⟨xname, xprio, xneed, xtries, xtag⟩ : JobD)]) ++ [(⟨yname, yprio, yneed, ytries, ytag⟩ : JobD)]).length = (l.length + 1) + 1 := by simp
          clear Hst HP Hb1 Hb2
          obtain ⟨y0, y1, y2, y3, y4⟩ := Blk.c5 (HY.out)
          go_wp2_with (at_builtin; refine push_rec jobV rfl _ _ 22 38 (.agg #[.string ⟨#[]⟩, .int .i64 0, .int .i64 0, .int .i64 0, .string ⟨#[]⟩]) 5 56 rfl Tryz.underlying22 infoJobT rfl (by decide) jobV_len jobV_oneT (w.heap.size + 1) _ _ _ (l ++ [(⟨xname, xprio, xneed, xtries, xtag⟩ : JobD)]) rfl HO.out _ ⟨yname, yprio, yneed, ytries, ytag⟩ rfl _ (by simp) rfl (by omega) (by unfold maxLen; omega) (by omega) ?_; intro A3 c3 W10 ho5 hg5; have HX2 := hid (HX.out.grew hg5 (fun q hq => by have := (HO.out.lt q hq).1; omega)); have HB2 := hid (HB.out.trans (hg5.below (B := w.heap.size) hbs2 (fun q hq => by have := (HO.out.lt q hq).1; omega))))
          go_roundw
          case rel => exact ⟨k + 1, A3, c3, (l ++ [(⟨xname, xprio, xneed, xtries, xtag⟩ : JobD)]) ++ [(⟨yname, yprio, yneed, ytries, ytag⟩ : JobD)], true, by omega, by go_num, by rw [hlen], rfl, HPn.out, by omega, HX2.out, HB2.out, by rw [hlen]; exact ho5⟩
          case measure => simp [intOf]; omega
        · have Hst := hid (Hst.out false)
          have HPn := hid (show ((l ++ [(⟨xname, xprio, xneed, xtries, xtag⟩ : JobD)])) ++ putFrom JobD.name ⟨xname, xprio, xneed, xtries, xtag⟩ true (xs.drop (k + 1)) = P from by rw [← HP.out, Hst.out]; simp)
          have hlen : ((l ++ [(⟨xname, xprio, xneed, xtries, xtag⟩ : JobD)])).length = (l.length + 1) := by simp
          clear Hst HP Hb1 Hb2
          go_wp2
          go_roundw
          case rel => exact ⟨k + 1, A2, c2, (l ++ [(⟨xname, xprio, xneed, xtries, xtag⟩ : JobD)]), true, by omega, by go_num, by rw [hlen], rfl, HPn.out, by omega, HX.out, HB.out, by rw [hlen]; exact HO.out⟩
          case measure => simp [intOf]; omega
      · go_wp2_with fail
        obtain ⟨x0, x1, x2, x3, x4⟩ := Blk.r5 (HX.out)
        obtain ⟨y0, y1, y2, y3, y4⟩ := Blk.r5 (HY.out)
        refine wp_region_quiet_below (by kernel_rfl) (by kernel_rfl) ?_
        repeat (go_big_quiet_step ((go_at_call 61; exact Calls.regrown_of (rkey_job _ _ _ _ _ _))))
        refine wpQuiet_nil ?_
        intro _ hw'
        obtain ⟨⟨nq, osq⟩, hw''⟩ := hw'
        subst hw''
        have hq := below_regrown W6 nq osq
        clear x0 y0 x1 y1 x2 y2 x3 y3 x4 y4
        dsimp only
        generalize Sort.grow (redrawn W6 nq) osq = W9 at hq ⊢
        have HX := hid (HX.out.below hq HX.out.lt)
        have HY := hid (HY.out.below hq HY.out.lt)
        have HO := hid (ownU_below HO.out hq)
        have HB := hid (HB.out.trans (hq.mono HB.out.size))
        have hyl := HY.out.lt
        have hbs2 := HB.out.size
        clear hq
        rw [Hb2.out]
        cases b2
        · have Hst := hid (Hst.out false)
          have HPn := hid (show (l ++ [(⟨yname, yprio, yneed, ytries, ytag⟩ : JobD)]) ++ putFrom JobD.name ⟨xname, xprio, xneed, xtries, xtag⟩ false (xs.drop (k + 1)) = P from by rw [← HP.out, Hst.out]; simp)
          have hlen : (l ++ [(⟨yname, yprio, yneed, ytries, ytag⟩ : JobD)]).length = l.length + 1 := by simp
          clear Hst HP Hb1 Hb2
          obtain ⟨y0, y1, y2, y3, y4⟩ := Blk.c5 (HY.out)
          go_wp2_with (at_builtin; refine push_rec jobV rfl _ _ 22 38 (.agg #[.string ⟨#[]⟩, .int .i64 0, .int .i64 0, .int .i64 0, .string ⟨#[]⟩]) 5 56 rfl Tryz.underlying22 infoJobT rfl (by decide) jobV_len jobV_oneT (w.heap.size + 1) _ _ _ l rfl HO.out _ ⟨yname, yprio, yneed, ytries, ytag⟩ rfl _ (by simp) rfl (by omega) (by unfold maxLen; omega) (by omega) ?_; intro A3 c3 W10 ho5 hg5; have HX2 := hid (HX.out.grew hg5 (fun q hq => by have := (HO.out.lt q hq).1; omega)); have HB2 := hid (HB.out.trans (hg5.below (B := w.heap.size) hbs2 (fun q hq => by have := (HO.out.lt q hq).1; omega))))
          go_roundw
          case rel => exact ⟨k + 1, A3, c3, l ++ [(⟨yname, yprio, yneed, ytries, ytag⟩ : JobD)], false, by omega, by go_num, by rw [hlen], rfl, HPn.out, by omega, HX2.out, HB2.out, by rw [hlen]; exact ho5⟩
          case measure => simp [intOf]; omega
        · have Hst := hid (Hst.out false)
          have HPn := hid (show (l) ++ putFrom JobD.name ⟨xname, xprio, xneed, xtries, xtag⟩ false (xs.drop (k + 1)) = P from by rw [← HP.out, Hst.out]; simp)
          have hlen : (l).length = l.length := by simp
          clear Hst HP Hb1 Hb2
          go_wp2
          go_roundw
          case rel => exact ⟨k + 1, A', c', l, false, by omega, by go_num, by rw [hlen], rfl, HPn.out, by omega, HX.out, HB.out, by rw [hlen]; exact HO.out⟩
          case measure => simp [intOf]; omega
    · go_wp2_with fail
      rw [HW1.out]
      obtain ⟨x0, x1, x2, x3, x4⟩ := Blk.r5 (HX.out)
      obtain ⟨y0, y1, y2, y3, y4⟩ := Blk.r5 (HY.out)
      refine wp_region_quiet_below (by kernel_rfl) (by kernel_rfl) ?_
      repeat (go_big_quiet_step ((fail)))
      refine wpQuiet_nil ?_
      intro _ hw'
      obtain ⟨⟨nq, osq⟩, hw''⟩ := hw'
      subst hw''
      have hq := below_regrown W1 nq osq
      clear x0 y0 x1 y1 x2 y2 x3 y3 x4 y4
      dsimp only
      generalize Sort.grow (redrawn W1 nq) osq = W6 at hq ⊢
      have HX := hid (HX.out.below hq HX.out.lt)
      have HY := hid (HY.out.below hq HY.out.lt)
      have HO := hid (ownU_below HO.out hq)
      have HB := hid (HB.out.trans (hq.mono HB.out.size))
      have hyl := HY.out.lt
      have hbs2 := HB.out.size
      clear hq
      go_wp2_with fail
      obtain ⟨x0, x1, x2, x3, x4⟩ := Blk.r5 (HX.out)
      obtain ⟨y0, y1, y2, y3, y4⟩ := Blk.r5 (HY.out)
      refine wp_region_quiet_below (by kernel_rfl) (by kernel_rfl) ?_
      repeat (go_big_quiet_step ((go_at_call 61; exact Calls.regrown_of (rkey_job _ _ _ _ _ _))))
      refine wpQuiet_nil ?_
      intro _ hw'
      obtain ⟨⟨nq, osq⟩, hw''⟩ := hw'
      subst hw''
      have hq := below_regrown W6 nq osq
      clear x0 y0 x1 y1 x2 y2 x3 y3 x4 y4
      dsimp only
      generalize Sort.grow (redrawn W6 nq) osq = W9 at hq ⊢
      have HX := hid (HX.out.below hq HX.out.lt)
      have HY := hid (HY.out.below hq HY.out.lt)
      have HO := hid (ownU_below HO.out hq)
      have HB := hid (HB.out.trans (hq.mono HB.out.size))
      have hyl := HY.out.lt
      have hbs2 := HB.out.size
      clear hq
      rw [Hb2.out]
      cases b2
      · have Hst := hid (Hst.out true)
        have HPn := hid (show (l ++ [(⟨yname, yprio, yneed, ytries, ytag⟩ : JobD)]) ++ putFrom JobD.name ⟨xname, xprio, xneed, xtries, xtag⟩ true (xs.drop (k + 1)) = P from by rw [← HP.out, Hst.out]; simp)
        have hlen : (l ++ [(⟨yname, yprio, yneed, ytries, ytag⟩ : JobD)]).length = l.length + 1 := by simp
        clear Hst HP Hb1 Hb2
        obtain ⟨y0, y1, y2, y3, y4⟩ := Blk.c5 (HY.out)
        go_wp2_with (at_builtin; refine push_rec jobV rfl _ _ 22 38 (.agg #[.string ⟨#[]⟩, .int .i64 0, .int .i64 0, .int .i64 0, .string ⟨#[]⟩]) 5 56 rfl Tryz.underlying22 infoJobT rfl (by decide) jobV_len jobV_oneT (w.heap.size + 1) _ _ _ l rfl HO.out _ ⟨yname, yprio, yneed, ytries, ytag⟩ rfl _ (by simp) rfl (by omega) (by unfold maxLen; omega) (by omega) ?_; intro A3 c3 W10 ho5 hg5; have HX2 := hid (HX.out.grew hg5 (fun q hq => by have := (HO.out.lt q hq).1; omega)); have HB2 := hid (HB.out.trans (hg5.below (B := w.heap.size) hbs2 (fun q hq => by have := (HO.out.lt q hq).1; omega))))
        go_roundw
        case rel => exact ⟨k + 1, A3, c3, l ++ [(⟨yname, yprio, yneed, ytries, ytag⟩ : JobD)], true, by omega, by go_num, by rw [hlen], rfl, HPn.out, by omega, HX2.out, HB2.out, by rw [hlen]; exact ho5⟩
        case measure => simp [intOf]; omega
      · have Hst := hid (Hst.out true)
        have HPn := hid (show (l) ++ putFrom JobD.name ⟨xname, xprio, xneed, xtries, xtag⟩ true (xs.drop (k + 1)) = P from by rw [← HP.out, Hst.out]; simp)
        have hlen : (l).length = l.length := by simp
        clear Hst HP Hb1 Hb2
        go_wp2
        go_roundw
        case rel => exact ⟨k + 1, A', c', l, true, by omega, by go_num, by rw [hlen], rfl, HPn.out, by omega, HX.out, HB.out, by rw [hlen]; exact HO.out⟩
        case measure => simp [intOf]; omega
  · obtain rfl : n = k := by omega
    have hd0 : xs.drop n = [] := by rw [← Hl.out]; simp
    have HPe := hid (show l ++ putFrom JobD.name ⟨xname, xprio, xneed, xtries, xtag⟩ d [] = P from by rw [← hd0]; exact HP.out)
    clear HP hd0 Hx
    cases d
    · have HPf := hid (show l ++ [(⟨xname, xprio, xneed, xtries, xtag⟩ : JobD)] = P from HPe.out)
      have hlen : (l ++ [(⟨xname, xprio, xneed, xtries, xtag⟩ : JobD)]).length = l.length + 1 := by simp
      clear HPe
      obtain ⟨x0, x1, x2, x3, x4⟩ := Blk.c5 (HX.out)
      go_wp2_with (at_builtin; refine push_rec jobV rfl _ _ 22 38 (.agg #[.string ⟨#[]⟩, .int .i64 0, .int .i64 0, .int .i64 0, .string ⟨#[]⟩]) 5 56 rfl Tryz.underlying22 infoJobT rfl (by decide) jobV_len jobV_oneT (w.heap.size + 1) _ _ _ l rfl HO.out _ ⟨xname, xprio, xneed, xtries, xtag⟩ rfl _ (by simp) rfl (by omega) (by unfold maxLen; omega) (by omega) ?_; intro A2 c2 W7 ho4 hg4; have HB2 := hid (HB.out.trans (hg4.below (B := w.heap.size) hbs (fun q hq => by have := (HO.out.lt q hq).1; omega))))
      go_ret
      rw [← HPf.out]
      exact ⟨A2, c2, by rw [hlen]; rfl, by rw [hlen]; exact ownT_base ho4 (by omega), HB2.out⟩
    · have HPf := hid (show l = P from by rw [← HPe.out]; exact (List.append_nil _).symm)
      clear HPe
      go_wp2
      go_ret
      rw [← HPf.out]
      exact ⟨A', c', rfl, ownT_base HO.out (by omega), HB.out⟩
theorem rkey_node (name : ByteArray) (room : Int) (zone : ByteArray) (w : World) : Calls Tryz.prog 63 #[.agg #[.string name, .int .i64 room, .string zone]] w fun e w' => e = .returned (.string name) ∧ Below w.heap.size w w' := by
 have HB := hid ((Below.refl w.heap.size w).alloc (Nat.le_refl _) (.cells #[.string name, .int .i64 room, .string zone] 40))
 go_enter Tryz.func63, Tryz.ntmps63
 go_wp2
 go_ret
 exact ⟨rfl, HB.out⟩
theorem rput_node (x : NodeD) (xs : List NodeD) (A : Option Addr) (n c : Nat) (w : World) (hx : SlAt w w.heap.size 3 A n (rowsV nodeV xs)) (hl : xs.length = n) (hn : n ≤ 1000) :
 Calls Tryz.prog 62 #[.slice A n c, .agg (nodeV x).toArray, .func (.func 63) #[] #[]] w (RPutPost 40 3 nodeV (putK NodeD.name xs x) w) := by
 obtain ⟨P, hP⟩ : ∃ P, putK NodeD.name xs x = P := ⟨_, rfl⟩
 have HP0 := hid (show [] ++ putFrom NodeD.name x false (xs.drop 0) = P from hP)
 have HPl := hid (show P.length ≤ n + 1 from by rw [← hP, ← hl]; exact putFrom_len _ _ _ _)
 rw [hP]
 clear hP
 obtain ⟨xname, xroom, xzone⟩ := x
 rw [show (Value.agg (nodeV ⟨xname, xroom, xzone⟩).toArray) = .agg #[.string xname, .int .i64 xroom, .string xzone] from rfl]
 obtain ⟨W0, hW0⟩ : ∃ W0, w.alloc (.cells #[.string xname, .int .i64 xroom, .string xzone] 40) = W0 := ⟨_, rfl⟩
 have HX0 := hid (show Blk W0 w.heap.size 40 #[.string xname, .int .i64 xroom, .string xzone] from by rw [← hW0]; exact heap_alloc_new w _)
 have HB0 := hid (show Below w.heap.size w W0 from by rw [← hW0]; exact (Below.refl _ _).alloc (Nat.le_refl _) _)
 have hs0 : W0.heap.size = w.heap.size + 1 := by rw [← hW0]; simp
 have HW0 := hid hW0
 have Hl := hid hl
 have Hx := hid hx
 clear hW0 hl hx
 go_enter Tryz.func62, Tryz.ntmps62
 go_wp2
 rw [HW0.out]
 go_loopw [7, 8, 13] (fun out done i wr => ∃ (k : Nat) (A : Option Addr) (c : Nat) (l : List NodeD) (d : Bool), k ≤ n ∧ i = .int .i64 k ∧ out = .slice A l.length c ∧ done = .bool d ∧ l ++ putFrom NodeD.name ⟨xname, xroom, xzone⟩ d (xs.drop k) = P ∧ l.length ≤ 2 * k ∧ Blk wr w.heap.size 40 #[.string xname, .int .i64 xroom, .string xzone] ∧ Below w.heap.size w wr ∧ wr.ownsRow (w.heap.size + 1) 40 3 (.slice A l.length c) l.length (rowsV nodeV l)) (fun _ _ i _ => n - (intOf i).toNat)
 case atStart => exact ⟨0, none, 0, [], false, Nat.zero_le _, rfl, rfl, rfl, HP0.out, Nat.le_refl _, HX0.out, HB0.out, World.ownsRow_nil _ _ _ _⟩
 case round =>
  clear HP0 HX0 HB0 HW0 hs0
  obtain ⟨k, A', c', l, d, hk, rfl, rfl, rfl, hp, hll, hX, hb, ho⟩ := hrel
  have HP := hid hp
  have HX := hid hX
  have HB := hid hb
  have HO := hid ho
  have hbs := hb.size
  have hxl := hX.lt
  clear hp hX hb ho
  by_cases hlt : k < n
  · obtain ⟨y, hf⟩ : ∃ y, xs[k]? = some y := ⟨_, List.getElem?_eq_getElem (by have := Hl.out; omega)⟩
    obtain ⟨bb, off, hao, hbB, hc⟩ := (Hx.out.below HB.out).rec_ nodeV_len Hl.out hf
    subst hao
    obtain ⟨b1, hb1⟩ : ∃ b, kless (NodeD.name y) (NodeD.name (⟨xname, xroom, xzone⟩ : NodeD)) = b := ⟨_, rfl⟩
    obtain ⟨b2, hb2⟩ : ∃ b, ((NodeD.name y).toList == (NodeD.name (⟨xname, xroom, xzone⟩ : NodeD)).toList) = b := ⟨_, rfl⟩
    have Hst := hid (fun d => putFrom_step (d := d) hf hb1 hb2)
    obtain ⟨yname, yroom, yzone⟩ := y
    have Hb1 := hid (show Op.bytesLess yname.toList xname.toList = b1 from hb1)
    have Hb2 := hid (show (yname.toList == xname.toList) = b2 from hb2)
    clear hb1 hb2
    obtain ⟨e0, e1, e2⟩ := rc3 hc
    have hlb : bb < wr.heap.size := by omega
    obtain ⟨W1, hW1⟩ : ∃ W1, wr.alloc (.cells #[.string yname, .int .i64 yroom, .string yzone] 40) = W1 := ⟨_, rfl⟩
    have hB1 : Below wr.heap.size wr W1 := by rw [← hW1]; exact (Below.refl _ _).alloc (Nat.le_refl _) _
    have HY := hid (show Blk W1 wr.heap.size 40 #[.string yname, .int .i64 yroom, .string yzone] from by rw [← hW1]; exact heap_alloc_new wr _)
    have HX := hid (HX.out.below hB1 hxl)
    have Hn := hid (show ∀ q, (Value.slice A' l.length c').ownBlock = some q → w.heap.size + 1 ≤ q ∧ q < wr.heap.size from fun q hq => ⟨(HO.out.lt q hq).1, (HO.out.lt q hq).2⟩)
    have HO := hid (ownU_below HO.out hB1)
    have HB := hid (HB.out.trans (hB1.mono hbs))
    have HW1 := hid hW1
    have hyl := HY.out.lt
    clear hc hf hB1 hW1
    cases d
    · go_wp2_with fail
      rw [HW1.out]
      have x0 := fun d os => cell_regrown (show W1.cell? ⟨w.heap.size, 0, none⟩ = some (.string xname) from HX.out.cell 0) d os
      have x1 := fun d os => cell_regrown (show W1.cell? ⟨w.heap.size, 1, none⟩ = some (.int .i64 xroom) from HX.out.cell 1) d os
      have x2 := fun d os => cell_regrown (show W1.cell? ⟨w.heap.size, 2, none⟩ = some (.string xzone) from HX.out.cell 2) d os
      have y0 := fun d os => cell_regrown (show W1.cell? ⟨wr.heap.size, 0, none⟩ = some (.string yname) from HY.out.cell 0) d os
      have y1 := fun d os => cell_regrown (show W1.cell? ⟨wr.heap.size, 1, none⟩ = some (.int .i64 yroom) from HY.out.cell 1) d os
      have y2 := fun d os => cell_regrown (show W1.cell? ⟨wr.heap.size, 2, none⟩ = some (.string yzone) from HY.out.cell 2) d os
      refine wp_region_quiet_below (by kernel_rfl) (by kernel_rfl) ?_
      repeat (go_big_quiet_step ((go_at_call 63; exact Calls.regrown_of (rkey_node _ _ _ _))))
      refine wpQuiet_nil ?_
      intro _ hw'
      obtain ⟨⟨nq, osq⟩, hw''⟩ := hw'
      subst hw''
      have hq := below_regrown W1 nq osq
      clear x0 y0 x1 y1 x2 y2
      dsimp only
      generalize Sort.grow (redrawn W1 nq) osq = W6 at hq ⊢
      have HX := hid (HX.out.below hq HX.out.lt)
      have HY := hid (HY.out.below hq HY.out.lt)
      have HO := hid (ownU_below HO.out hq)
      have HB := hid (HB.out.trans (hq.mono HB.out.size))
      have hyl := HY.out.lt
      have hbs2 := HB.out.size
      clear hq
      rw [Hb1.out]
      cases b1
      · have hlen1 : (l ++ [(⟨xname, xroom, xzone⟩ : NodeD)]).length = l.length + 1 := by simp
        have x0 : W6.cell? ⟨w.heap.size, 0, none⟩ = some (.string xname) := HX.out.cell 0
        have x1 : W6.cell? ⟨w.heap.size, 1, none⟩ = some (.int .i64 xroom) := HX.out.cell 1
        have x2 : W6.cell? ⟨w.heap.size, 2, none⟩ = some (.string xzone) := HX.out.cell 2
        go_wp2_with (at_builtin; refine push_rec nodeV rfl _ _ 23 40 (.agg #[.string ⟨#[]⟩, .int .i64 0, .string ⟨#[]⟩]) 3 40 rfl Tryz.underlying23 infoNodeT rfl (by decide) nodeV_len nodeV_oneT (w.heap.size + 1) _ _ _ l rfl HO.out _ ⟨xname, xroom, xzone⟩ rfl _ (by simp) rfl (by omega) (by unfold maxLen; omega) (by omega) ?_; intro A2 c2 W7 ho4 hg4; have HX2 := hid (HX.out.grew hg4 (fun q hq => by have := (Hn.out q hq).1; omega)); have HY2 := hid (HY.out.grewN hg4 (fun hq => by have := (Hn.out _ hq).2; omega)); have HB2 := hid (HB.out.trans (hg4.below (B := w.heap.size) hbs2 (fun q hq => by have := (Hn.out q hq).1; omega))); have HO2 := hid ho4; clear x0 x1 x2 HX HY HB HO ho4)
        have HX := HX2
        have HY := HY2
        have HB := HB2
        have HO := HO2
        clear HX2 HY2 HB2 HO2 hg4
        have hyl := HY.out.lt
        have x0 := fun d os => cell_regrown (show W7.cell? ⟨w.heap.size, 0, none⟩ = some (.string xname) from HX.out.cell 0) d os
        have x1 := fun d os => cell_regrown (show W7.cell? ⟨w.heap.size, 1, none⟩ = some (.int .i64 xroom) from HX.out.cell 1) d os
        have x2 := fun d os => cell_regrown (show W7.cell? ⟨w.heap.size, 2, none⟩ = some (.string xzone) from HX.out.cell 2) d os
        have y0 := fun d os => cell_regrown (show W7.cell? ⟨wr.heap.size, 0, none⟩ = some (.string yname) from HY.out.cell 0) d os
        have y1 := fun d os => cell_regrown (show W7.cell? ⟨wr.heap.size, 1, none⟩ = some (.int .i64 yroom) from HY.out.cell 1) d os
        have y2 := fun d os => cell_regrown (show W7.cell? ⟨wr.heap.size, 2, none⟩ = some (.string yzone) from HY.out.cell 2) d os
        refine wp_region_quiet_below (by kernel_rfl) (by kernel_rfl) ?_
        repeat (go_big_quiet_step ((go_at_call 63; exact Calls.regrown_of (rkey_node _ _ _ _))))
        refine wpQuiet_nil ?_
        intro _ hw'
        obtain ⟨⟨nq, osq⟩, hw''⟩ := hw'
        subst hw''
        have hq := below_regrown W7 nq osq
        clear x0 y0 x1 y1 x2 y2
        dsimp only
        generalize Sort.grow (redrawn W7 nq) osq = W9 at hq ⊢
        have HX := hid (HX.out.below hq HX.out.lt)
        have HY := hid (HY.out.below hq HY.out.lt)
        have HO := hid (ownU_below HO.out hq)
        have HB := hid (HB.out.trans (hq.mono HB.out.size))
        have hyl := HY.out.lt
        have hbs2 := HB.out.size
        clear hq
        rw [Hb2.out]
        cases b2
        · have Hst := hid (Hst.out false)
          have HPn := hid (show ((l ++ [(⟨xname, xroom, xzone⟩ : NodeD)]) ++ [(⟨yname, yroom, yzone⟩ : NodeD)]) ++ putFrom NodeD.name ⟨xname, xroom, xzone⟩ true (xs.drop (k + 1)) = P from by rw [← HP.out, Hst.out]; simp)
          have hlen : ((l ++ [(⟨xname, xroom, xzone⟩ : NodeD)]) ++ [(⟨yname, yroom, yzone⟩ : NodeD)]).length = (l.length + 1) + 1 := by simp
          clear Hst HP Hb1 Hb2
          have y0 : W9.cell? ⟨wr.heap.size, 0, none⟩ = some (.string yname) := HY.out.cell 0
          have y1 : W9.cell? ⟨wr.heap.size, 1, none⟩ = some (.int .i64 yroom) := HY.out.cell 1
          have y2 : W9.cell? ⟨wr.heap.size, 2, none⟩ = some (.string yzone) := HY.out.cell 2
          go_wp2_with (at_builtin; refine push_rec nodeV rfl _ _ 23 40 (.agg #[.string ⟨#[]⟩, .int .i64 0, .string ⟨#[]⟩]) 3 40 rfl Tryz.underlying23 infoNodeT rfl (by decide) nodeV_len nodeV_oneT (w.heap.size + 1) _ _ _ (l ++ [(⟨xname, xroom, xzone⟩ : NodeD)]) rfl HO.out _ ⟨yname, yroom, yzone⟩ rfl _ (by simp) rfl (by omega) (by unfold maxLen; omega) (by omega) ?_; intro A3 c3 W10 ho5 hg5; have HX2 := hid (HX.out.grew hg5 (fun q hq => by have := (HO.out.lt q hq).1; omega)); have HB2 := hid (HB.out.trans (hg5.below (B := w.heap.size) hbs2 (fun q hq => by have := (HO.out.lt q hq).1; omega))))
          go_roundw
          case rel => exact ⟨k + 1, A3, c3, (l ++ [(⟨xname, xroom, xzone⟩ : NodeD)]) ++ [(⟨yname, yroom, yzone⟩ : NodeD)], true, by omega, by go_num, by rw [hlen], rfl, HPn.out, by omega, HX2.out, HB2.out, by rw [hlen]; exact ho5⟩
          case measure => simp [intOf]; omega
        · have Hst := hid (Hst.out false)
          have HPn := hid (show ((l ++ [(⟨xname, xroom, xzone⟩ : NodeD)])) ++ putFrom NodeD.name ⟨xname, xroom, xzone⟩ true (xs.drop (k + 1)) = P from by rw [← HP.out, Hst.out]; simp)
          have hlen : ((l ++ [(⟨xname, xroom, xzone⟩ : NodeD)])).length = (l.length + 1) := by simp
          clear Hst HP Hb1 Hb2
          go_wp2
          go_roundw
          case rel => exact ⟨k + 1, A2, c2, (l ++ [(⟨xname, xroom, xzone⟩ : NodeD)]), true, by omega, by go_num, by rw [hlen], rfl, HPn.out, by omega, HX.out, HB.out, by rw [hlen]; exact HO.out⟩
          case measure => simp [intOf]; omega
      · go_wp2_with fail
        have x0 := fun d os => cell_regrown (show W6.cell? ⟨w.heap.size, 0, none⟩ = some (.string xname) from HX.out.cell 0) d os
        have x1 := fun d os => cell_regrown (show W6.cell? ⟨w.heap.size, 1, none⟩ = some (.int .i64 xroom) from HX.out.cell 1) d os
        have x2 := fun d os => cell_regrown (show W6.cell? ⟨w.heap.size, 2, none⟩ = some (.string xzone) from HX.out.cell 2) d os
        have y0 := fun d os => cell_regrown (show W6.cell? ⟨wr.heap.size, 0, none⟩ = some (.string yname) from HY.out.cell 0) d os
        have y1 := fun d os => cell_regrown (show W6.cell? ⟨wr.heap.size, 1, none⟩ = some (.int .i64 yroom) from HY.out.cell 1) d os
        have y2 := fun d os => cell_regrown (show W6.cell? ⟨wr.heap.size, 2, none⟩ = some (.string yzone) from HY.out.cell 2) d os
        refine wp_region_quiet_below (by kernel_rfl) (by kernel_rfl) ?_
        repeat (go_big_quiet_step ((go_at_call 63; exact Calls.regrown_of (rkey_node _ _ _ _))))
        refine wpQuiet_nil ?_
        intro _ hw'
        obtain ⟨⟨nq, osq⟩, hw''⟩ := hw'
        subst hw''
        have hq := below_regrown W6 nq osq
        clear x0 y0 x1 y1 x2 y2
        dsimp only
        generalize Sort.grow (redrawn W6 nq) osq = W9 at hq ⊢
        have HX := hid (HX.out.below hq HX.out.lt)
        have HY := hid (HY.out.below hq HY.out.lt)
        have HO := hid (ownU_below HO.out hq)
        have HB := hid (HB.out.trans (hq.mono HB.out.size))
        have hyl := HY.out.lt
        have hbs2 := HB.out.size
        clear hq
        rw [Hb2.out]
        cases b2
        · have Hst := hid (Hst.out false)
          have HPn := hid (show (l ++ [(⟨yname, yroom, yzone⟩ : NodeD)]) ++ putFrom NodeD.name ⟨xname, xroom, xzone⟩ false (xs.drop (k + 1)) = P from by rw [← HP.out, Hst.out]; simp)
          have hlen : (l ++ [(⟨yname, yroom, yzone⟩ : NodeD)]).length = l.length + 1 := by simp
          clear Hst HP Hb1 Hb2
          have y0 : W9.cell? ⟨wr.heap.size, 0, none⟩ = some (.string yname) := HY.out.cell 0
          have y1 : W9.cell? ⟨wr.heap.size, 1, none⟩ = some (.int .i64 yroom) := HY.out.cell 1
          have y2 : W9.cell? ⟨wr.heap.size, 2, none⟩ = some (.string yzone) := HY.out.cell 2
          go_wp2_with (at_builtin; refine push_rec nodeV rfl _ _ 23 40 (.agg #[.string ⟨#[]⟩, .int .i64 0, .string ⟨#[]⟩]) 3 40 rfl Tryz.underlying23 infoNodeT rfl (by decide) nodeV_len nodeV_oneT (w.heap.size + 1) _ _ _ l rfl HO.out _ ⟨yname, yroom, yzone⟩ rfl _ (by simp) rfl (by omega) (by unfold maxLen; omega) (by omega) ?_; intro A3 c3 W10 ho5 hg5; have HX2 := hid (HX.out.grew hg5 (fun q hq => by have := (HO.out.lt q hq).1; omega)); have HB2 := hid (HB.out.trans (hg5.below (B := w.heap.size) hbs2 (fun q hq => by have := (HO.out.lt q hq).1; omega))))
          go_roundw
          case rel => exact ⟨k + 1, A3, c3, l ++ [(⟨yname, yroom, yzone⟩ : NodeD)], false, by omega, by go_num, by rw [hlen], rfl, HPn.out, by omega, HX2.out, HB2.out, by rw [hlen]; exact ho5⟩
          case measure => simp [intOf]; omega
        · have Hst := hid (Hst.out false)
          have HPn := hid (show (l) ++ putFrom NodeD.name ⟨xname, xroom, xzone⟩ false (xs.drop (k + 1)) = P from by rw [← HP.out, Hst.out]; simp)
          have hlen : (l).length = l.length := by simp
          clear Hst HP Hb1 Hb2
          go_wp2
          go_roundw
          case rel => exact ⟨k + 1, A', c', l, false, by omega, by go_num, by rw [hlen], rfl, HPn.out, by omega, HX.out, HB.out, by rw [hlen]; exact HO.out⟩
          case measure => simp [intOf]; omega
    · go_wp2_with fail
      rw [HW1.out]
      have x0 := fun d os => cell_regrown (show W1.cell? ⟨w.heap.size, 0, none⟩ = some (.string xname) from HX.out.cell 0) d os
      have x1 := fun d os => cell_regrown (show W1.cell? ⟨w.heap.size, 1, none⟩ = some (.int .i64 xroom) from HX.out.cell 1) d os
      have x2 := fun d os => cell_regrown (show W1.cell? ⟨w.heap.size, 2, none⟩ = some (.string xzone) from HX.out.cell 2) d os
      have y0 := fun d os => cell_regrown (show W1.cell? ⟨wr.heap.size, 0, none⟩ = some (.string yname) from HY.out.cell 0) d os
      have y1 := fun d os => cell_regrown (show W1.cell? ⟨wr.heap.size, 1, none⟩ = some (.int .i64 yroom) from HY.out.cell 1) d os
      have y2 := fun d os => cell_regrown (show W1.cell? ⟨wr.heap.size, 2, none⟩ = some (.string yzone) from HY.out.cell 2) d os
      refine wp_region_quiet_below (by kernel_rfl) (by kernel_rfl) ?_
      repeat (go_big_quiet_step ((fail)))
      refine wpQuiet_nil ?_
      intro _ hw'
      obtain ⟨⟨nq, osq⟩, hw''⟩ := hw'
      subst hw''
      have hq := below_regrown W1 nq osq
      clear x0 y0 x1 y1 x2 y2
      dsimp only
      generalize Sort.grow (redrawn W1 nq) osq = W6 at hq ⊢
      have HX := hid (HX.out.below hq HX.out.lt)
      have HY := hid (HY.out.below hq HY.out.lt)
      have HO := hid (ownU_below HO.out hq)
      have HB := hid (HB.out.trans (hq.mono HB.out.size))
      have hyl := HY.out.lt
      have hbs2 := HB.out.size
      clear hq
      go_wp2_with fail
      have x0 := fun d os => cell_regrown (show W6.cell? ⟨w.heap.size, 0, none⟩ = some (.string xname) from HX.out.cell 0) d os
      have x1 := fun d os => cell_regrown (show W6.cell? ⟨w.heap.size, 1, none⟩ = some (.int .i64 xroom) from HX.out.cell 1) d os
      have x2 := fun d os => cell_regrown (show W6.cell? ⟨w.heap.size, 2, none⟩ = some (.string xzone) from HX.out.cell 2) d os
      have y0 := fun d os => cell_regrown (show W6.cell? ⟨wr.heap.size, 0, none⟩ = some (.string yname) from HY.out.cell 0) d os
      have y1 := fun d os => cell_regrown (show W6.cell? ⟨wr.heap.size, 1, none⟩ = some (.int .i64 yroom) from HY.out.cell 1) d os
      have y2 := fun d os => cell_regrown (show W6.cell? ⟨wr.heap.size, 2, none⟩ = some (.string yzone) from HY.out.cell 2) d os
      refine wp_region_quiet_below (by kernel_rfl) (by kernel_rfl) ?_
      repeat (go_big_quiet_step ((go_at_call 63; exact Calls.regrown_of (rkey_node _ _ _ _))))
      refine wpQuiet_nil ?_
      intro _ hw'
      obtain ⟨⟨nq, osq⟩, hw''⟩ := hw'
      subst hw''
      have hq := below_regrown W6 nq osq
      clear x0 y0 x1 y1 x2 y2
      dsimp only
      generalize Sort.grow (redrawn W6 nq) osq = W9 at hq ⊢
      have HX := hid (HX.out.below hq HX.out.lt)
      have HY := hid (HY.out.below hq HY.out.lt)
      have HO := hid (ownU_below HO.out hq)
      have HB := hid (HB.out.trans (hq.mono HB.out.size))
      have hyl := HY.out.lt
      have hbs2 := HB.out.size
      clear hq
      rw [Hb2.out]
      cases b2
      · have Hst := hid (Hst.out true)
        have HPn := hid (show (l ++ [(⟨yname, yroom, yzone⟩ : NodeD)]) ++ putFrom NodeD.name ⟨xname, xroom, xzone⟩ true (xs.drop (k + 1)) = P from by rw [← HP.out, Hst.out]; simp)
        have hlen : (l ++ [(⟨yname, yroom, yzone⟩ : NodeD)]).length = l.length + 1 := by simp
        clear Hst HP Hb1 Hb2
        have y0 : W9.cell? ⟨wr.heap.size, 0, none⟩ = some (.string yname) := HY.out.cell 0
        have y1 : W9.cell? ⟨wr.heap.size, 1, none⟩ = some (.int .i64 yroom) := HY.out.cell 1
        have y2 : W9.cell? ⟨wr.heap.size, 2, none⟩ = some (.string yzone) := HY.out.cell 2
        go_wp2_with (at_builtin; refine push_rec nodeV rfl _ _ 23 40 (.agg #[.string ⟨#[]⟩, .int .i64 0, .string ⟨#[]⟩]) 3 40 rfl Tryz.underlying23 infoNodeT rfl (by decide) nodeV_len nodeV_oneT (w.heap.size + 1) _ _ _ l rfl HO.out _ ⟨yname, yroom, yzone⟩ rfl _ (by simp) rfl (by omega) (by unfold maxLen; omega) (by omega) ?_; intro A3 c3 W10 ho5 hg5; have HX2 := hid (HX.out.grew hg5 (fun q hq => by have := (HO.out.lt q hq).1; omega)); have HB2 := hid (HB.out.trans (hg5.below (B := w.heap.size) hbs2 (fun q hq => by have := (HO.out.lt q hq).1; omega))))
        go_roundw
        case rel => exact ⟨k + 1, A3, c3, l ++ [(⟨yname, yroom, yzone⟩ : NodeD)], true, by omega, by go_num, by rw [hlen], rfl, HPn.out, by omega, HX2.out, HB2.out, by rw [hlen]; exact ho5⟩
        case measure => simp [intOf]; omega
      · have Hst := hid (Hst.out true)
        have HPn := hid (show (l) ++ putFrom NodeD.name ⟨xname, xroom, xzone⟩ true (xs.drop (k + 1)) = P from by rw [← HP.out, Hst.out]; simp)
        have hlen : (l).length = l.length := by simp
        clear Hst HP Hb1 Hb2
        go_wp2
        go_roundw
        case rel => exact ⟨k + 1, A', c', l, true, by omega, by go_num, by rw [hlen], rfl, HPn.out, by omega, HX.out, HB.out, by rw [hlen]; exact HO.out⟩
        case measure => simp [intOf]; omega
  · obtain rfl : n = k := by omega
    have hd0 : xs.drop n = [] := by rw [← Hl.out]; simp
    have HPe := hid (show l ++ putFrom NodeD.name ⟨xname, xroom, xzone⟩ d [] = P from by rw [← hd0]; exact HP.out)
    clear HP hd0 Hx
    cases d
    · have HPf := hid (show l ++ [(⟨xname, xroom, xzone⟩ : NodeD)] = P from HPe.out)
      have hlen : (l ++ [(⟨xname, xroom, xzone⟩ : NodeD)]).length = l.length + 1 := by simp
      clear HPe
      have x0 : wr.cell? ⟨w.heap.size, 0, none⟩ = some (.string xname) := HX.out.cell 0
      have x1 : wr.cell? ⟨w.heap.size, 1, none⟩ = some (.int .i64 xroom) := HX.out.cell 1
      have x2 : wr.cell? ⟨w.heap.size, 2, none⟩ = some (.string xzone) := HX.out.cell 2
      go_wp2_with (at_builtin; refine push_rec nodeV rfl _ _ 23 40 (.agg #[.string ⟨#[]⟩, .int .i64 0, .string ⟨#[]⟩]) 3 40 rfl Tryz.underlying23 infoNodeT rfl (by decide) nodeV_len nodeV_oneT (w.heap.size + 1) _ _ _ l rfl HO.out _ ⟨xname, xroom, xzone⟩ rfl _ (by simp) rfl (by omega) (by unfold maxLen; omega) (by omega) ?_; intro A2 c2 W7 ho4 hg4; have HB2 := hid (HB.out.trans (hg4.below (B := w.heap.size) hbs (fun q hq => by have := (HO.out.lt q hq).1; omega))))
      go_ret
      rw [← HPf.out]
      exact ⟨A2, c2, by rw [hlen]; rfl, by rw [hlen]; exact ownT_base ho4 (by omega), HB2.out⟩
    · have HPf := hid (show l = P from by rw [← HPe.out]; exact (List.append_nil _).symm)
      clear HPe
      go_wp2
      go_ret
      rw [← HPf.out]
      exact ⟨A', c', rfl, ownT_base HO.out (by omega), HB.out⟩
theorem rkey_lease (job : ByteArray) (node : ByteArray) (till : Int) (w : World) : Calls Tryz.prog 65 #[.agg #[.string job, .string node, .int .i64 till]] w fun e w' => e = .returned (.string job) ∧ Below w.heap.size w w' := by
 have HB := hid ((Below.refl w.heap.size w).alloc (Nat.le_refl _) (.cells #[.string job, .string node, .int .i64 till] 42))
 go_enter Tryz.func65, Tryz.ntmps65
 go_wp2
 go_ret
 exact ⟨rfl, HB.out⟩
theorem rput_lease (x : LeaseD) (xs : List LeaseD) (A : Option Addr) (n c : Nat) (w : World) (hx : SlAt w w.heap.size 3 A n (rowsV leaseV xs)) (hl : xs.length = n) (hn : n ≤ 1000) :
 Calls Tryz.prog 64 #[.slice A n c, .agg (leaseV x).toArray, .func (.func 65) #[] #[]] w (RPutPost 42 3 leaseV (putK LeaseD.job xs x) w) := by
 obtain ⟨P, hP⟩ : ∃ P, putK LeaseD.job xs x = P := ⟨_, rfl⟩
 have HP0 := hid (show [] ++ putFrom LeaseD.job x false (xs.drop 0) = P from hP)
 have HPl := hid (show P.length ≤ n + 1 from by rw [← hP, ← hl]; exact putFrom_len _ _ _ _)
 rw [hP]
 clear hP
 obtain ⟨xjob, xnode, xtill⟩ := x
 rw [show (Value.agg (leaseV ⟨xjob, xnode, xtill⟩).toArray) = .agg #[.string xjob, .string xnode, .int .i64 xtill] from rfl]
 obtain ⟨W0, hW0⟩ : ∃ W0, w.alloc (.cells #[.string xjob, .string xnode, .int .i64 xtill] 42) = W0 := ⟨_, rfl⟩
 have HX0 := hid (show Blk W0 w.heap.size 42 #[.string xjob, .string xnode, .int .i64 xtill] from by rw [← hW0]; exact heap_alloc_new w _)
 have HB0 := hid (show Below w.heap.size w W0 from by rw [← hW0]; exact (Below.refl _ _).alloc (Nat.le_refl _) _)
 have hs0 : W0.heap.size = w.heap.size + 1 := by rw [← hW0]; simp
 have HW0 := hid hW0
 have Hl := hid hl
 have Hx := hid hx
 clear hW0 hl hx
 go_enter Tryz.func64, Tryz.ntmps64
 go_wp2
 rw [HW0.out]
 go_loopw [7, 8, 13] (fun out done i wr => ∃ (k : Nat) (A : Option Addr) (c : Nat) (l : List LeaseD) (d : Bool), k ≤ n ∧ i = .int .i64 k ∧ out = .slice A l.length c ∧ done = .bool d ∧ l ++ putFrom LeaseD.job ⟨xjob, xnode, xtill⟩ d (xs.drop k) = P ∧ l.length ≤ 2 * k ∧ Blk wr w.heap.size 42 #[.string xjob, .string xnode, .int .i64 xtill] ∧ Below w.heap.size w wr ∧ wr.ownsRow (w.heap.size + 1) 42 3 (.slice A l.length c) l.length (rowsV leaseV l)) (fun _ _ i _ => n - (intOf i).toNat)
 case atStart => exact ⟨0, none, 0, [], false, Nat.zero_le _, rfl, rfl, rfl, HP0.out, Nat.le_refl _, HX0.out, HB0.out, World.ownsRow_nil _ _ _ _⟩
 case round =>
  clear HP0 HX0 HB0 HW0 hs0
  obtain ⟨k, A', c', l, d, hk, rfl, rfl, rfl, hp, hll, hX, hb, ho⟩ := hrel
  have HP := hid hp
  have HX := hid hX
  have HB := hid hb
  have HO := hid ho
  have hbs := hb.size
  have hxl := hX.lt
  clear hp hX hb ho
  by_cases hlt : k < n
  · obtain ⟨y, hf⟩ : ∃ y, xs[k]? = some y := ⟨_, List.getElem?_eq_getElem (by have := Hl.out; omega)⟩
    obtain ⟨bb, off, hao, hbB, hc⟩ := (Hx.out.below HB.out).rec_ leaseV_len Hl.out hf
    subst hao
    obtain ⟨b1, hb1⟩ : ∃ b, kless (LeaseD.job y) (LeaseD.job (⟨xjob, xnode, xtill⟩ : LeaseD)) = b := ⟨_, rfl⟩
    obtain ⟨b2, hb2⟩ : ∃ b, ((LeaseD.job y).toList == (LeaseD.job (⟨xjob, xnode, xtill⟩ : LeaseD)).toList) = b := ⟨_, rfl⟩
    have Hst := hid (fun d => putFrom_step (d := d) hf hb1 hb2)
    obtain ⟨yjob, ynode, ytill⟩ := y
    have Hb1 := hid (show Op.bytesLess yjob.toList xjob.toList = b1 from hb1)
    have Hb2 := hid (show (yjob.toList == xjob.toList) = b2 from hb2)
    clear hb1 hb2
    obtain ⟨e0, e1, e2⟩ := rc3 hc
    have hlb : bb < wr.heap.size := by omega
    obtain ⟨W1, hW1⟩ : ∃ W1, wr.alloc (.cells #[.string yjob, .string ynode, .int .i64 ytill] 42) = W1 := ⟨_, rfl⟩
    have hB1 : Below wr.heap.size wr W1 := by rw [← hW1]; exact (Below.refl _ _).alloc (Nat.le_refl _) _
    have HY := hid (show Blk W1 wr.heap.size 42 #[.string yjob, .string ynode, .int .i64 ytill] from by rw [← hW1]; exact heap_alloc_new wr _)
    have HX := hid (HX.out.below hB1 hxl)
    have Hn := hid (show ∀ q, (Value.slice A' l.length c').ownBlock = some q → w.heap.size + 1 ≤ q ∧ q < wr.heap.size from fun q hq => ⟨(HO.out.lt q hq).1, (HO.out.lt q hq).2⟩)
    have HO := hid (ownU_below HO.out hB1)
    have HB := hid (HB.out.trans (hB1.mono hbs))
    have HW1 := hid hW1
    have hyl := HY.out.lt
    clear hc hf hB1 hW1
    cases d
    · go_wp2_with fail
      rw [HW1.out]
      have x0 := fun d os => cell_regrown (show W1.cell? ⟨w.heap.size, 0, none⟩ = some (.string xjob) from HX.out.cell 0) d os
      have x1 := fun d os => cell_regrown (show W1.cell? ⟨w.heap.size, 1, none⟩ = some (.string xnode) from HX.out.cell 1) d os
      have x2 := fun d os => cell_regrown (show W1.cell? ⟨w.heap.size, 2, none⟩ = some (.int .i64 xtill) from HX.out.cell 2) d os
      have y0 := fun d os => cell_regrown (show W1.cell? ⟨wr.heap.size, 0, none⟩ = some (.string yjob) from HY.out.cell 0) d os
      have y1 := fun d os => cell_regrown (show W1.cell? ⟨wr.heap.size, 1, none⟩ = some (.string ynode) from HY.out.cell 1) d os
      have y2 := fun d os => cell_regrown (show W1.cell? ⟨wr.heap.size, 2, none⟩ = some (.int .i64 ytill) from HY.out.cell 2) d os
      refine wp_region_quiet_below (by kernel_rfl) (by kernel_rfl) ?_
      repeat (go_big_quiet_step ((go_at_call 65; exact Calls.regrown_of (rkey_lease _ _ _ _))))
      refine wpQuiet_nil ?_
      intro _ hw'
      obtain ⟨⟨nq, osq⟩, hw''⟩ := hw'
      subst hw''
      have hq := below_regrown W1 nq osq
      clear x0 y0 x1 y1 x2 y2
      dsimp only
      generalize Sort.grow (redrawn W1 nq) osq = W6 at hq ⊢
      have HX := hid (HX.out.below hq HX.out.lt)
      have HY := hid (HY.out.below hq HY.out.lt)
      have HO := hid (ownU_below HO.out hq)
      have HB := hid (HB.out.trans (hq.mono HB.out.size))
      have hyl := HY.out.lt
      have hbs2 := HB.out.size
      clear hq
      rw [Hb1.out]
      cases b1
      · have hlen1 : (l ++ [(⟨xjob, xnode, xtill⟩ : LeaseD)]).length = l.length + 1 := by simp
        have x0 : W6.cell? ⟨w.heap.size, 0, none⟩ = some (.string xjob) := HX.out.cell 0
        have x1 : W6.cell? ⟨w.heap.size, 1, none⟩ = some (.string xnode) := HX.out.cell 1
        have x2 : W6.cell? ⟨w.heap.size, 2, none⟩ = some (.int .i64 xtill) := HX.out.cell 2
        go_wp2_with (at_builtin; refine push_rec leaseV rfl _ _ 24 42 (.agg #[.string ⟨#[]⟩, .string ⟨#[]⟩, .int .i64 0]) 3 40 rfl Tryz.underlying24 infoLeaseT rfl (by decide) leaseV_len leaseV_oneT (w.heap.size + 1) _ _ _ l rfl HO.out _ ⟨xjob, xnode, xtill⟩ rfl _ (by simp) rfl (by omega) (by unfold maxLen; omega) (by omega) ?_; intro A2 c2 W7 ho4 hg4; have HX2 := hid (HX.out.grew hg4 (fun q hq => by have := (Hn.out q hq).1; omega)); have HY2 := hid (HY.out.grewN hg4 (fun hq => by have := (Hn.out _ hq).2; omega)); have HB2 := hid (HB.out.trans (hg4.below (B := w.heap.size) hbs2 (fun q hq => by have := (Hn.out q hq).1; omega))); have HO2 := hid ho4; clear x0 x1 x2 HX HY HB HO ho4)
        have HX := HX2
        have HY := HY2
        have HB := HB2
        have HO := HO2
        clear HX2 HY2 HB2 HO2 hg4
        have hyl := HY.out.lt
        have x0 := fun d os => cell_regrown (show W7.cell? ⟨w.heap.size, 0, none⟩ = some (.string xjob) from HX.out.cell 0) d os
        have x1 := fun d os => cell_regrown (show W7.cell? ⟨w.heap.size, 1, none⟩ = some (.string xnode) from HX.out.cell 1) d os
        have x2 := fun d os => cell_regrown (show W7.cell? ⟨w.heap.size, 2, none⟩ = some (.int .i64 xtill) from HX.out.cell 2) d os
        have y0 := fun d os => cell_regrown (show W7.cell? ⟨wr.heap.size, 0, none⟩ = some (.string yjob) from HY.out.cell 0) d os
        have y1 := fun d os => cell_regrown (show W7.cell? ⟨wr.heap.size, 1, none⟩ = some (.string ynode) from HY.out.cell 1) d os
        have y2 := fun d os => cell_regrown (show W7.cell? ⟨wr.heap.size, 2, none⟩ = some (.int .i64 ytill) from HY.out.cell 2) d os
        refine wp_region_quiet_below (by kernel_rfl) (by kernel_rfl) ?_
        repeat (go_big_quiet_step ((go_at_call 65; exact Calls.regrown_of (rkey_lease _ _ _ _))))
        refine wpQuiet_nil ?_
        intro _ hw'
        obtain ⟨⟨nq, osq⟩, hw''⟩ := hw'
        subst hw''
        have hq := below_regrown W7 nq osq
        clear x0 y0 x1 y1 x2 y2
        dsimp only
        generalize Sort.grow (redrawn W7 nq) osq = W9 at hq ⊢
        have HX := hid (HX.out.below hq HX.out.lt)
        have HY := hid (HY.out.below hq HY.out.lt)
        have HO := hid (ownU_below HO.out hq)
        have HB := hid (HB.out.trans (hq.mono HB.out.size))
        have hyl := HY.out.lt
        have hbs2 := HB.out.size
        clear hq
        rw [Hb2.out]
        cases b2
        · have Hst := hid (Hst.out false)
          have HPn := hid (show ((l ++ [(⟨xjob, xnode, xtill⟩ : LeaseD)]) ++ [(⟨yjob, ynode, ytill⟩ : LeaseD)]) ++ putFrom LeaseD.job ⟨xjob, xnode, xtill⟩ true (xs.drop (k + 1)) = P from by rw [← HP.out, Hst.out]; simp)
          have hlen : ((l ++ [(⟨xjob, xnode, xtill⟩ : LeaseD)]) ++ [(⟨yjob, ynode, ytill⟩ : LeaseD)]).length = (l.length + 1) + 1 := by simp
          clear Hst HP Hb1 Hb2
          have y0 : W9.cell? ⟨wr.heap.size, 0, none⟩ = some (.string yjob) := HY.out.cell 0
          have y1 : W9.cell? ⟨wr.heap.size, 1, none⟩ = some (.string ynode) := HY.out.cell 1
          have y2 : W9.cell? ⟨wr.heap.size, 2, none⟩ = some (.int .i64 ytill) := HY.out.cell 2
          go_wp2_with (at_builtin; refine push_rec leaseV rfl _ _ 24 42 (.agg #[.string ⟨#[]⟩, .string ⟨#[]⟩, .int .i64 0]) 3 40 rfl Tryz.underlying24 infoLeaseT rfl (by decide) leaseV_len leaseV_oneT (w.heap.size + 1) _ _ _ (l ++ [(⟨xjob, xnode, xtill⟩ : LeaseD)]) rfl HO.out _ ⟨yjob, ynode, ytill⟩ rfl _ (by simp) rfl (by omega) (by unfold maxLen; omega) (by omega) ?_; intro A3 c3 W10 ho5 hg5; have HX2 := hid (HX.out.grew hg5 (fun q hq => by have := (HO.out.lt q hq).1; omega)); have HB2 := hid (HB.out.trans (hg5.below (B := w.heap.size) hbs2 (fun q hq => by have := (HO.out.lt q hq).1; omega))))
          go_roundw
          case rel => exact ⟨k + 1, A3, c3, (l ++ [(⟨xjob, xnode, xtill⟩ : LeaseD)]) ++ [(⟨yjob, ynode, ytill⟩ : LeaseD)], true, by omega, by go_num, by rw [hlen], rfl, HPn.out, by omega, HX2.out, HB2.out, by rw [hlen]; exact ho5⟩
          case measure => simp [intOf]; omega
        · have Hst := hid (Hst.out false)
          have HPn := hid (show ((l ++ [(⟨xjob, xnode, xtill⟩ : LeaseD)])) ++ putFrom LeaseD.job ⟨xjob, xnode, xtill⟩ true (xs.drop (k + 1)) = P from by rw [← HP.out, Hst.out]; simp)
          have hlen : ((l ++ [(⟨xjob, xnode, xtill⟩ : LeaseD)])).length = (l.length + 1) := by simp
          clear Hst HP Hb1 Hb2
          go_wp2
          go_roundw
          case rel => exact ⟨k + 1, A2, c2, (l ++ [(⟨xjob, xnode, xtill⟩ : LeaseD)]), true, by omega, by go_num, by rw [hlen], rfl, HPn.out, by omega, HX.out, HB.out, by rw [hlen]; exact HO.out⟩
          case measure => simp [intOf]; omega
      · go_wp2_with fail
        have x0 := fun d os => cell_regrown (show W6.cell? ⟨w.heap.size, 0, none⟩ = some (.string xjob) from HX.out.cell 0) d os
        have x1 := fun d os => cell_regrown (show W6.cell? ⟨w.heap.size, 1, none⟩ = some (.string xnode) from HX.out.cell 1) d os
        have x2 := fun d os => cell_regrown (show W6.cell? ⟨w.heap.size, 2, none⟩ = some (.int .i64 xtill) from HX.out.cell 2) d os
        have y0 := fun d os => cell_regrown (show W6.cell? ⟨wr.heap.size, 0, none⟩ = some (.string yjob) from HY.out.cell 0) d os
        have y1 := fun d os => cell_regrown (show W6.cell? ⟨wr.heap.size, 1, none⟩ = some (.string ynode) from HY.out.cell 1) d os
        have y2 := fun d os => cell_regrown (show W6.cell? ⟨wr.heap.size, 2, none⟩ = some (.int .i64 ytill) from HY.out.cell 2) d os
        refine wp_region_quiet_below (by kernel_rfl) (by kernel_rfl) ?_
        repeat (go_big_quiet_step ((go_at_call 65; exact Calls.regrown_of (rkey_lease _ _ _ _))))
        refine wpQuiet_nil ?_
        intro _ hw'
        obtain ⟨⟨nq, osq⟩, hw''⟩ := hw'
        subst hw''
        have hq := below_regrown W6 nq osq
        clear x0 y0 x1 y1 x2 y2
        dsimp only
        generalize Sort.grow (redrawn W6 nq) osq = W9 at hq ⊢
        have HX := hid (HX.out.below hq HX.out.lt)
        have HY := hid (HY.out.below hq HY.out.lt)
        have HO := hid (ownU_below HO.out hq)
        have HB := hid (HB.out.trans (hq.mono HB.out.size))
        have hyl := HY.out.lt
        have hbs2 := HB.out.size
        clear hq
        rw [Hb2.out]
        cases b2
        · have Hst := hid (Hst.out false)
          have HPn := hid (show (l ++ [(⟨yjob, ynode, ytill⟩ : LeaseD)]) ++ putFrom LeaseD.job ⟨xjob, xnode, xtill⟩ false (xs.drop (k + 1)) = P from by rw [← HP.out, Hst.out]; simp)
          have hlen : (l ++ [(⟨yjob, ynode, ytill⟩ : LeaseD)]).length = l.length + 1 := by simp
          clear Hst HP Hb1 Hb2
          have y0 : W9.cell? ⟨wr.heap.size, 0, none⟩ = some (.string yjob) := HY.out.cell 0
          have y1 : W9.cell? ⟨wr.heap.size, 1, none⟩ = some (.string ynode) := HY.out.cell 1
          have y2 : W9.cell? ⟨wr.heap.size, 2, none⟩ = some (.int .i64 ytill) := HY.out.cell 2
          go_wp2_with (at_builtin; refine push_rec leaseV rfl _ _ 24 42 (.agg #[.string ⟨#[]⟩, .string ⟨#[]⟩, .int .i64 0]) 3 40 rfl Tryz.underlying24 infoLeaseT rfl (by decide) leaseV_len leaseV_oneT (w.heap.size + 1) _ _ _ l rfl HO.out _ ⟨yjob, ynode, ytill⟩ rfl _ (by simp) rfl (by omega) (by unfold maxLen; omega) (by omega) ?_; intro A3 c3 W10 ho5 hg5; have HX2 := hid (HX.out.grew hg5 (fun q hq => by have := (HO.out.lt q hq).1; omega)); have HB2 := hid (HB.out.trans (hg5.below (B := w.heap.size) hbs2 (fun q hq => by have := (HO.out.lt q hq).1; omega))))
          go_roundw
          case rel => exact ⟨k + 1, A3, c3, l ++ [(⟨yjob, ynode, ytill⟩ : LeaseD)], false, by omega, by go_num, by rw [hlen], rfl, HPn.out, by omega, HX2.out, HB2.out, by rw [hlen]; exact ho5⟩
          case measure => simp [intOf]; omega
        · have Hst := hid (Hst.out false)
          have HPn := hid (show (l) ++ putFrom LeaseD.job ⟨xjob, xnode, xtill⟩ false (xs.drop (k + 1)) = P from by rw [← HP.out, Hst.out]; simp)
          have hlen : (l).length = l.length := by simp
          clear Hst HP Hb1 Hb2
          go_wp2
          go_roundw
          case rel => exact ⟨k + 1, A', c', l, false, by omega, by go_num, by rw [hlen], rfl, HPn.out, by omega, HX.out, HB.out, by rw [hlen]; exact HO.out⟩
          case measure => simp [intOf]; omega
    · go_wp2_with fail
      rw [HW1.out]
      have x0 := fun d os => cell_regrown (show W1.cell? ⟨w.heap.size, 0, none⟩ = some (.string xjob) from HX.out.cell 0) d os
      have x1 := fun d os => cell_regrown (show W1.cell? ⟨w.heap.size, 1, none⟩ = some (.string xnode) from HX.out.cell 1) d os
      have x2 := fun d os => cell_regrown (show W1.cell? ⟨w.heap.size, 2, none⟩ = some (.int .i64 xtill) from HX.out.cell 2) d os
      have y0 := fun d os => cell_regrown (show W1.cell? ⟨wr.heap.size, 0, none⟩ = some (.string yjob) from HY.out.cell 0) d os
      have y1 := fun d os => cell_regrown (show W1.cell? ⟨wr.heap.size, 1, none⟩ = some (.string ynode) from HY.out.cell 1) d os
      have y2 := fun d os => cell_regrown (show W1.cell? ⟨wr.heap.size, 2, none⟩ = some (.int .i64 ytill) from HY.out.cell 2) d os
      refine wp_region_quiet_below (by kernel_rfl) (by kernel_rfl) ?_
      repeat (go_big_quiet_step ((fail)))
      refine wpQuiet_nil ?_
      intro _ hw'
      obtain ⟨⟨nq, osq⟩, hw''⟩ := hw'
      subst hw''
      have hq := below_regrown W1 nq osq
      clear x0 y0 x1 y1 x2 y2
      dsimp only
      generalize Sort.grow (redrawn W1 nq) osq = W6 at hq ⊢
      have HX := hid (HX.out.below hq HX.out.lt)
      have HY := hid (HY.out.below hq HY.out.lt)
      have HO := hid (ownU_below HO.out hq)
      have HB := hid (HB.out.trans (hq.mono HB.out.size))
      have hyl := HY.out.lt
      have hbs2 := HB.out.size
      clear hq
      go_wp2_with fail
      have x0 := fun d os => cell_regrown (show W6.cell? ⟨w.heap.size, 0, none⟩ = some (.string xjob) from HX.out.cell 0) d os
      have x1 := fun d os => cell_regrown (show W6.cell? ⟨w.heap.size, 1, none⟩ = some (.string xnode) from HX.out.cell 1) d os
      have x2 := fun d os => cell_regrown (show W6.cell? ⟨w.heap.size, 2, none⟩ = some (.int .i64 xtill) from HX.out.cell 2) d os
      have y0 := fun d os => cell_regrown (show W6.cell? ⟨wr.heap.size, 0, none⟩ = some (.string yjob) from HY.out.cell 0) d os
      have y1 := fun d os => cell_regrown (show W6.cell? ⟨wr.heap.size, 1, none⟩ = some (.string ynode) from HY.out.cell 1) d os
      have y2 := fun d os => cell_regrown (show W6.cell? ⟨wr.heap.size, 2, none⟩ = some (.int .i64 ytill) from HY.out.cell 2) d os
      refine wp_region_quiet_below (by kernel_rfl) (by kernel_rfl) ?_
      repeat (go_big_quiet_step ((go_at_call 65; exact Calls.regrown_of (rkey_lease _ _ _ _))))
      refine wpQuiet_nil ?_
      intro _ hw'
      obtain ⟨⟨nq, osq⟩, hw''⟩ := hw'
      subst hw''
      have hq := below_regrown W6 nq osq
      clear x0 y0 x1 y1 x2 y2
      dsimp only
      generalize Sort.grow (redrawn W6 nq) osq = W9 at hq ⊢
      have HX := hid (HX.out.below hq HX.out.lt)
      have HY := hid (HY.out.below hq HY.out.lt)
      have HO := hid (ownU_below HO.out hq)
      have HB := hid (HB.out.trans (hq.mono HB.out.size))
      have hyl := HY.out.lt
      have hbs2 := HB.out.size
      clear hq
      rw [Hb2.out]
      cases b2
      · have Hst := hid (Hst.out true)
        have HPn := hid (show (l ++ [(⟨yjob, ynode, ytill⟩ : LeaseD)]) ++ putFrom LeaseD.job ⟨xjob, xnode, xtill⟩ true (xs.drop (k + 1)) = P from by rw [← HP.out, Hst.out]; simp)
        have hlen : (l ++ [(⟨yjob, ynode, ytill⟩ : LeaseD)]).length = l.length + 1 := by simp
        clear Hst HP Hb1 Hb2
        have y0 : W9.cell? ⟨wr.heap.size, 0, none⟩ = some (.string yjob) := HY.out.cell 0
        have y1 : W9.cell? ⟨wr.heap.size, 1, none⟩ = some (.string ynode) := HY.out.cell 1
        have y2 : W9.cell? ⟨wr.heap.size, 2, none⟩ = some (.int .i64 ytill) := HY.out.cell 2
        go_wp2_with (at_builtin; refine push_rec leaseV rfl _ _ 24 42 (.agg #[.string ⟨#[]⟩, .string ⟨#[]⟩, .int .i64 0]) 3 40 rfl Tryz.underlying24 infoLeaseT rfl (by decide) leaseV_len leaseV_oneT (w.heap.size + 1) _ _ _ l rfl HO.out _ ⟨yjob, ynode, ytill⟩ rfl _ (by simp) rfl (by omega) (by unfold maxLen; omega) (by omega) ?_; intro A3 c3 W10 ho5 hg5; have HX2 := hid (HX.out.grew hg5 (fun q hq => by have := (HO.out.lt q hq).1; omega)); have HB2 := hid (HB.out.trans (hg5.below (B := w.heap.size) hbs2 (fun q hq => by have := (HO.out.lt q hq).1; omega))))
        go_roundw
        case rel => exact ⟨k + 1, A3, c3, l ++ [(⟨yjob, ynode, ytill⟩ : LeaseD)], true, by omega, by go_num, by rw [hlen], rfl, HPn.out, by omega, HX2.out, HB2.out, by rw [hlen]; exact ho5⟩
        case measure => simp [intOf]; omega
      · have Hst := hid (Hst.out true)
        have HPn := hid (show (l) ++ putFrom LeaseD.job ⟨xjob, xnode, xtill⟩ true (xs.drop (k + 1)) = P from by rw [← HP.out, Hst.out]; simp)
        have hlen : (l).length = l.length := by simp
        clear Hst HP Hb1 Hb2
        go_wp2
        go_roundw
        case rel => exact ⟨k + 1, A', c', l, true, by omega, by go_num, by rw [hlen], rfl, HPn.out, by omega, HX.out, HB.out, by rw [hlen]; exact HO.out⟩
        case measure => simp [intOf]; omega
  · obtain rfl : n = k := by omega
    have hd0 : xs.drop n = [] := by rw [← Hl.out]; simp
    have HPe := hid (show l ++ putFrom LeaseD.job ⟨xjob, xnode, xtill⟩ d [] = P from by rw [← hd0]; exact HP.out)
    clear HP hd0 Hx
    cases d
    · have HPf := hid (show l ++ [(⟨xjob, xnode, xtill⟩ : LeaseD)] = P from HPe.out)
      have hlen : (l ++ [(⟨xjob, xnode, xtill⟩ : LeaseD)]).length = l.length + 1 := by simp
      clear HPe
      have x0 : wr.cell? ⟨w.heap.size, 0, none⟩ = some (.string xjob) := HX.out.cell 0
      have x1 : wr.cell? ⟨w.heap.size, 1, none⟩ = some (.string xnode) := HX.out.cell 1
      have x2 : wr.cell? ⟨w.heap.size, 2, none⟩ = some (.int .i64 xtill) := HX.out.cell 2
      go_wp2_with (at_builtin; refine push_rec leaseV rfl _ _ 24 42 (.agg #[.string ⟨#[]⟩, .string ⟨#[]⟩, .int .i64 0]) 3 40 rfl Tryz.underlying24 infoLeaseT rfl (by decide) leaseV_len leaseV_oneT (w.heap.size + 1) _ _ _ l rfl HO.out _ ⟨xjob, xnode, xtill⟩ rfl _ (by simp) rfl (by omega) (by unfold maxLen; omega) (by omega) ?_; intro A2 c2 W7 ho4 hg4; have HB2 := hid (HB.out.trans (hg4.below (B := w.heap.size) hbs (fun q hq => by have := (HO.out.lt q hq).1; omega))))
      go_ret
      rw [← HPf.out]
      exact ⟨A2, c2, by rw [hlen]; rfl, by rw [hlen]; exact ownT_base ho4 (by omega), HB2.out⟩
    · have HPf := hid (show l = P from by rw [← HPe.out]; exact (List.append_nil _).symm)
      clear HPe
      go_wp2
      go_ret
      rw [← HPf.out]
      exact ⟨A', c', rfl, ownT_base HO.out (by omega), HB.out⟩
end Go.Proofs.YtjgnnobccecpeaaGreatDoor
