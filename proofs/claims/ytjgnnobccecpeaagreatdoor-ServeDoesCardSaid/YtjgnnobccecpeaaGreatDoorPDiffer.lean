/- Of the proof of a statement: Differ. -/
import Derived.Lib.QuietBelow
import Derived.Test.YtjgnnobccecpeaaGreatDoorPSlEq
set_option linter.unusedVariables false
set_option linter.unusedSimpArgs false
set_option maxRecDepth 100000
set_option maxHeartbeats 8000000
/- The walks of differ, at jobs, nodes and leases. -/
namespace Go.Proofs.YtjgnnobccecpeaaGreatDoor
open Go.Lib (hid)
open Go.RowKit
def DfPost {α : Type} (key : α → ByteArray) (a b : List α) (T : TypeId) (sz : Nat) (enc : α → List Value) (w : World) (e : Ending) (w' : World) : Prop :=
 ∃ A c G c', e = .returned (.tuple #[.slice A (newL a b).length c, .slice G (goneL key a b).length c']) ∧ w'.ownsRow (w.heap.size + 1) T sz (.slice A (newL a b).length c) (newL a b).length (rowsV enc (newL a b)) ∧
  w'.ownsRow (w.heap.size + 1) 9 1 (.slice G (goneL key a b).length c') (goneL key a b).length (rowsV strV (goneL key a b)) ∧ Below w.heap.size w w'
structure DfAt (w0 : World) (F : FuncId) (wr : World) : Prop where
 below : Below w0.heap.size w0 wr
 key : wr.cell? ⟨w0.heap.size, 0, none⟩ = some (.func (.func F) #[] #[])
 size : w0.heap.size < wr.heap.size
theorem DfAt.kept {w0 w w' : World} {F : FuncId} (h : DfAt w0 F w) (hb : Below w.heap.size w w') : DfAt w0 F w' :=
 ⟨h.below.trans (hb.mono h.below.size), (hb.cell (p := ⟨w0.heap.size, 0, none⟩) h.size).trans h.key, Nat.lt_of_lt_of_le h.size hb.size⟩
theorem DfAt.grew {w0 w w' : World} {F : FuncId} {v v' : Value} (h : DfAt w0 F w) (hg : Grew w w' v v') (hv : ∀ k, v.ownBlock = some k → w0.heap.size + 1 ≤ k) : DfAt w0 F w' :=
 have hb := hg.below (B := w0.heap.size + 1) h.size hv
 ⟨h.below.trans (hb.mono (Nat.le_succ _)), (hb.cell (p := ⟨w0.heap.size, 0, none⟩) (Nat.lt_succ_self _)).trans h.key, Nat.lt_of_lt_of_le h.size hb.size⟩
theorem goneL_step {α : Type} {key : α → ByteArray} {a b : List α} {k : Nat} {x : α} (h : a[k]? = some x) : ((b.any fun y => decide (key y = key x)) = false → (((a.take (k + 1)).filter fun x => !b.any fun y => decide (key y = key x)).map key) = (((a.take k).filter fun x => !b.any fun y => decide (key y = key x)).map key) ++ [key x]) ∧ ((b.any fun y => decide (key y = key x)) = true → (((a.take (k + 1)).filter fun x => !b.any fun y => decide (key y = key x)).map key) = (((a.take k).filter fun x => !b.any fun y => decide (key y = key x)).map key)) := by
 constructor
 · intro h1
   rw [filter_yes (p := fun x => !b.any fun y => decide (key y = key x)) h (by simp only [h1]; rfl), List.map_append]; rfl
 · intro h1
   rw [filter_no (p := fun x => !b.any fun y => decide (key y = key x)) h (by simp only [h1]; rfl)]
theorem difJob_is (yname : ByteArray) (yprio : Int) (yneed : Int) (ytries : Int) (ytag : ByteArray) (xname : ByteArray) (xprio : Int) (xneed : Int) (xtries : Int) (xtag : ByteArray) (kb xb : Nat) (w : World) (hk : w.cell? ⟨kb, 0, none⟩ = some (.func (.func 46) #[] #[])) (hx : Blk w xb 38 #[.string xname, .int .i64 xprio, .int .i64 xneed, .int .i64 xtries, .string xtag]) :
 Calls Tryz.prog 195 #[.agg #[.string yname, .int .i64 yprio, .int .i64 yneed, .int .i64 ytries, .string ytag], .pointer (some ⟨kb, 0, none⟩), .pointer (some ⟨xb, 0, none⟩)] w fun e w' => e = .returned (.bool (decide (yname = xname))) ∧ Below w.heap.size w w' := by
 rw [← beq_dec]
 have hb0 := (Below.refl w.heap.size w).alloc (Nat.le_refl _) (.cells #[.string yname, .int .i64 yprio, .int .i64 yneed, .int .i64 ytries, .string ytag] 38)
 have hkl := block_lt_of_cell hk
 have hxl := hx.lt
 have hxa := hx.alloc (.cells #[.string yname, .int .i64 yprio, .int .i64 yneed, .int .i64 ytries, .string ytag] 38)
 generalize hw1 : w.alloc (.cells #[.string yname, .int .i64 yprio, .int .i64 yneed, .int .i64 ytries, .string ytag] 38) = w1 at hb0 hxa
 have b0 := fun d os => cell_regrown (show w1.cell? ⟨w.heap.size, 0, none⟩ = some (.string yname) by rw [← hw1]; simp [go_sem]) d os
 have x0 := fun d os => cell_regrown (show w1.cell? ⟨xb, 0, none⟩ = some (.string xname) from hxa.cell 0) d os
 have b1 := fun d os => cell_regrown (show w1.cell? ⟨w.heap.size, 1, none⟩ = some (.int .i64 yprio) by rw [← hw1]; simp [go_sem]) d os
 have x1 := fun d os => cell_regrown (show w1.cell? ⟨xb, 1, none⟩ = some (.int .i64 xprio) from hxa.cell 1) d os
 have b2 := fun d os => cell_regrown (show w1.cell? ⟨w.heap.size, 2, none⟩ = some (.int .i64 yneed) by rw [← hw1]; simp [go_sem]) d os
 have x2 := fun d os => cell_regrown (show w1.cell? ⟨xb, 2, none⟩ = some (.int .i64 xneed) from hxa.cell 2) d os
 have b3 := fun d os => cell_regrown (show w1.cell? ⟨w.heap.size, 3, none⟩ = some (.int .i64 ytries) by rw [← hw1]; simp [go_sem]) d os
 have x3 := fun d os => cell_regrown (show w1.cell? ⟨xb, 3, none⟩ = some (.int .i64 xtries) from hxa.cell 3) d os
 have b4 := fun d os => cell_regrown (show w1.cell? ⟨w.heap.size, 4, none⟩ = some (.string ytag) by rw [← hw1]; simp [go_sem]) d os
 have x4 := fun d os => cell_regrown (show w1.cell? ⟨xb, 4, none⟩ = some (.string xtag) from hxa.cell 4) d os
 have k0 := fun d os => cell_regrown ((hb0.cell (p := ⟨kb, 0, none⟩) hkl).trans hk) d os
 have Hb0 := hid hb0
 have HW := hid hw1
 clear hb0 hw1 hk hx hkl hxl hxa
 go_enter Tryz.func195, Tryz.ntmps195
 go_wp2_with fail
 rw [HW.out]
 refine wp_region_quiet_below (by kernel_rfl) (by kernel_rfl) ?_
 repeat (go_big_quiet_step ((go_at_call 46; exact Calls.regrown_of (jobKey_any _ _ _ _ _ _))))
 refine wpQuiet_nil ?_
 intro _ hw'
 obtain ⟨⟨nq, osq⟩, hw''⟩ := hw'
 subst hw''
 have hb2 := hid (Hb0.out.trans ((below_regrown w1 nq osq).mono Hb0.out.size))
 clear b0 x0 b1 x1 b2 x2 b3 x3 b4 x4 k0
 dsimp only
 generalize Sort.grow (redrawn w1 nq) osq = w2 at hb2 ⊢
 go_wp2
 go_ret
 exact ⟨rfl, hb2.out⟩
theorem differ_job (a b : List JobD) (A B : Option Addr) (n cA m cB : Nat) (w : World) (ha : SlAt w w.heap.size 5 A n (rowsV jobV a)) (la : a.length = n) (hn : n ≤ 1000) (hb : SlAt w w.heap.size 5 B m (rowsV jobV b)) (lb : b.length = m) (hm : m ≤ 1000) :
 Calls Tryz.prog 120 #[.slice A n cA, .slice B m cB, .func (.func 46) #[] #[]] w (DfPost JobD.name a b 38 5 jobV w) := by
 have HA := hid ha
 have HB := hid hb
 have La := hid la
 have Lb := hid lb
 have H0 := hid (show ∀ t, DfAt w 46 (w.alloc (.cells #[.func (.func 46) #[] #[]] t)) from fun t => ⟨(Below.refl _ _).alloc (Nat.le_refl _) _, by simp [go_sem], by simp⟩)
 clear ha hb la lb
 go_enter Tryz.func120, Tryz.ntmps120
 go_wp2
 go_loopw [14, 6] (fun i s wr => ∃ (k : Nat) (A1 : Option Addr) (c1 : Nat) (l1 : List JobD), k ≤ m ∧ i = .int .i64 k ∧ l1 = ((b.take k).filter fun x => !a.any (eqB x)) ∧ s = .slice A1 l1.length c1 ∧ DfAt w 46 wr ∧ wr.ownsRow (w.heap.size + 1) 38 5 (.slice A1 l1.length c1) l1.length (rowsV jobV l1)) (fun i _ _ => m - (intOf i).toNat)
 case atStart => exact ⟨0, none, 0, [], Nat.zero_le _, rfl, by simp, rfl, H0.out _, World.ownsRow_nil _ _ _ _⟩
 case round =>
  clear H0
  obtain ⟨k, A1, c1, l1, hk, rfl, hl1, rfl, hat, ho⟩ := hrel
  have HAt := hid hat
  have Ho := hid ho
  have HL1 := hid hl1
  have hll : l1.length ≤ k := by rw [hl1]; exact filter_len _ _ _
  have hsz := hat.size
  clear hl1 ho
  by_cases hlt : k < m
  · obtain ⟨x, hf⟩ : ∃ x, b[k]? = some x := ⟨_, List.getElem?_eq_getElem (by rw [Lb.out]; exact hlt)⟩
    obtain ⟨bb, off, rfl, hbB, hc⟩ := (HB.out.below hat.below).rec_ jobV_len Lb.out hf
    have Hf := hid hf
    obtain ⟨name, prio, need, tries, tag⟩ := x
    obtain ⟨c0, c1, c2, c3, c4⟩ := rc5 hc
    have hlb : bb < wr.heap.size := by omega
    have hX : Below wr.heap.size wr (wr.alloc (.cells #[.string name, .int .i64 prio, .int .i64 need, .int .i64 tries, .string tag] 38)) := (Below.refl _ _).alloc (Nat.le_refl _) _
    have HX := hid (show Blk (wr.alloc (.cells #[.string name, .int .i64 prio, .int .i64 need, .int .i64 tries, .string tag] 38)) wr.heap.size 38 #[.string name, .int .i64 prio, .int .i64 need, .int .i64 tries, .string tag] from heap_alloc_new wr _)
    have hAX := hat.kept hX
    have HAX := hid hAX
    have HOX := hid (ownU_below Ho.out hX)
    have HC := hid (has_job ⟨name, prio, need, tries, tag⟩ a A n cA (wr.alloc (.cells #[.string name, .int .i64 prio, .int .i64 need, .int .i64 tries, .string tag] 38)) ((HA.out.below hAX.below).more hAX.below.size) La.out (by omega))
    rw [show (Value.agg (jobV ⟨name, prio, need, tries, tag⟩).toArray) = .agg #[.string name, .int .i64 prio, .int .i64 need, .int .i64 tries, .string tag] from rfl] at HC
    clear hc hf hX hAX hat
    go_wp2_with fail
    refine Calls.mono HC.out ?_
    rintro e w3 ⟨rfl, hb3⟩
    have HA3 := hid (HAX.out.kept hb3)
    have HO3 := hid (ownU_below HOX.out hb3)
    have hX3 := HX.out.below hb3 HX.out.lt
    have hxl := hX3.lt
    obtain ⟨j0, j1, j2, j3, j4⟩ := Blk.c5 (hX3)
    clear hb3 HC HX HAX HOX hX3 c0 c1 c2 c3 c4
    cases hany : a.any (eqB ⟨name, prio, need, tries, tag⟩)
    · have Hst := hid (filter_yes (p := fun x => !a.any (eqB x)) Hf.out (by simp only [hany]; rfl))
      have hbr : w.heap.size + 1 ≤ w3.heap.size := by omega
      clear hany
      go_wp2_with (at_builtin; refine push_rec jobV rfl _ _ 22 38 (.agg #[.string ⟨#[]⟩, .int .i64 0, .int .i64 0, .int .i64 0, .string ⟨#[]⟩]) 5 56 rfl Tryz.underlying22 infoJobT rfl (by decide) jobV_len jobV_oneT (w.heap.size + 1) _ _ _ l1 rfl HO3.out _ ⟨name, prio, need, tries, tag⟩ rfl _ (by simp) rfl (by omega) (by unfold maxLen; omega) hbr ?_; intro A2 c2 w4 ho4 hg4)
      have HA4 := HA3.out.grew hg4 (fun k hk => (HO3.out.lt k hk).1)
      go_roundw
      case rel => exact ⟨k + 1, A2, c2, l1 ++ [⟨name, prio, need, tries, tag⟩], by omega, by go_num, by rw [Hst.out, ← HL1.out], by simp, HA4, by simpa using ho4⟩
      case measure => simp [intOf]; omega
    · have Hst := hid (filter_no (p := fun x => !a.any (eqB x)) Hf.out (by simp only [hany]; rfl))
      clear hany
      go_wp2
      go_roundw
      case rel => exact ⟨k + 1, A1, c1, l1, by omega, by go_num, by rw [Hst.out, ← HL1.out], rfl, HA3.out, HO3.out⟩
      case measure => simp [intOf]; omega
  · have hnew : l1 = newL a b := by rw [HL1.out, filter_all _ (by rw [Lb.out]; omega)]; rfl
    subst hnew
    clear HL1
    have HO1 := Ho
    go_wp2
    go_loopw [29, 7] (fun i s wr => ∃ (k : Nat) (G : Option Addr) (cG : Nat) (g : List ByteArray), k ≤ n ∧ i = .int .i64 k ∧ g = (((a.take k).filter fun x => !b.any fun y => decide (y.name = x.name)).map JobD.name) ∧ s = .slice G g.length cG ∧ DfAt w 46 wr ∧ wr.ownsRow (w.heap.size + 1) 38 5 (.slice A1 (newL a b).length c1) (newL a b).length (rowsV jobV (newL a b)) ∧ wr.ownsRow (w.heap.size + 1) 9 1 (.slice G g.length cG) g.length (rowsV strV g)) (fun i _ _ => n - (intOf i).toNat)
    case atStart => exact ⟨0, none, 0, [], Nat.zero_le _, rfl, by simp, rfl, HAt.out, HO1.out, World.ownsRow_nil _ _ _ _⟩
    case round =>
     clear HAt HO1 hat hsz Ho hk hlt hll
     obtain ⟨k, G, cG, g, hk, rfl, hg, rfl, hat, ho1, ho⟩ := hrel
     have HAt := hid hat
     have Ho := hid ho
     have Ho1 := hid ho1
     have HG := hid hg
     have hgl : g.length ≤ k := by rw [hg, List.length_map]; exact filter_len _ _ _
     have hsz := hat.size
     clear hg ho ho1
     by_cases hlt : k < n
     · obtain ⟨x, hf⟩ : ∃ x, a[k]? = some x := ⟨_, List.getElem?_eq_getElem (by rw [La.out]; exact hlt)⟩
       obtain ⟨bb, off, rfl, hbB, hc⟩ := (HA.out.below hat.below).rec_ jobV_len La.out hf
       have Hst := hid (goneL_step (key := JobD.name) (b := b) hf)
       obtain ⟨name, prio, need, tries, tag⟩ := x
       obtain ⟨c0, c1, c2, c3, c4⟩ := rc5 hc
       have hlb : bb < wr.heap.size := by omega
       have hX : Below wr.heap.size wr (wr.alloc (.cells #[.string name, .int .i64 prio, .int .i64 need, .int .i64 tries, .string tag] 38)) := (Below.refl _ _).alloc (Nat.le_refl _) _
       have hXB : Blk (wr.alloc (.cells #[.string name, .int .i64 prio, .int .i64 need, .int .i64 tries, .string tag] 38)) wr.heap.size 38 #[.string name, .int .i64 prio, .int .i64 need, .int .i64 tries, .string tag] := heap_alloc_new wr _
       have HX := hid hXB
       have hAX := hat.kept hX
       have HAX := hid hAX
       have HOX := hid (ownU_below Ho.out hX)
       have HO1X := hid (ownU_below Ho1.out hX)
       have hP : Answers (fun y : JobD => decide (y.name = name)) 195 #[.pointer (some ⟨w.heap.size, 0, none⟩), .pointer (some ⟨wr.heap.size, 0, none⟩)] jobV b (wr.alloc (.cells #[.string name, .int .i64 prio, .int .i64 need, .int .i64 tries, .string tag] 38)) := by
        intro W hW y _
        obtain ⟨yname, yprio, yneed, ytries, ytag⟩ := y
        exact difJob_is yname yprio yneed ytries ytag name prio need tries tag w.heap.size wr.heap.size W (hAX.kept (hW.mono (Nat.le_refl _))).key (hXB.below hW hXB.lt)
       have HC := hid (hasf_job (fun y : JobD => decide (y.name = name)) 195 #[.pointer (some ⟨w.heap.size, 0, none⟩), .pointer (some ⟨wr.heap.size, 0, none⟩)] b B m cB (wr.alloc (.cells #[.string name, .int .i64 prio, .int .i64 need, .int .i64 tries, .string tag] 38)) (Go.Proofs.enters_of Tryz.func195 (by kernel_rfl) rfl) ((HB.out.below hAX.below).more hAX.below.size) Lb.out (by omega) hP)
       have hmf : ∀ (fn : Fn) (first cap : Array Value) (w : World), (Instr.makeFunc fn first cap).run Tryz.prog w = .ok (.func fn first cap) w := fun _ _ _ _ => rfl
       clear hc hf hX hXB hAX hat hP
       go_wp2_with fail
       refine Calls.mono HC.out ?_
       rintro e w3 ⟨rfl, hb3⟩
       have HA3 := hid (HAX.out.kept hb3)
       have HO3 := hid (ownU_below HOX.out hb3)
       have HO13 := hid (ownU_below HO1X.out hb3)
       have hX3 := HX.out.below hb3 HX.out.lt
       have hxl := hX3.lt
       have hky : w3.cell? ⟨w.heap.size, 0, none⟩ = some (.func (.func 46) #[] #[]) := HA3.out.key
       have hwl := HA3.out.size
       obtain ⟨j0, j1, j2, j3, j4⟩ := Blk.c5 (hX3)
       clear hb3 HC HX HAX HOX HO1X hX3 c0 c1 c2 c3 c4
       cases hany : b.any fun y => decide (y.name = name)
       · have Hs := hid (Hst.out.1 hany)
         clear hany
         go_wp2_with fail
         refine Calls.mono (jobKey_any name prio need tries tag _) ?_
         rintro e w5 ⟨rfl, hb5⟩
         have HA5 := hid (HA3.out.kept hb5)
         have HO5 := hid (ownU_below HO3.out hb5)
         have HO15 := hid (ownU_below HO13.out hb5)
         have hbr : w.heap.size + 1 ≤ w5.heap.size := by have := hb5.size; omega
         clear hb5 hky j0 j1 j2 j3 j4
         go_wp2_with (at_builtin; refine push_rec strV rfl _ _ 47 9 (.string ⟨#[]⟩) 1 16 rfl Tryz.underlying47 infoStrT rfl (by decide) strV_len strV_oneT (w.heap.size + 1) _ _ _ g rfl HO5.out _ name rfl _ (by simp) rfl (by omega) (by unfold maxLen; omega) hbr ?_; intro A2 c2 w4 ho4 hg4)
         have HA4 := HA5.out.grew hg4 (fun k hk => (HO5.out.lt k hk).1)
         have HO14 := own_grewOther HO15.out hg4 HO5.out (by decide)
         go_roundw
         case rel => exact ⟨k + 1, A2, c2, g ++ [name], by omega, by go_num, by rw [HG.out]; exact Hs.out.symm, by simp, HA4, HO14, by simpa using ho4⟩
         case measure => simp [intOf]; omega
       · have Hs := hid (Hst.out.2 hany)
         clear hany
         go_wp2
         go_roundw
         case rel => exact ⟨k + 1, G, cG, g, by omega, by go_num, by rw [HG.out]; exact Hs.out.symm, rfl, HA3.out, HO13.out, HO3.out⟩
         case measure => simp [intOf]; omega
     · have hgo : g = goneL JobD.name a b := by rw [HG.out, filter_all _ (by rw [La.out]; omega)]; rfl
       subst hgo
       clear HG
       go_wp2
       go_ret2
       exact ⟨A1, c1, G, cG, rfl, Ho1.out, Ho.out, HAt.out.below⟩
theorem difNode_is (yname : ByteArray) (yroom : Int) (yzone : ByteArray) (xname : ByteArray) (xroom : Int) (xzone : ByteArray) (kb xb : Nat) (w : World) (hk : w.cell? ⟨kb, 0, none⟩ = some (.func (.func 48) #[] #[])) (hx : Blk w xb 40 #[.string xname, .int .i64 xroom, .string xzone]) :
 Calls Tryz.prog 197 #[.agg #[.string yname, .int .i64 yroom, .string yzone], .pointer (some ⟨kb, 0, none⟩), .pointer (some ⟨xb, 0, none⟩)] w fun e w' => e = .returned (.bool (decide (yname = xname))) ∧ Below w.heap.size w w' := by
 rw [← beq_dec]
 have hb0 := (Below.refl w.heap.size w).alloc (Nat.le_refl _) (.cells #[.string yname, .int .i64 yroom, .string yzone] 40)
 have hkl := block_lt_of_cell hk
 have hxl := hx.lt
 have hxa := hx.alloc (.cells #[.string yname, .int .i64 yroom, .string yzone] 40)
 generalize hw1 : w.alloc (.cells #[.string yname, .int .i64 yroom, .string yzone] 40) = w1 at hb0 hxa
 have b0 := fun d os => cell_regrown (show w1.cell? ⟨w.heap.size, 0, none⟩ = some (.string yname) by rw [← hw1]; simp [go_sem]) d os
 have x0 := fun d os => cell_regrown (show w1.cell? ⟨xb, 0, none⟩ = some (.string xname) from hxa.cell 0) d os
 have b1 := fun d os => cell_regrown (show w1.cell? ⟨w.heap.size, 1, none⟩ = some (.int .i64 yroom) by rw [← hw1]; simp [go_sem]) d os
 have x1 := fun d os => cell_regrown (show w1.cell? ⟨xb, 1, none⟩ = some (.int .i64 xroom) from hxa.cell 1) d os
 have b2 := fun d os => cell_regrown (show w1.cell? ⟨w.heap.size, 2, none⟩ = some (.string yzone) by rw [← hw1]; simp [go_sem]) d os
 have x2 := fun d os => cell_regrown (show w1.cell? ⟨xb, 2, none⟩ = some (.string xzone) from hxa.cell 2) d os
 have k0 := fun d os => cell_regrown ((hb0.cell (p := ⟨kb, 0, none⟩) hkl).trans hk) d os
 have Hb0 := hid hb0
 have HW := hid hw1
 clear hb0 hw1 hk hx hkl hxl hxa
 go_enter Tryz.func197, Tryz.ntmps197
 go_wp2_with fail
 rw [HW.out]
 refine wp_region_quiet_below (by kernel_rfl) (by kernel_rfl) ?_
 repeat (go_big_quiet_step ((go_at_call 48; exact Calls.regrown_of (nodeKey_any _ _ _ _))))
 refine wpQuiet_nil ?_
 intro _ hw'
 obtain ⟨⟨nq, osq⟩, hw''⟩ := hw'
 subst hw''
 have hb2 := hid (Hb0.out.trans ((below_regrown w1 nq osq).mono Hb0.out.size))
 clear b0 x0 b1 x1 b2 x2 k0
 dsimp only
 generalize Sort.grow (redrawn w1 nq) osq = w2 at hb2 ⊢
 go_wp2
 go_ret
 exact ⟨rfl, hb2.out⟩
theorem differ_node (a b : List NodeD) (A B : Option Addr) (n cA m cB : Nat) (w : World) (ha : SlAt w w.heap.size 3 A n (rowsV nodeV a)) (la : a.length = n) (hn : n ≤ 1000) (hb : SlAt w w.heap.size 3 B m (rowsV nodeV b)) (lb : b.length = m) (hm : m ≤ 1000) :
 Calls Tryz.prog 121 #[.slice A n cA, .slice B m cB, .func (.func 48) #[] #[]] w (DfPost NodeD.name a b 40 3 nodeV w) := by
 have HA := hid ha
 have HB := hid hb
 have La := hid la
 have Lb := hid lb
 have H0 := hid (show ∀ t, DfAt w 48 (w.alloc (.cells #[.func (.func 48) #[] #[]] t)) from fun t => ⟨(Below.refl _ _).alloc (Nat.le_refl _) _, by simp [go_sem], by simp⟩)
 clear ha hb la lb
 go_enter Tryz.func121, Tryz.ntmps121
 go_wp2
 go_loopw [14, 6] (fun i s wr => ∃ (k : Nat) (A1 : Option Addr) (c1 : Nat) (l1 : List NodeD), k ≤ m ∧ i = .int .i64 k ∧ l1 = ((b.take k).filter fun x => !a.any (eqB x)) ∧ s = .slice A1 l1.length c1 ∧ DfAt w 48 wr ∧ wr.ownsRow (w.heap.size + 1) 40 3 (.slice A1 l1.length c1) l1.length (rowsV nodeV l1)) (fun i _ _ => m - (intOf i).toNat)
 case atStart => exact ⟨0, none, 0, [], Nat.zero_le _, rfl, by simp, rfl, H0.out _, World.ownsRow_nil _ _ _ _⟩
 case round =>
  clear H0
  obtain ⟨k, A1, c1, l1, hk, rfl, hl1, rfl, hat, ho⟩ := hrel
  have HAt := hid hat
  have Ho := hid ho
  have HL1 := hid hl1
  have hll : l1.length ≤ k := by rw [hl1]; exact filter_len _ _ _
  have hsz := hat.size
  clear hl1 ho
  by_cases hlt : k < m
  · obtain ⟨x, hf⟩ : ∃ x, b[k]? = some x := ⟨_, List.getElem?_eq_getElem (by rw [Lb.out]; exact hlt)⟩
    obtain ⟨bb, off, rfl, hbB, hc⟩ := (HB.out.below hat.below).rec_ nodeV_len Lb.out hf
    have Hf := hid hf
    obtain ⟨name, room, zone⟩ := x
    obtain ⟨c0, c1, c2⟩ := rc3 hc
    have hlb : bb < wr.heap.size := by omega
    have hX : Below wr.heap.size wr (wr.alloc (.cells #[.string name, .int .i64 room, .string zone] 40)) := (Below.refl _ _).alloc (Nat.le_refl _) _
    have HX := hid (show Blk (wr.alloc (.cells #[.string name, .int .i64 room, .string zone] 40)) wr.heap.size 40 #[.string name, .int .i64 room, .string zone] from heap_alloc_new wr _)
    have hAX := hat.kept hX
    have HAX := hid hAX
    have HOX := hid (ownU_below Ho.out hX)
    have HC := hid (has_node ⟨name, room, zone⟩ a A n cA (wr.alloc (.cells #[.string name, .int .i64 room, .string zone] 40)) ((HA.out.below hAX.below).more hAX.below.size) La.out (by omega))
    rw [show (Value.agg (nodeV ⟨name, room, zone⟩).toArray) = .agg #[.string name, .int .i64 room, .string zone] from rfl] at HC
    clear hc hf hX hAX hat
    go_wp2_with fail
    refine Calls.mono HC.out ?_
    rintro e w3 ⟨rfl, hb3⟩
    have HA3 := hid (HAX.out.kept hb3)
    have HO3 := hid (ownU_below HOX.out hb3)
    have hX3 := HX.out.below hb3 HX.out.lt
    have hxl := hX3.lt
    have j0 : w3.cell? ⟨wr.heap.size, 0, none⟩ = some (.string name) := hX3.cell 0
    have j1 : w3.cell? ⟨wr.heap.size, 1, none⟩ = some (.int .i64 room) := hX3.cell 1
    have j2 : w3.cell? ⟨wr.heap.size, 2, none⟩ = some (.string zone) := hX3.cell 2
    clear hb3 HC HX HAX HOX hX3 c0 c1 c2
    cases hany : a.any (eqB ⟨name, room, zone⟩)
    · have Hst := hid (filter_yes (p := fun x => !a.any (eqB x)) Hf.out (by simp only [hany]; rfl))
      have hbr : w.heap.size + 1 ≤ w3.heap.size := by omega
      clear hany
      go_wp2_with (at_builtin; refine push_rec nodeV rfl _ _ 23 40 (.agg #[.string ⟨#[]⟩, .int .i64 0, .string ⟨#[]⟩]) 3 40 rfl Tryz.underlying23 infoNodeT rfl (by decide) nodeV_len nodeV_oneT (w.heap.size + 1) _ _ _ l1 rfl HO3.out _ ⟨name, room, zone⟩ rfl _ (by simp) rfl (by omega) (by unfold maxLen; omega) hbr ?_; intro A2 c2 w4 ho4 hg4)
      have HA4 := HA3.out.grew hg4 (fun k hk => (HO3.out.lt k hk).1)
      go_roundw
      case rel => exact ⟨k + 1, A2, c2, l1 ++ [⟨name, room, zone⟩], by omega, by go_num, by rw [Hst.out, ← HL1.out], by simp, HA4, by simpa using ho4⟩
      case measure => simp [intOf]; omega
    · have Hst := hid (filter_no (p := fun x => !a.any (eqB x)) Hf.out (by simp only [hany]; rfl))
      clear hany
      go_wp2
      go_roundw
      case rel => exact ⟨k + 1, A1, c1, l1, by omega, by go_num, by rw [Hst.out, ← HL1.out], rfl, HA3.out, HO3.out⟩
      case measure => simp [intOf]; omega
  · have hnew : l1 = newL a b := by rw [HL1.out, filter_all _ (by rw [Lb.out]; omega)]; rfl
    subst hnew
    clear HL1
    have HO1 := Ho
    go_wp2
    go_loopw [29, 7] (fun i s wr => ∃ (k : Nat) (G : Option Addr) (cG : Nat) (g : List ByteArray), k ≤ n ∧ i = .int .i64 k ∧ g = (((a.take k).filter fun x => !b.any fun y => decide (y.name = x.name)).map NodeD.name) ∧ s = .slice G g.length cG ∧ DfAt w 48 wr ∧ wr.ownsRow (w.heap.size + 1) 40 3 (.slice A1 (newL a b).length c1) (newL a b).length (rowsV nodeV (newL a b)) ∧ wr.ownsRow (w.heap.size + 1) 9 1 (.slice G g.length cG) g.length (rowsV strV g)) (fun i _ _ => n - (intOf i).toNat)
    case atStart => exact ⟨0, none, 0, [], Nat.zero_le _, rfl, by simp, rfl, HAt.out, HO1.out, World.ownsRow_nil _ _ _ _⟩
    case round =>
     clear HAt HO1 hat hsz Ho hk hlt hll
     obtain ⟨k, G, cG, g, hk, rfl, hg, rfl, hat, ho1, ho⟩ := hrel
     have HAt := hid hat
     have Ho := hid ho
     have Ho1 := hid ho1
     have HG := hid hg
     have hgl : g.length ≤ k := by rw [hg, List.length_map]; exact filter_len _ _ _
     have hsz := hat.size
     clear hg ho ho1
     by_cases hlt : k < n
     · obtain ⟨x, hf⟩ : ∃ x, a[k]? = some x := ⟨_, List.getElem?_eq_getElem (by rw [La.out]; exact hlt)⟩
       obtain ⟨bb, off, rfl, hbB, hc⟩ := (HA.out.below hat.below).rec_ nodeV_len La.out hf
       have Hst := hid (goneL_step (key := NodeD.name) (b := b) hf)
       obtain ⟨name, room, zone⟩ := x
       obtain ⟨c0, c1, c2⟩ := rc3 hc
       have hlb : bb < wr.heap.size := by omega
       have hX : Below wr.heap.size wr (wr.alloc (.cells #[.string name, .int .i64 room, .string zone] 40)) := (Below.refl _ _).alloc (Nat.le_refl _) _
       have hXB : Blk (wr.alloc (.cells #[.string name, .int .i64 room, .string zone] 40)) wr.heap.size 40 #[.string name, .int .i64 room, .string zone] := heap_alloc_new wr _
       have HX := hid hXB
       have hAX := hat.kept hX
       have HAX := hid hAX
       have HOX := hid (ownU_below Ho.out hX)
       have HO1X := hid (ownU_below Ho1.out hX)
       have hP : Answers (fun y : NodeD => decide (y.name = name)) 197 #[.pointer (some ⟨w.heap.size, 0, none⟩), .pointer (some ⟨wr.heap.size, 0, none⟩)] nodeV b (wr.alloc (.cells #[.string name, .int .i64 room, .string zone] 40)) := by
        intro W hW y _
        obtain ⟨yname, yroom, yzone⟩ := y
        exact difNode_is yname yroom yzone name room zone w.heap.size wr.heap.size W (hAX.kept (hW.mono (Nat.le_refl _))).key (hXB.below hW hXB.lt)
       have HC := hid (hasf_node (fun y : NodeD => decide (y.name = name)) 197 #[.pointer (some ⟨w.heap.size, 0, none⟩), .pointer (some ⟨wr.heap.size, 0, none⟩)] b B m cB (wr.alloc (.cells #[.string name, .int .i64 room, .string zone] 40)) (Go.Proofs.enters_of Tryz.func197 (by kernel_rfl) rfl) ((HB.out.below hAX.below).more hAX.below.size) Lb.out (by omega) hP)
       have hmf : ∀ (fn : Fn) (first cap : Array Value) (w : World), (Instr.makeFunc fn first cap).run Tryz.prog w = .ok (.func fn first cap) w := fun _ _ _ _ => rfl
       clear hc hf hX hXB hAX hat hP
       go_wp2_with fail
       refine Calls.mono HC.out ?_
       rintro e w3 ⟨rfl, hb3⟩
       have HA3 := hid (HAX.out.kept hb3)
       have HO3 := hid (ownU_below HOX.out hb3)
       have HO13 := hid (ownU_below HO1X.out hb3)
       have hX3 := HX.out.below hb3 HX.out.lt
       have hxl := hX3.lt
       have hky : w3.cell? ⟨w.heap.size, 0, none⟩ = some (.func (.func 48) #[] #[]) := HA3.out.key
       have hwl := HA3.out.size
       have j0 : w3.cell? ⟨wr.heap.size, 0, none⟩ = some (.string name) := hX3.cell 0
       have j1 : w3.cell? ⟨wr.heap.size, 1, none⟩ = some (.int .i64 room) := hX3.cell 1
       have j2 : w3.cell? ⟨wr.heap.size, 2, none⟩ = some (.string zone) := hX3.cell 2
       clear hb3 HC HX HAX HOX HO1X hX3 c0 c1 c2
       cases hany : b.any fun y => decide (y.name = name)
       · have Hs := hid (Hst.out.1 hany)
         clear hany
         go_wp2_with fail
         refine Calls.mono (nodeKey_any name room zone _) ?_
         rintro e w5 ⟨rfl, hb5⟩
         have HA5 := hid (HA3.out.kept hb5)
         have HO5 := hid (ownU_below HO3.out hb5)
         have HO15 := hid (ownU_below HO13.out hb5)
         have hbr : w.heap.size + 1 ≤ w5.heap.size := by have := hb5.size; omega
         clear hb5 hky j0 j1 j2
         go_wp2_with (at_builtin; refine push_rec strV rfl _ _ 47 9 (.string ⟨#[]⟩) 1 16 rfl Tryz.underlying47 infoStrT rfl (by decide) strV_len strV_oneT (w.heap.size + 1) _ _ _ g rfl HO5.out _ name rfl _ (by simp) rfl (by omega) (by unfold maxLen; omega) hbr ?_; intro A2 c2 w4 ho4 hg4)
         have HA4 := HA5.out.grew hg4 (fun k hk => (HO5.out.lt k hk).1)
         have HO14 := own_grewOther HO15.out hg4 HO5.out (by decide)
         go_roundw
         case rel => exact ⟨k + 1, A2, c2, g ++ [name], by omega, by go_num, by rw [HG.out]; exact Hs.out.symm, by simp, HA4, HO14, by simpa using ho4⟩
         case measure => simp [intOf]; omega
       · have Hs := hid (Hst.out.2 hany)
         clear hany
         go_wp2
         go_roundw
         case rel => exact ⟨k + 1, G, cG, g, by omega, by go_num, by rw [HG.out]; exact Hs.out.symm, rfl, HA3.out, HO13.out, HO3.out⟩
         case measure => simp [intOf]; omega
     · have hgo : g = goneL NodeD.name a b := by rw [HG.out, filter_all _ (by rw [La.out]; omega)]; rfl
       subst hgo
       clear HG
       go_wp2
       go_ret2
       exact ⟨A1, c1, G, cG, rfl, Ho1.out, Ho.out, HAt.out.below⟩
theorem difLease_is (yjob : ByteArray) (ynode : ByteArray) (ytill : Int) (xjob : ByteArray) (xnode : ByteArray) (xtill : Int) (kb xb : Nat) (w : World) (hk : w.cell? ⟨kb, 0, none⟩ = some (.func (.func 50) #[] #[])) (hx : Blk w xb 42 #[.string xjob, .string xnode, .int .i64 xtill]) :
 Calls Tryz.prog 199 #[.agg #[.string yjob, .string ynode, .int .i64 ytill], .pointer (some ⟨kb, 0, none⟩), .pointer (some ⟨xb, 0, none⟩)] w fun e w' => e = .returned (.bool (decide (yjob = xjob))) ∧ Below w.heap.size w w' := by
 rw [← beq_dec]
 have hb0 := (Below.refl w.heap.size w).alloc (Nat.le_refl _) (.cells #[.string yjob, .string ynode, .int .i64 ytill] 42)
 have hkl := block_lt_of_cell hk
 have hxl := hx.lt
 have hxa := hx.alloc (.cells #[.string yjob, .string ynode, .int .i64 ytill] 42)
 generalize hw1 : w.alloc (.cells #[.string yjob, .string ynode, .int .i64 ytill] 42) = w1 at hb0 hxa
 have b0 := fun d os => cell_regrown (show w1.cell? ⟨w.heap.size, 0, none⟩ = some (.string yjob) by rw [← hw1]; simp [go_sem]) d os
 have x0 := fun d os => cell_regrown (show w1.cell? ⟨xb, 0, none⟩ = some (.string xjob) from hxa.cell 0) d os
 have b1 := fun d os => cell_regrown (show w1.cell? ⟨w.heap.size, 1, none⟩ = some (.string ynode) by rw [← hw1]; simp [go_sem]) d os
 have x1 := fun d os => cell_regrown (show w1.cell? ⟨xb, 1, none⟩ = some (.string xnode) from hxa.cell 1) d os
 have b2 := fun d os => cell_regrown (show w1.cell? ⟨w.heap.size, 2, none⟩ = some (.int .i64 ytill) by rw [← hw1]; simp [go_sem]) d os
 have x2 := fun d os => cell_regrown (show w1.cell? ⟨xb, 2, none⟩ = some (.int .i64 xtill) from hxa.cell 2) d os
 have k0 := fun d os => cell_regrown ((hb0.cell (p := ⟨kb, 0, none⟩) hkl).trans hk) d os
 have Hb0 := hid hb0
 have HW := hid hw1
 clear hb0 hw1 hk hx hkl hxl hxa
 go_enter Tryz.func199, Tryz.ntmps199
 go_wp2_with fail
 rw [HW.out]
 refine wp_region_quiet_below (by kernel_rfl) (by kernel_rfl) ?_
 repeat (go_big_quiet_step ((go_at_call 50; exact Calls.regrown_of (leaseKey_any _ _ _ _))))
 refine wpQuiet_nil ?_
 intro _ hw'
 obtain ⟨⟨nq, osq⟩, hw''⟩ := hw'
 subst hw''
 have hb2 := hid (Hb0.out.trans ((below_regrown w1 nq osq).mono Hb0.out.size))
 clear b0 x0 b1 x1 b2 x2 k0
 dsimp only
 generalize Sort.grow (redrawn w1 nq) osq = w2 at hb2 ⊢
 go_wp2
 go_ret
 exact ⟨rfl, hb2.out⟩
theorem differ_lease (a b : List LeaseD) (A B : Option Addr) (n cA m cB : Nat) (w : World) (ha : SlAt w w.heap.size 3 A n (rowsV leaseV a)) (la : a.length = n) (hn : n ≤ 1000) (hb : SlAt w w.heap.size 3 B m (rowsV leaseV b)) (lb : b.length = m) (hm : m ≤ 1000) :
 Calls Tryz.prog 122 #[.slice A n cA, .slice B m cB, .func (.func 50) #[] #[]] w (DfPost LeaseD.job a b 42 3 leaseV w) := by
 have HA := hid ha
 have HB := hid hb
 have La := hid la
 have Lb := hid lb
 have H0 := hid (show ∀ t, DfAt w 50 (w.alloc (.cells #[.func (.func 50) #[] #[]] t)) from fun t => ⟨(Below.refl _ _).alloc (Nat.le_refl _) _, by simp [go_sem], by simp⟩)
 clear ha hb la lb
 go_enter Tryz.func122, Tryz.ntmps122
 go_wp2
 go_loopw [14, 6] (fun i s wr => ∃ (k : Nat) (A1 : Option Addr) (c1 : Nat) (l1 : List LeaseD), k ≤ m ∧ i = .int .i64 k ∧ l1 = ((b.take k).filter fun x => !a.any (eqB x)) ∧ s = .slice A1 l1.length c1 ∧ DfAt w 50 wr ∧ wr.ownsRow (w.heap.size + 1) 42 3 (.slice A1 l1.length c1) l1.length (rowsV leaseV l1)) (fun i _ _ => m - (intOf i).toNat)
 case atStart => exact ⟨0, none, 0, [], Nat.zero_le _, rfl, by simp, rfl, H0.out _, World.ownsRow_nil _ _ _ _⟩
 case round =>
  clear H0
  obtain ⟨k, A1, c1, l1, hk, rfl, hl1, rfl, hat, ho⟩ := hrel
  have HAt := hid hat
  have Ho := hid ho
  have HL1 := hid hl1
  have hll : l1.length ≤ k := by rw [hl1]; exact filter_len _ _ _
  have hsz := hat.size
  clear hl1 ho
  by_cases hlt : k < m
  · obtain ⟨x, hf⟩ : ∃ x, b[k]? = some x := ⟨_, List.getElem?_eq_getElem (by rw [Lb.out]; exact hlt)⟩
    obtain ⟨bb, off, rfl, hbB, hc⟩ := (HB.out.below hat.below).rec_ leaseV_len Lb.out hf
    have Hf := hid hf
    obtain ⟨job, node, till⟩ := x
    obtain ⟨c0, c1, c2⟩ := rc3 hc
    have hlb : bb < wr.heap.size := by omega
    have hX : Below wr.heap.size wr (wr.alloc (.cells #[.string job, .string node, .int .i64 till] 42)) := (Below.refl _ _).alloc (Nat.le_refl _) _
    have HX := hid (show Blk (wr.alloc (.cells #[.string job, .string node, .int .i64 till] 42)) wr.heap.size 42 #[.string job, .string node, .int .i64 till] from heap_alloc_new wr _)
    have hAX := hat.kept hX
    have HAX := hid hAX
    have HOX := hid (ownU_below Ho.out hX)
    have HC := hid (has_lease ⟨job, node, till⟩ a A n cA (wr.alloc (.cells #[.string job, .string node, .int .i64 till] 42)) ((HA.out.below hAX.below).more hAX.below.size) La.out (by omega))
    rw [show (Value.agg (leaseV ⟨job, node, till⟩).toArray) = .agg #[.string job, .string node, .int .i64 till] from rfl] at HC
    clear hc hf hX hAX hat
    go_wp2_with fail
    refine Calls.mono HC.out ?_
    rintro e w3 ⟨rfl, hb3⟩
    have HA3 := hid (HAX.out.kept hb3)
    have HO3 := hid (ownU_below HOX.out hb3)
    have hX3 := HX.out.below hb3 HX.out.lt
    have hxl := hX3.lt
    have j0 : w3.cell? ⟨wr.heap.size, 0, none⟩ = some (.string job) := hX3.cell 0
    have j1 : w3.cell? ⟨wr.heap.size, 1, none⟩ = some (.string node) := hX3.cell 1
    have j2 : w3.cell? ⟨wr.heap.size, 2, none⟩ = some (.int .i64 till) := hX3.cell 2
    clear hb3 HC HX HAX HOX hX3 c0 c1 c2
    cases hany : a.any (eqB ⟨job, node, till⟩)
    · have Hst := hid (filter_yes (p := fun x => !a.any (eqB x)) Hf.out (by simp only [hany]; rfl))
      have hbr : w.heap.size + 1 ≤ w3.heap.size := by omega
      clear hany
      go_wp2_with (at_builtin; refine push_rec leaseV rfl _ _ 24 42 (.agg #[.string ⟨#[]⟩, .string ⟨#[]⟩, .int .i64 0]) 3 40 rfl Tryz.underlying24 infoLeaseT rfl (by decide) leaseV_len leaseV_oneT (w.heap.size + 1) _ _ _ l1 rfl HO3.out _ ⟨job, node, till⟩ rfl _ (by simp) rfl (by omega) (by unfold maxLen; omega) hbr ?_; intro A2 c2 w4 ho4 hg4)
      have HA4 := HA3.out.grew hg4 (fun k hk => (HO3.out.lt k hk).1)
      go_roundw
      case rel => exact ⟨k + 1, A2, c2, l1 ++ [⟨job, node, till⟩], by omega, by go_num, by rw [Hst.out, ← HL1.out], by simp, HA4, by simpa using ho4⟩
      case measure => simp [intOf]; omega
    · have Hst := hid (filter_no (p := fun x => !a.any (eqB x)) Hf.out (by simp only [hany]; rfl))
      clear hany
      go_wp2
      go_roundw
      case rel => exact ⟨k + 1, A1, c1, l1, by omega, by go_num, by rw [Hst.out, ← HL1.out], rfl, HA3.out, HO3.out⟩
      case measure => simp [intOf]; omega
  · have hnew : l1 = newL a b := by rw [HL1.out, filter_all _ (by rw [Lb.out]; omega)]; rfl
    subst hnew
    clear HL1
    have HO1 := Ho
    go_wp2
    go_loopw [29, 7] (fun i s wr => ∃ (k : Nat) (G : Option Addr) (cG : Nat) (g : List ByteArray), k ≤ n ∧ i = .int .i64 k ∧ g = (((a.take k).filter fun x => !b.any fun y => decide (y.job = x.job)).map LeaseD.job) ∧ s = .slice G g.length cG ∧ DfAt w 50 wr ∧ wr.ownsRow (w.heap.size + 1) 42 3 (.slice A1 (newL a b).length c1) (newL a b).length (rowsV leaseV (newL a b)) ∧ wr.ownsRow (w.heap.size + 1) 9 1 (.slice G g.length cG) g.length (rowsV strV g)) (fun i _ _ => n - (intOf i).toNat)
    case atStart => exact ⟨0, none, 0, [], Nat.zero_le _, rfl, by simp, rfl, HAt.out, HO1.out, World.ownsRow_nil _ _ _ _⟩
    case round =>
     clear HAt HO1 hat hsz Ho hk hlt hll
     obtain ⟨k, G, cG, g, hk, rfl, hg, rfl, hat, ho1, ho⟩ := hrel
     have HAt := hid hat
     have Ho := hid ho
     have Ho1 := hid ho1
     have HG := hid hg
     have hgl : g.length ≤ k := by rw [hg, List.length_map]; exact filter_len _ _ _
     have hsz := hat.size
     clear hg ho ho1
     by_cases hlt : k < n
     · obtain ⟨x, hf⟩ : ∃ x, a[k]? = some x := ⟨_, List.getElem?_eq_getElem (by rw [La.out]; exact hlt)⟩
       obtain ⟨bb, off, rfl, hbB, hc⟩ := (HA.out.below hat.below).rec_ leaseV_len La.out hf
       have Hst := hid (goneL_step (key := LeaseD.job) (b := b) hf)
       obtain ⟨job, node, till⟩ := x
       obtain ⟨c0, c1, c2⟩ := rc3 hc
       have hlb : bb < wr.heap.size := by omega
       have hX : Below wr.heap.size wr (wr.alloc (.cells #[.string job, .string node, .int .i64 till] 42)) := (Below.refl _ _).alloc (Nat.le_refl _) _
       have hXB : Blk (wr.alloc (.cells #[.string job, .string node, .int .i64 till] 42)) wr.heap.size 42 #[.string job, .string node, .int .i64 till] := heap_alloc_new wr _
       have HX := hid hXB
       have hAX := hat.kept hX
       have HAX := hid hAX
       have HOX := hid (ownU_below Ho.out hX)
       have HO1X := hid (ownU_below Ho1.out hX)
       have hP : Answers (fun y : LeaseD => decide (y.job = job)) 199 #[.pointer (some ⟨w.heap.size, 0, none⟩), .pointer (some ⟨wr.heap.size, 0, none⟩)] leaseV b (wr.alloc (.cells #[.string job, .string node, .int .i64 till] 42)) := by
        intro W hW y _
        obtain ⟨yjob, ynode, ytill⟩ := y
        exact difLease_is yjob ynode ytill job node till w.heap.size wr.heap.size W (hAX.kept (hW.mono (Nat.le_refl _))).key (hXB.below hW hXB.lt)
       have HC := hid (hasf_lease (fun y : LeaseD => decide (y.job = job)) 199 #[.pointer (some ⟨w.heap.size, 0, none⟩), .pointer (some ⟨wr.heap.size, 0, none⟩)] b B m cB (wr.alloc (.cells #[.string job, .string node, .int .i64 till] 42)) (Go.Proofs.enters_of Tryz.func199 (by kernel_rfl) rfl) ((HB.out.below hAX.below).more hAX.below.size) Lb.out (by omega) hP)
       have hmf : ∀ (fn : Fn) (first cap : Array Value) (w : World), (Instr.makeFunc fn first cap).run Tryz.prog w = .ok (.func fn first cap) w := fun _ _ _ _ => rfl
       clear hc hf hX hXB hAX hat hP
       go_wp2_with fail
       refine Calls.mono HC.out ?_
       rintro e w3 ⟨rfl, hb3⟩
       have HA3 := hid (HAX.out.kept hb3)
       have HO3 := hid (ownU_below HOX.out hb3)
       have HO13 := hid (ownU_below HO1X.out hb3)
       have hX3 := HX.out.below hb3 HX.out.lt
       have hxl := hX3.lt
       have hky : w3.cell? ⟨w.heap.size, 0, none⟩ = some (.func (.func 50) #[] #[]) := HA3.out.key
       have hwl := HA3.out.size
       have j0 : w3.cell? ⟨wr.heap.size, 0, none⟩ = some (.string job) := hX3.cell 0
       have j1 : w3.cell? ⟨wr.heap.size, 1, none⟩ = some (.string node) := hX3.cell 1
       have j2 : w3.cell? ⟨wr.heap.size, 2, none⟩ = some (.int .i64 till) := hX3.cell 2
       clear hb3 HC HX HAX HOX HO1X hX3 c0 c1 c2
       cases hany : b.any fun y => decide (y.job = job)
       · have Hs := hid (Hst.out.1 hany)
         clear hany
         go_wp2_with fail
         refine Calls.mono (leaseKey_any job node till _) ?_
         rintro e w5 ⟨rfl, hb5⟩
         have HA5 := hid (HA3.out.kept hb5)
         have HO5 := hid (ownU_below HO3.out hb5)
         have HO15 := hid (ownU_below HO13.out hb5)
         have hbr : w.heap.size + 1 ≤ w5.heap.size := by have := hb5.size; omega
         clear hb5 hky j0 j1 j2
         go_wp2_with (at_builtin; refine push_rec strV rfl _ _ 47 9 (.string ⟨#[]⟩) 1 16 rfl Tryz.underlying47 infoStrT rfl (by decide) strV_len strV_oneT (w.heap.size + 1) _ _ _ g rfl HO5.out _ job rfl _ (by simp) rfl (by omega) (by unfold maxLen; omega) hbr ?_; intro A2 c2 w4 ho4 hg4)
         have HA4 := HA5.out.grew hg4 (fun k hk => (HO5.out.lt k hk).1)
         have HO14 := own_grewOther HO15.out hg4 HO5.out (by decide)
         go_roundw
         case rel => exact ⟨k + 1, A2, c2, g ++ [job], by omega, by go_num, by rw [HG.out]; exact Hs.out.symm, by simp, HA4, HO14, by simpa using ho4⟩
         case measure => simp [intOf]; omega
       · have Hs := hid (Hst.out.2 hany)
         clear hany
         go_wp2
         go_roundw
         case rel => exact ⟨k + 1, G, cG, g, by omega, by go_num, by rw [HG.out]; exact Hs.out.symm, rfl, HA3.out, HO13.out, HO3.out⟩
         case measure => simp [intOf]; omega
     · have hgo : g = goneL LeaseD.job a b := by rw [HG.out, filter_all _ (by rw [La.out]; omega)]; rfl
       subst hgo
       clear HG
       go_wp2
       go_ret2
       exact ⟨A1, c1, G, cG, rfl, Ho1.out, Ho.out, HAt.out.below⟩
end Go.Proofs.YtjgnnobccecpeaaGreatDoor
