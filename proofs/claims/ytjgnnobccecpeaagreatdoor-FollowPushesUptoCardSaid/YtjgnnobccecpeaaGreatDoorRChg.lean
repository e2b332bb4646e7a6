/- Of the proof of a statement: Chg. -/
import Derived.Shelf.SlSortCmp.NoneTotal
import Derived.Test.YtjgnnobccecpeaaGreatDoorRVals
set_option linter.unusedVariables false
set_option linter.unusedSimpArgs false
set_option maxRecDepth 100000
set_option maxHeartbeats 8000000
/- slices.SortedFunc over maps.Values of a table of the call's own, by a key: jobs, nodes, leases. -/
namespace Go.Proofs.YtjgnnobccecpeaaGreatDoor
open Go.Lib (hid)
open Go.RowKit Go.Sort
instance : Inhabited JobD := ⟨⟨⟨#[]⟩, 0, 0, 0, ⟨#[]⟩⟩⟩
instance : Inhabited NodeD := ⟨⟨⟨#[]⟩, 0, ⟨#[]⟩⟩⟩
instance : Inhabited LeaseD := ⟨⟨⟨#[]⟩, ⟨#[]⟩, 0⟩⟩
theorem compare_grown (a b : ByteArray) (w : World) : Calls Tryz.prog 137 #[.string a, .string b] w fun e w' => e = .returned (.int .i64 (cmpI a b)) ∧ ∃ q os', w' = grow (w.drewN q) os' :=
 (compare_any a b w).mono fun _ _ ⟨he, hw⟩ => ⟨he, 0, #[], by rw [grow_empty]; exact hw.symm⟩
def SrtPost {α : Type} (T : TypeId) (sz : Nat) (enc : α → List Value) (l : List α) (w : World) (e : Ending) (w' : World) : Prop :=
 ∃ A c, e = .returned (.slice A l.length c) ∧ w'.ownsRow w.heap.size T sz (.slice A l.length c) l.length (rowsV enc l) ∧ Below w.heap.size w w'
theorem keyJob_grown (name : ByteArray) (prio : Int) (need : Int) (tries : Int) (tag : ByteArray) (w : World) : Calls Tryz.prog 46 #[.agg #[.string name, .int .i64 prio, .int .i64 need, .int .i64 tries, .string tag]] w fun e w' => e = .returned (.string name) ∧ ∃ q os', w' = grow (w.drewN q) os' := by
 go_enter Tryz.func46, Tryz.ntmps46
 go_wp2
 go_ret
 exact ⟨rfl, 0, _, by rw [alloc_eq_grow]; rfl⟩
theorem chgJob_cmp (xname : ByteArray) (xprio : Int) (xneed : Int) (xtries : Int) (xtag : ByteArray) (yname : ByteArray) (yprio : Int) (yneed : Int) (ytries : Int) (ytag : ByteArray) (kb : Nat) (w : World) (hk : w.cell? ⟨kb, 0, none⟩ = some (.func (.func 46) #[] #[])) :
 Calls Tryz.prog 136 #[.agg #[.string xname, .int .i64 xprio, .int .i64 xneed, .int .i64 xtries, .string xtag], .agg #[.string yname, .int .i64 yprio, .int .i64 yneed, .int .i64 ytries, .string ytag], .pointer (some ⟨kb, 0, none⟩)] w fun e w' => e = .returned (.int .i64 (cmpI xname yname)) ∧ ∃ q os', w' = grow (w.drewN q) os' := by
 have hkl : kb < w.heap.size := block_lt_of_cell hk
 obtain ⟨w1, hw1⟩ : ∃ w1, (w.alloc (.cells #[.string xname, .int .i64 xprio, .int .i64 xneed, .int .i64 xtries, .string xtag] 38)).alloc (.cells #[.string yname, .int .i64 yprio, .int .i64 yneed, .int .i64 ytries, .string ytag] 38) = w1 := ⟨_, rfl⟩
 have hb1 : Below w.heap.size w w1 := by rw [← hw1]; exact ((Below.refl _ _).alloc (Nat.le_refl _) _).alloc (by simp) _
 have hs1 : w1.heap.size = w.heap.size + 2 := by rw [← hw1]; simp
 have hX : Blk w1 w.heap.size 38 #[.string xname, .int .i64 xprio, .int .i64 xneed, .int .i64 xtries, .string xtag] := by rw [← hw1]; exact Blk.alloc (show Blk _ _ _ _ from heap_alloc_new w _) _
 have hY : Blk w1 (w.heap.size + 1) 38 #[.string yname, .int .i64 yprio, .int .i64 yneed, .int .i64 ytries, .string ytag] := by
  rw [← hw1]
  have h := heap_alloc_new (w.alloc (.cells #[.string xname, .int .i64 xprio, .int .i64 xneed, .int .i64 xtries, .string xtag] 38)) (.cells #[.string yname, .int .i64 yprio, .int .i64 yneed, .int .i64 ytries, .string ytag] 38)
  rwa [show (w.alloc (.cells #[.string xname, .int .i64 xprio, .int .i64 xneed, .int .i64 xtries, .string xtag] 38)).heap.size = w.heap.size + 1 by simp] at h
 have hg1 : w1 = grow w #[.cells #[.string xname, .int .i64 xprio, .int .i64 xneed, .int .i64 xtries, .string xtag] 38, .cells #[.string yname, .int .i64 yprio, .int .i64 yneed, .int .i64 ytries, .string ytag] 38] := by rw [← hw1, alloc_eq_grow, alloc_eq_grow, grow_grow]; rfl
 have b0 := fun d os => cell_grown (w := w1) (a := ⟨w.heap.size, 0, none⟩) (v := .string xname) (by rw [hs1]; simp) (hX.cell 0) d os
 have c0 := fun d os => cell_grown (w := w1) (a := ⟨w.heap.size + 1, 0, none⟩) (v := .string yname) (by rw [hs1]; simp) (hY.cell 0) d os
 have b1 := fun d os => cell_grown (w := w1) (a := ⟨w.heap.size, 1, none⟩) (v := .int .i64 xprio) (by rw [hs1]; simp) (hX.cell 1) d os
 have c1 := fun d os => cell_grown (w := w1) (a := ⟨w.heap.size + 1, 1, none⟩) (v := .int .i64 yprio) (by rw [hs1]; simp) (hY.cell 1) d os
 have b2 := fun d os => cell_grown (w := w1) (a := ⟨w.heap.size, 2, none⟩) (v := .int .i64 xneed) (by rw [hs1]; simp) (hX.cell 2) d os
 have c2 := fun d os => cell_grown (w := w1) (a := ⟨w.heap.size + 1, 2, none⟩) (v := .int .i64 yneed) (by rw [hs1]; simp) (hY.cell 2) d os
 have b3 := fun d os => cell_grown (w := w1) (a := ⟨w.heap.size, 3, none⟩) (v := .int .i64 xtries) (by rw [hs1]; simp) (hX.cell 3) d os
 have c3 := fun d os => cell_grown (w := w1) (a := ⟨w.heap.size + 1, 3, none⟩) (v := .int .i64 ytries) (by rw [hs1]; simp) (hY.cell 3) d os
 have b4 := fun d os => cell_grown (w := w1) (a := ⟨w.heap.size, 4, none⟩) (v := .string xtag) (by rw [hs1]; simp) (hX.cell 4) d os
 have c4 := fun d os => cell_grown (w := w1) (a := ⟨w.heap.size + 1, 4, none⟩) (v := .string ytag) (by rw [hs1]; simp) (hY.cell 4) d os
 have k0 := fun d os => cell_grown (w := w1) (a := ⟨kb, 0, none⟩) (v := .func (.func 46) #[] #[]) (by show kb < w1.heap.size; rw [hs1]; omega) ((hb1.cell (p := ⟨kb, 0, none⟩) hkl).trans hk) d os
 have HW := hid hw1
 have HG := hid hg1
 clear hw1 hg1 hb1 hX hY hk hkl hs1
 go_enter Tryz.func136, Tryz.ntmps136
 go_wp2_with fail
 rw [HW.out]
 refine wp_region_quiet_grown (by kernel_rfl) (by kernel_rfl) ?_
 repeat (quiet_step (first | (go_at_call 46; exact Calls.grown_of (keyJob_grown _ _ _ _ _ _)) | (go_at_call 137; exact Calls.grown_of (compare_grown _ _ _))))
 refine wpQuiet_nil ?_
 intro _ hw'
 obtain ⟨⟨nq, osq⟩, hw''⟩ := hw'
 subst hw''
 have HE := hid (show ∃ q os', grow (w1.drewN nq) osq = grow (w.drewN q) os' from ⟨nq, _, by rw [HG.out]; show grow (grow (w.drewN nq) _) osq = _; rw [grow_grow]⟩)
 clear b0 c0 b1 c1 b2 c2 b3 c3 b4 c4 k0
 dsimp only
 generalize grow (w1.drewN nq) osq = w2 at HE ⊢
 go_wp2
 go_ret
 exact ⟨rfl, HE.out⟩
theorem srt_job (Bm b nn kb : Nat) (hnn : nn ≤ 1000) (rows set : List JobD) (gone : List ByteArray) (w : World) (hm : w.cell? ⟨Bm, 0, none⟩ = some (.map (some b))) (hM : MapIs w b nn (fun s => (tabG JobD.name rows gone set s).map (fun x : JobD => Value.agg (jobV x).toArray)))
 (hkb : w.cell? ⟨kb, 0, none⟩ = some (.func (.func 46) #[] #[])) (hr : KSorted JobD.name rows) (hs : KSorted JobD.name set) :
 Calls Tryz.prog 134 #[.func (.func 202) #[] #[.pointer (some ⟨Bm, 0, none⟩)], .func (.func 136) #[] #[.pointer (some ⟨kb, 0, none⟩)]] w (SrtPost 38 5 jobV (applyL JobD.name rows set gone) w) := by
 have HC := hid (collect_job Bm b nn hnn _ (fun s x h => tabG_key h) w hm hM)
 have hkl : kb < w.heap.size := block_lt_of_cell hkb
 have HKb := hid hkb
 have HR := hid (And.intro hr hs)
 clear hm hM hkb hr hs
 go_enter Tryz.func134, Tryz.ntmps134
 go_wp2_with fail
 refine Calls.mono HC.out ?_
 rintro e W ⟨A, c, xs, rfl, hcame, hlen, hrow, hb⟩
 have Hb := hid hb
 have Hrow := hid hrow
 have Hcame := hid hcame
 clear HC hcame hb
 rcases hrow.2 with ⟨hv, hz⟩ | ⟨g, cap, cur, hv, hbase, hgb, r1, r2, r3, r4⟩
 · have hxs : xs = [] := List.eq_nil_of_length_eq_zero hz
   subst hxs
   have hL : applyL JobD.name rows set gone = [] := by
    have h := sorted_apply (d' := (#[] : Array JobD)) HR.out.1 HR.out.2 Hcame.out.1 Hcame.out.2 ⟨rfl, fun _ _ => rfl, by simp⟩ (fun i j _ _ h => absurd h (by simp))
    rw [← h]
   have HL := hid hL
   clear hL
   injection hv with hA _ hc
   subst hA
   subst hc
   clear hrow
   go_wp2_with fail
   refine Calls.mono (show Calls Tryz.prog 201 #[.slice none 0 0, .func (.func 136) #[] #[.pointer (some ⟨kb, 0, none⟩)]] W _ from AnyF.slices_SortFunc_none { laySortJob with } none 0 _ W) ?_
   rintro e w' ⟨rfl, rfl⟩
   go_wp2
   go_ret
   unfold SrtPost
   rw [HL.out]
   exact ⟨none, 0, rfl, Hrow.out, Hb.out⟩
 · injection hv with hA _ hc
   subst hA
   subst hc
   have hgl : g < W.heap.size := (Array.getElem?_eq_some_iff.1 hgb).1
   have hkbW : W.cell? ⟨kb, 0, none⟩ = some (.func (.func 46) #[] #[]) := (Hb.out.cell (p := ⟨kb, 0, none⟩) hkl).trans HKb.out
   have hne : kb ≠ g := by omega
   have HS := AnyQ.slices_SortFunc laySortJob 5 Tryz.isAgg38 Tryz.sizeOf38 jobV jobV_len jobV_oneT (cfK JobD.name) (swoK JobD.name) 136 #[.pointer (some ⟨kb, 0, none⟩)] g 0 c xs.toArray W (Go.Proofs.enters_of Tryz.func136 (by kernel_rfl) rfl)
    (fun m os dk _ x y => by
     obtain ⟨xname, xprio, xneed, xtries, xtag⟩ := x
     obtain ⟨yname, yprio, yneed, ytries, ytag⟩ := y
     exact chgJob_cmp xname xprio xneed xtries xtag yname yprio yneed ytries ytag kb _ (cell_grownOther (grownBy_sortedK dk) hne hkbW))
    (holdsK_own jobV_len (by decide) hgb r4) hgl (by simp; omega)
   change Calls Tryz.prog 201 _ _ _ at HS
   have HS := hid HS
   have HX := hid (fun (d' : Array JobD) (hd : d'.size = xs.length) (k : Nat) (os : Array Obj) => own_sortedK (n := k) (os := os) (d := d') jobV_len (by decide) hd hbase hgb r1 r2 r3)
   have HB := hid (fun (d' : Array JobD) (k : Nat) (os : Array Obj) => below_grown Hb.out (grownBy_sortedK (enc := jobV) (k := 5) (n := k) (os := os) d') hbase)
   clear hrow hgb r1 r2 r3 r4 hkbW hne
   simp only [List.size_toArray] at HS
   go_wp2_with fail
   refine Calls.mono HS.out ?_
   rintro e w' ⟨rfl, d', k, os, hp, ho, rfl⟩
   have hd := sorted_apply HR.out.1 HR.out.2 Hcame.out.1 Hcame.out.2 hp ho
   have hsz : d'.size = xs.length := by simpa using hp.1
   have h1 := HX.out d' hsz k os
   have hll : (applyL JobD.name rows set gone).length = xs.length := by rw [← hd]; simpa using hsz
   rw [hd] at h1
   have H1 := hid h1
   have H2 := hid (HB.out d' k os)
   have HL := hid hll
   clear hp ho hd h1 hll HX HB HS hsz
   generalize sortWorldK jobV 5 W g 0 k d' os = w2 at H1 H2 ⊢
   go_wp2
   go_ret
   exact ⟨some ⟨g, 0, none⟩, c, by rw [HL.out]; rfl, by rw [HL.out]; exact H1.out, H2.out⟩
theorem keyNode_grown (name : ByteArray) (room : Int) (zone : ByteArray) (w : World) : Calls Tryz.prog 48 #[.agg #[.string name, .int .i64 room, .string zone]] w fun e w' => e = .returned (.string name) ∧ ∃ q os', w' = grow (w.drewN q) os' := by
 go_enter Tryz.func48, Tryz.ntmps48
 go_wp2
 go_ret
 exact ⟨rfl, 0, _, by rw [alloc_eq_grow]; rfl⟩
theorem chgNode_cmp (xname : ByteArray) (xroom : Int) (xzone : ByteArray) (yname : ByteArray) (yroom : Int) (yzone : ByteArray) (kb : Nat) (w : World) (hk : w.cell? ⟨kb, 0, none⟩ = some (.func (.func 48) #[] #[])) :
 Calls Tryz.prog 140 #[.agg #[.string xname, .int .i64 xroom, .string xzone], .agg #[.string yname, .int .i64 yroom, .string yzone], .pointer (some ⟨kb, 0, none⟩)] w fun e w' => e = .returned (.int .i64 (cmpI xname yname)) ∧ ∃ q os', w' = grow (w.drewN q) os' := by
 have hkl : kb < w.heap.size := block_lt_of_cell hk
 obtain ⟨w1, hw1⟩ : ∃ w1, (w.alloc (.cells #[.string xname, .int .i64 xroom, .string xzone] 40)).alloc (.cells #[.string yname, .int .i64 yroom, .string yzone] 40) = w1 := ⟨_, rfl⟩
 have hb1 : Below w.heap.size w w1 := by rw [← hw1]; exact ((Below.refl _ _).alloc (Nat.le_refl _) _).alloc (by simp) _
 have hs1 : w1.heap.size = w.heap.size + 2 := by rw [← hw1]; simp
 have hX : Blk w1 w.heap.size 40 #[.string xname, .int .i64 xroom, .string xzone] := by rw [← hw1]; exact Blk.alloc (show Blk _ _ _ _ from heap_alloc_new w _) _
 have hY : Blk w1 (w.heap.size + 1) 40 #[.string yname, .int .i64 yroom, .string yzone] := by
  rw [← hw1]
  have h := heap_alloc_new (w.alloc (.cells #[.string xname, .int .i64 xroom, .string xzone] 40)) (.cells #[.string yname, .int .i64 yroom, .string yzone] 40)
  rwa [show (w.alloc (.cells #[.string xname, .int .i64 xroom, .string xzone] 40)).heap.size = w.heap.size + 1 by simp] at h
 have hg1 : w1 = grow w #[.cells #[.string xname, .int .i64 xroom, .string xzone] 40, .cells #[.string yname, .int .i64 yroom, .string yzone] 40] := by rw [← hw1, alloc_eq_grow, alloc_eq_grow, grow_grow]; rfl
 have b0 := fun d os => cell_grown (w := w1) (a := ⟨w.heap.size, 0, none⟩) (v := .string xname) (by rw [hs1]; simp) (hX.cell 0) d os
 have c0 := fun d os => cell_grown (w := w1) (a := ⟨w.heap.size + 1, 0, none⟩) (v := .string yname) (by rw [hs1]; simp) (hY.cell 0) d os
 have b1 := fun d os => cell_grown (w := w1) (a := ⟨w.heap.size, 1, none⟩) (v := .int .i64 xroom) (by rw [hs1]; simp) (hX.cell 1) d os
 have c1 := fun d os => cell_grown (w := w1) (a := ⟨w.heap.size + 1, 1, none⟩) (v := .int .i64 yroom) (by rw [hs1]; simp) (hY.cell 1) d os
 have b2 := fun d os => cell_grown (w := w1) (a := ⟨w.heap.size, 2, none⟩) (v := .string xzone) (by rw [hs1]; simp) (hX.cell 2) d os
 have c2 := fun d os => cell_grown (w := w1) (a := ⟨w.heap.size + 1, 2, none⟩) (v := .string yzone) (by rw [hs1]; simp) (hY.cell 2) d os
 have k0 := fun d os => cell_grown (w := w1) (a := ⟨kb, 0, none⟩) (v := .func (.func 48) #[] #[]) (by show kb < w1.heap.size; rw [hs1]; omega) ((hb1.cell (p := ⟨kb, 0, none⟩) hkl).trans hk) d os
 have HW := hid hw1
 have HG := hid hg1
 clear hw1 hg1 hb1 hX hY hk hkl hs1
 go_enter Tryz.func140, Tryz.ntmps140
 go_wp2_with fail
 rw [HW.out]
 refine wp_region_quiet_grown (by kernel_rfl) (by kernel_rfl) ?_
 repeat (quiet_step (first | (go_at_call 48; exact Calls.grown_of (keyNode_grown _ _ _ _)) | (go_at_call 137; exact Calls.grown_of (compare_grown _ _ _))))
 refine wpQuiet_nil ?_
 intro _ hw'
 obtain ⟨⟨nq, osq⟩, hw''⟩ := hw'
 subst hw''
 have HE := hid (show ∃ q os', grow (w1.drewN nq) osq = grow (w.drewN q) os' from ⟨nq, _, by rw [HG.out]; show grow (grow (w.drewN nq) _) osq = _; rw [grow_grow]⟩)
 clear b0 c0 b1 c1 b2 c2 k0
 dsimp only
 generalize grow (w1.drewN nq) osq = w2 at HE ⊢
 go_wp2
 go_ret
 exact ⟨rfl, HE.out⟩
theorem srt_node (Bm b nn kb : Nat) (hnn : nn ≤ 1000) (rows set : List NodeD) (gone : List ByteArray) (w : World) (hm : w.cell? ⟨Bm, 0, none⟩ = some (.map (some b))) (hM : MapIs w b nn (fun s => (tabG NodeD.name rows gone set s).map (fun x : NodeD => Value.agg (nodeV x).toArray)))
 (hkb : w.cell? ⟨kb, 0, none⟩ = some (.func (.func 48) #[] #[])) (hr : KSorted NodeD.name rows) (hs : KSorted NodeD.name set) :
 Calls Tryz.prog 138 #[.func (.func 206) #[] #[.pointer (some ⟨Bm, 0, none⟩)], .func (.func 140) #[] #[.pointer (some ⟨kb, 0, none⟩)]] w (SrtPost 40 3 nodeV (applyL NodeD.name rows set gone) w) := by
 have HC := hid (collect_node Bm b nn hnn _ (fun s x h => tabG_key h) w hm hM)
 have hkl : kb < w.heap.size := block_lt_of_cell hkb
 have HKb := hid hkb
 have HR := hid (And.intro hr hs)
 clear hm hM hkb hr hs
 go_enter Tryz.func138, Tryz.ntmps138
 go_wp2_with fail
 refine Calls.mono HC.out ?_
 rintro e W ⟨A, c, xs, rfl, hcame, hlen, hrow, hb⟩
 have Hb := hid hb
 have Hrow := hid hrow
 have Hcame := hid hcame
 clear HC hcame hb
 rcases hrow.2 with ⟨hv, hz⟩ | ⟨g, cap, cur, hv, hbase, hgb, r1, r2, r3, r4⟩
 · have hxs : xs = [] := List.eq_nil_of_length_eq_zero hz
   subst hxs
   have hL : applyL NodeD.name rows set gone = [] := by
    have h := sorted_apply (d' := (#[] : Array NodeD)) HR.out.1 HR.out.2 Hcame.out.1 Hcame.out.2 ⟨rfl, fun _ _ => rfl, by simp⟩ (fun i j _ _ h => absurd h (by simp))
    rw [← h]
   have HL := hid hL
   clear hL
   injection hv with hA _ hc
   subst hA
   subst hc
   clear hrow
   go_wp2_with fail
   refine Calls.mono (show Calls Tryz.prog 205 #[.slice none 0 0, .func (.func 140) #[] #[.pointer (some ⟨kb, 0, none⟩)]] W _ from AnyF.slices_SortFunc_none { laySortNode with } none 0 _ W) ?_
   rintro e w' ⟨rfl, rfl⟩
   go_wp2
   go_ret
   unfold SrtPost
   rw [HL.out]
   exact ⟨none, 0, rfl, Hrow.out, Hb.out⟩
 · injection hv with hA _ hc
   subst hA
   subst hc
   have hgl : g < W.heap.size := (Array.getElem?_eq_some_iff.1 hgb).1
   have hkbW : W.cell? ⟨kb, 0, none⟩ = some (.func (.func 48) #[] #[]) := (Hb.out.cell (p := ⟨kb, 0, none⟩) hkl).trans HKb.out
   have hne : kb ≠ g := by omega
   have HS := AnyQ.slices_SortFunc laySortNode 3 Tryz.isAgg40 Tryz.sizeOf40 nodeV nodeV_len nodeV_oneT (cfK NodeD.name) (swoK NodeD.name) 140 #[.pointer (some ⟨kb, 0, none⟩)] g 0 c xs.toArray W (Go.Proofs.enters_of Tryz.func140 (by kernel_rfl) rfl)
    (fun m os dk _ x y => by
     obtain ⟨xname, xroom, xzone⟩ := x
     obtain ⟨yname, yroom, yzone⟩ := y
     exact chgNode_cmp xname xroom xzone yname yroom yzone kb _ (cell_grownOther (grownBy_sortedK dk) hne hkbW))
    (holdsK_own nodeV_len (by decide) hgb r4) hgl (by simp; omega)
   change Calls Tryz.prog 205 _ _ _ at HS
   have HS := hid HS
   have HX := hid (fun (d' : Array NodeD) (hd : d'.size = xs.length) (k : Nat) (os : Array Obj) => own_sortedK (n := k) (os := os) (d := d') nodeV_len (by decide) hd hbase hgb r1 r2 r3)
   have HB := hid (fun (d' : Array NodeD) (k : Nat) (os : Array Obj) => below_grown Hb.out (grownBy_sortedK (enc := nodeV) (k := 3) (n := k) (os := os) d') hbase)
   clear hrow hgb r1 r2 r3 r4 hkbW hne
   simp only [List.size_toArray] at HS
   go_wp2_with fail
   refine Calls.mono HS.out ?_
   rintro e w' ⟨rfl, d', k, os, hp, ho, rfl⟩
   have hd := sorted_apply HR.out.1 HR.out.2 Hcame.out.1 Hcame.out.2 hp ho
   have hsz : d'.size = xs.length := by simpa using hp.1
   have h1 := HX.out d' hsz k os
   have hll : (applyL NodeD.name rows set gone).length = xs.length := by rw [← hd]; simpa using hsz
   rw [hd] at h1
   have H1 := hid h1
   have H2 := hid (HB.out d' k os)
   have HL := hid hll
   clear hp ho hd h1 hll HX HB HS hsz
   generalize sortWorldK nodeV 3 W g 0 k d' os = w2 at H1 H2 ⊢
   go_wp2
   go_ret
   exact ⟨some ⟨g, 0, none⟩, c, by rw [HL.out]; rfl, by rw [HL.out]; exact H1.out, H2.out⟩
theorem keyLease_grown (job : ByteArray) (node : ByteArray) (till : Int) (w : World) : Calls Tryz.prog 50 #[.agg #[.string job, .string node, .int .i64 till]] w fun e w' => e = .returned (.string job) ∧ ∃ q os', w' = grow (w.drewN q) os' := by
 go_enter Tryz.func50, Tryz.ntmps50
 go_wp2
 go_ret
 exact ⟨rfl, 0, _, by rw [alloc_eq_grow]; rfl⟩
theorem chgLease_cmp (xjob : ByteArray) (xnode : ByteArray) (xtill : Int) (yjob : ByteArray) (ynode : ByteArray) (ytill : Int) (kb : Nat) (w : World) (hk : w.cell? ⟨kb, 0, none⟩ = some (.func (.func 50) #[] #[])) :
 Calls Tryz.prog 143 #[.agg #[.string xjob, .string xnode, .int .i64 xtill], .agg #[.string yjob, .string ynode, .int .i64 ytill], .pointer (some ⟨kb, 0, none⟩)] w fun e w' => e = .returned (.int .i64 (cmpI xjob yjob)) ∧ ∃ q os', w' = grow (w.drewN q) os' := by
 have hkl : kb < w.heap.size := block_lt_of_cell hk
 obtain ⟨w1, hw1⟩ : ∃ w1, (w.alloc (.cells #[.string xjob, .string xnode, .int .i64 xtill] 42)).alloc (.cells #[.string yjob, .string ynode, .int .i64 ytill] 42) = w1 := ⟨_, rfl⟩
 have hb1 : Below w.heap.size w w1 := by rw [← hw1]; exact ((Below.refl _ _).alloc (Nat.le_refl _) _).alloc (by simp) _
 have hs1 : w1.heap.size = w.heap.size + 2 := by rw [← hw1]; simp
 have hX : Blk w1 w.heap.size 42 #[.string xjob, .string xnode, .int .i64 xtill] := by rw [← hw1]; exact Blk.alloc (show Blk _ _ _ _ from heap_alloc_new w _) _
 have hY : Blk w1 (w.heap.size + 1) 42 #[.string yjob, .string ynode, .int .i64 ytill] := by
  rw [← hw1]
  have h := heap_alloc_new (w.alloc (.cells #[.string xjob, .string xnode, .int .i64 xtill] 42)) (.cells #[.string yjob, .string ynode, .int .i64 ytill] 42)
  rwa [show (w.alloc (.cells #[.string xjob, .string xnode, .int .i64 xtill] 42)).heap.size = w.heap.size + 1 by simp] at h
 have hg1 : w1 = grow w #[.cells #[.string xjob, .string xnode, .int .i64 xtill] 42, .cells #[.string yjob, .string ynode, .int .i64 ytill] 42] := by rw [← hw1, alloc_eq_grow, alloc_eq_grow, grow_grow]; rfl
 have b0 := fun d os => cell_grown (w := w1) (a := ⟨w.heap.size, 0, none⟩) (v := .string xjob) (by rw [hs1]; simp) (hX.cell 0) d os
 have c0 := fun d os => cell_grown (w := w1) (a := ⟨w.heap.size + 1, 0, none⟩) (v := .string yjob) (by rw [hs1]; simp) (hY.cell 0) d os
 have b1 := fun d os => cell_grown (w := w1) (a := ⟨w.heap.size, 1, none⟩) (v := .string xnode) (by rw [hs1]; simp) (hX.cell 1) d os
 have c1 := fun d os => cell_grown (w := w1) (a := ⟨w.heap.size + 1, 1, none⟩) (v := .string ynode) (by rw [hs1]; simp) (hY.cell 1) d os
 have b2 := fun d os => cell_grown (w := w1) (a := ⟨w.heap.size, 2, none⟩) (v := .int .i64 xtill) (by rw [hs1]; simp) (hX.cell 2) d os
 have c2 := fun d os => cell_grown (w := w1) (a := ⟨w.heap.size + 1, 2, none⟩) (v := .int .i64 ytill) (by rw [hs1]; simp) (hY.cell 2) d os
 have k0 := fun d os => cell_grown (w := w1) (a := ⟨kb, 0, none⟩) (v := .func (.func 50) #[] #[]) (by show kb < w1.heap.size; rw [hs1]; omega) ((hb1.cell (p := ⟨kb, 0, none⟩) hkl).trans hk) d os
 have HW := hid hw1
 have HG := hid hg1
 clear hw1 hg1 hb1 hX hY hk hkl hs1
 go_enter Tryz.func143, Tryz.ntmps143
 go_wp2_with fail
 rw [HW.out]
 refine wp_region_quiet_grown (by kernel_rfl) (by kernel_rfl) ?_
 repeat (quiet_step (first | (go_at_call 50; exact Calls.grown_of (keyLease_grown _ _ _ _)) | (go_at_call 137; exact Calls.grown_of (compare_grown _ _ _))))
 refine wpQuiet_nil ?_
 intro _ hw'
 obtain ⟨⟨nq, osq⟩, hw''⟩ := hw'
 subst hw''
 have HE := hid (show ∃ q os', grow (w1.drewN nq) osq = grow (w.drewN q) os' from ⟨nq, _, by rw [HG.out]; show grow (grow (w.drewN nq) _) osq = _; rw [grow_grow]⟩)
 clear b0 c0 b1 c1 b2 c2 k0
 dsimp only
 generalize grow (w1.drewN nq) osq = w2 at HE ⊢
 go_wp2
 go_ret
 exact ⟨rfl, HE.out⟩
theorem srt_lease (Bm b nn kb : Nat) (hnn : nn ≤ 1000) (rows set : List LeaseD) (gone : List ByteArray) (w : World) (hm : w.cell? ⟨Bm, 0, none⟩ = some (.map (some b))) (hM : MapIs w b nn (fun s => (tabG LeaseD.job rows gone set s).map (fun x : LeaseD => Value.agg (leaseV x).toArray)))
 (hkb : w.cell? ⟨kb, 0, none⟩ = some (.func (.func 50) #[] #[])) (hr : KSorted LeaseD.job rows) (hs : KSorted LeaseD.job set) :
 Calls Tryz.prog 141 #[.func (.func 209) #[] #[.pointer (some ⟨Bm, 0, none⟩)], .func (.func 143) #[] #[.pointer (some ⟨kb, 0, none⟩)]] w (SrtPost 42 3 leaseV (applyL LeaseD.job rows set gone) w) := by
 have HC := hid (collect_lease Bm b nn hnn _ (fun s x h => tabG_key h) w hm hM)
 have hkl : kb < w.heap.size := block_lt_of_cell hkb
 have HKb := hid hkb
 have HR := hid (And.intro hr hs)
 clear hm hM hkb hr hs
 go_enter Tryz.func141, Tryz.ntmps141
 go_wp2_with fail
 refine Calls.mono HC.out ?_
 rintro e W ⟨A, c, xs, rfl, hcame, hlen, hrow, hb⟩
 have Hb := hid hb
 have Hrow := hid hrow
 have Hcame := hid hcame
 clear HC hcame hb
 rcases hrow.2 with ⟨hv, hz⟩ | ⟨g, cap, cur, hv, hbase, hgb, r1, r2, r3, r4⟩
 · have hxs : xs = [] := List.eq_nil_of_length_eq_zero hz
   subst hxs
   have hL : applyL LeaseD.job rows set gone = [] := by
    have h := sorted_apply (d' := (#[] : Array LeaseD)) HR.out.1 HR.out.2 Hcame.out.1 Hcame.out.2 ⟨rfl, fun _ _ => rfl, by simp⟩ (fun i j _ _ h => absurd h (by simp))
    rw [← h]
   have HL := hid hL
   clear hL
   injection hv with hA _ hc
   subst hA
   subst hc
   clear hrow
   go_wp2_with fail
   refine Calls.mono (show Calls Tryz.prog 208 #[.slice none 0 0, .func (.func 143) #[] #[.pointer (some ⟨kb, 0, none⟩)]] W _ from AnyF.slices_SortFunc_none { laySortLease with } none 0 _ W) ?_
   rintro e w' ⟨rfl, rfl⟩
   go_wp2
   go_ret
   unfold SrtPost
   rw [HL.out]
   exact ⟨none, 0, rfl, Hrow.out, Hb.out⟩
 · injection hv with hA _ hc
   subst hA
   subst hc
   have hgl : g < W.heap.size := (Array.getElem?_eq_some_iff.1 hgb).1
   have hkbW : W.cell? ⟨kb, 0, none⟩ = some (.func (.func 50) #[] #[]) := (Hb.out.cell (p := ⟨kb, 0, none⟩) hkl).trans HKb.out
   have hne : kb ≠ g := by omega
   have HS := AnyQ.slices_SortFunc laySortLease 3 Tryz.isAgg42 Tryz.sizeOf42 leaseV leaseV_len leaseV_oneT (cfK LeaseD.job) (swoK LeaseD.job) 143 #[.pointer (some ⟨kb, 0, none⟩)] g 0 c xs.toArray W (Go.Proofs.enters_of Tryz.func143 (by kernel_rfl) rfl)
    (fun m os dk _ x y => by
     obtain ⟨xjob, xnode, xtill⟩ := x
     obtain ⟨yjob, ynode, ytill⟩ := y
     exact chgLease_cmp xjob xnode xtill yjob ynode ytill kb _ (cell_grownOther (grownBy_sortedK dk) hne hkbW))
    (holdsK_own leaseV_len (by decide) hgb r4) hgl (by simp; omega)
   change Calls Tryz.prog 208 _ _ _ at HS
   have HS := hid HS
   have HX := hid (fun (d' : Array LeaseD) (hd : d'.size = xs.length) (k : Nat) (os : Array Obj) => own_sortedK (n := k) (os := os) (d := d') leaseV_len (by decide) hd hbase hgb r1 r2 r3)
   have HB := hid (fun (d' : Array LeaseD) (k : Nat) (os : Array Obj) => below_grown Hb.out (grownBy_sortedK (enc := leaseV) (k := 3) (n := k) (os := os) d') hbase)
   clear hrow hgb r1 r2 r3 r4 hkbW hne
   simp only [List.size_toArray] at HS
   go_wp2_with fail
   refine Calls.mono HS.out ?_
   rintro e w' ⟨rfl, d', k, os, hp, ho, rfl⟩
   have hd := sorted_apply HR.out.1 HR.out.2 Hcame.out.1 Hcame.out.2 hp ho
   have hsz : d'.size = xs.length := by simpa using hp.1
   have h1 := HX.out d' hsz k os
   have hll : (applyL LeaseD.job rows set gone).length = xs.length := by rw [← hd]; simpa using hsz
   rw [hd] at h1
   have H1 := hid h1
   have H2 := hid (HB.out d' k os)
   have HL := hid hll
   clear hp ho hd h1 hll HX HB HS hsz
   generalize sortWorldK leaseV 3 W g 0 k d' os = w2 at H1 H2 ⊢
   go_wp2
   go_ret
   exact ⟨some ⟨g, 0, none⟩, c, by rw [HL.out]; rfl, by rw [HL.out]; exact H1.out, H2.out⟩
end Go.Proofs.YtjgnnobccecpeaaGreatDoor
