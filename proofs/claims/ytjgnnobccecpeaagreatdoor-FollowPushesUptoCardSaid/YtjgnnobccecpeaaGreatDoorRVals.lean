/- Of the proof of a statement: Vals. -/
import Derived.RangeFuncNested
import Derived.RangeFuncBound
import Derived.RangeFuncCalls
import Derived.RangeFuncLeaves
import Derived.RangeFuncMany
import Derived.RangeFuncFrom
import Derived.RangeFuncBox
import Derived.Sort.MapsRangeIn
import Derived.Sort.KeysCollected
import Derived.Shelf.Abstract
import Derived.Shelf.RegionOpen
import Derived.WalkKit
import Derived.OwnWalkIn
import Derived.TacticsInMore
import Derived.RegionIn
import Derived.LoopNIn
import Derived.LoopIn
import Derived.Maps.OwnIn
import Derived.Maps.AppendAt
import Derived.Test.YtjgnnobccecpeaaGreatDoorRPlDDec
import Derived.Test.YtjgnnobccecpeaaGreatDoorRTake
set_option linter.unusedVariables false
set_option linter.unusedSimpArgs false
/- maps.Values of a table that the call itself has made; slices.AppendSeq and Collect over it: jobs, nodes, leases. -/
namespace Go.Proofs.YtjgnnobccecpeaaGreatDoor
open Go.RowKit Go.Maps Go.Sort Go.Shelf
section
attribute [local go_sem] Oper.semAt_some
/-- What the table's map holds, as data. -/
def TabD {α : Type} (V : α → Value) (G : ByteArray → Option α) (D : DataW Value) : Prop := ∀ (s : ByteArray) (z : DataW Value), D.atKey (.string s.data.toList) z = match (G s).map V with
    | none => z
    | some v => .held v
theorem str_of_list (x : List UInt8) : (ByteArray.mk x.toArray).data.toList = x := rfl
theorem tab_entry {α : Type} {V : α → Value} {G : ByteArray → Option α} {D : DataW Value} (hD : TabD V G D) {x : List UInt8} {c : Value} {yd : DataW Value} {yp : List MemPlace} (hv : heldR c = some (yd, yp)) (hat : ∀ z, D.atKey (.string x) z = yd) :
    ∃ r, G ⟨x.toArray⟩ = some r ∧ c = V r := by
  have e1 : yd = .held c := by
    have := congrArg (fun o => o.map Prod.fst) hv
    simpa [heldR] using this.symm
  subst e1
  have h1 := hD ⟨x.toArray⟩
  cases hg : G ⟨x.toArray⟩ with
  | none =>
    have h2 := h1 (.lit (.int .i64 0))
    rw [str_of_list, hat, hg] at h2
    simp at h2
  | some r =>
    have h2 := h1 (.lit (.int .i64 0))
    rw [str_of_list, hat, hg] at h2
    refine ⟨r, rfl, ?_⟩
    simpa using h2
theorem came_of {α : Type} {key : α → ByteArray} {V : α → Value} {G : ByteArray → Option α} {D : DataW Value} {left : Lit → Bool} {ps : List (List UInt8 × α)} (hG : ∀ s x, G s = some x → key x = s) (hD : TabD V G D)
    (hC : Collected D left (ps.map (·.1))) (hl : ∀ kl, left kl = false) (hV : ∀ p ∈ ps, G ⟨p.1.toArray⟩ = some p.2) : CameOf key G (ps.map (·.2)) := by
  have hk : ∀ p ∈ ps, key p.2 = ⟨p.1.toArray⟩ := fun p hp => hG _ _ (hV p hp)
  constructor
  · have h1 := hC.1
    rw [List.Nodup, List.pairwise_map] at h1
    rw [List.pairwise_map]
    refine List.Pairwise.imp_of_mem (fun {a b} ha hb hne e => ?_) h1
    rw [hk a ha, hk b hb] at e
    injection e with e
    exact hne (List.toArray_inj e)
  · intro z
    constructor
    · intro hz
      obtain ⟨p, hp, rfl⟩ := List.mem_map.1 hz
      rw [hk p hp]; exact hV p hp
    · intro hz
      have hh : has D (.string (key z).data.toList) = true := by
        have h1 := hD (key z)
        rw [hz] at h1
        exact Maps.has_true_of_atKey (y := .held (V z)) h1
      obtain ⟨p, hp, hpe⟩ := List.mem_map.1 ((hC.2 _).2 ⟨hh, hl _⟩)
      have h2 := hV p hp
      have e3 : (ByteArray.mk p.1.toArray) = key z := by rw [hpe]
      rw [e3, hz] at h2
      injection h2 with h2
      exact List.mem_map.2 ⟨p, hp, h2.symm⟩
theorem cells_new (w : World) (xs : List Value) (t : TypeId) : ∀ (j : Nat) u, xs[j]? = some u → (w.alloc (.cells xs.toArray t)).cell? ((⟨w.heap.size, 0, none⟩ : Addr).add j) = some u := by
  intro j u hj
  rw [show (⟨w.heap.size, 0, none⟩ : Addr).add j = (⟨w.heap.size, 0 + j, none⟩ : Addr) from by simp [Addr.add]; omega]
  rw [cell_of_row _ _ (0 + j) xs.toArray t (0, 0) (heap_alloc_new w _), Nat.zero_add]
  simpa using hj
theorem blk_abides {X Y : World} {Bx : Nat} {T : TypeId} {cs : Array Value} {row : Option Nat} (h : Blk X Bx T cs) (hg : X.grownBy Y row) (hr : ∀ r, row = some r → ∃ o : Obj, X.heap[r]? = some o ∧ o.isCells = false) : Blk Y Bx T cs :=
  (hg.block Bx h.lt (fun e => by obtain ⟨o, ho, hc⟩ := hr Bx e.symm; rw [show X.heap[Bx]? = _ from h] at ho; cases ho; cases hc)).trans h
theorem own_form {w : World} {base : Nat} {e : TypeId} {sz n : Nat} {v : Value} {xs : List Value} (h : w.ownsRow base e sz v n xs) : ∃ A c, v = .slice A n c := by
  rcases h.2 with ⟨rfl, rfl⟩ | ⟨g, cap, cur, rfl, _⟩
  · exact ⟨_, _, rfl⟩
  · exact ⟨_, _, rfl⟩
set_option maxRecDepth 100000 in
set_option maxHeartbeats 4000000 in
/-- maps.Values' iterator, for every loop body. -/
theorem vals_job (n : Nat) (hn : 1 ≤ n) (l Bm b nn : Nat) (D0 : DataW Value) (G : ByteArray → Option JobD) (hG : ∀ s x, G s = some x → JobD.name x = s) (J Jx : List JobD → World → Prop)
    (hY : ∀ pre x W, J pre W → pre.length < nn → YieldAt Fence.wide (n - 1) Tryz.prog l #[.agg (jobV x).toArray] W fun e W' =>
      (e = .returned (.bool true) ∧ J (pre ++ [x]) W' ∧ KeepsWalks W W') ∨ (e = .returned (.bool false) ∧ Jx (pre ++ [x]) W'))
    (W : World) (hJ : AbidesFrom W.heap.size J) (hm : W.cell? ⟨Bm, 0, none⟩ = some (.map (some b))) (hown : W.ownsMap Tryz.prog 9 heldR b nn D0) (hD : TabD (fun x : JobD => Value.agg (jobV x).toArray) G D0) (h0 : J [] W) :
    CallsIn Fence.wide n Tryz.prog 202 #[.func (.yield l) #[] #[], .pointer (some ⟨Bm, 0, none⟩)] W fun e W' => (∃ v, e = .returned v) ∧
      ((∃ xs, CameOf JobD.name G xs ∧ J xs W') ∨ (∃ pre, True ∧ Jx pre W')) := by
  have hsl := hown.size_le
  refine callsIn_of_wp Tryz.func202 rfl trivial ?_ rfl
  simp only [Tryz.ntmps202, List.size_toArray, List.length_cons, List.length_nil, Nat.reduceAdd, Nat.reduceSub, Array.replicate_succ, Array.replicate_zero, List.push_toArray, List.append_toArray, List.nil_append, List.cons_append]
  gi_wp2_with (first
    | (gi_at_range; refine wpListIn_range_own _ rfl _ 182 rfl 9 38 lawS Tryz.underlying182 _ b nn _ rfl hown ?_; intro w0 hrg0 hg0 hs0)
    | gi_in)
  go_frame
  gi_loopw [4] (fun _ wr => ∃ (left : Lit → Bool) (cnt : Nat) (ps : List (List UInt8 × JobD)), wr.ranges Tryz.prog 9 heldR b W.heap.size nn D0 left cnt ∧ ps.length + cnt ≤ Maps.size D0 ∧ Collected D0 left (ps.map (·.1)) ∧ (∀ p ∈ ps, G ⟨p.1.toArray⟩ = some p.2) ∧ J (ps.map (·.2)) wr)
    (fun _ wr => wr.rangeLeft b W.heap.size)
  case atStart =>
    exact ⟨_, _, [], hrg0, by simp, Collected.start D0, by simp, hJ [] W w0 none h0 hg0 (fun r e => by cases e)⟩
  case round =>
    obtain ⟨left, cnt, ps, hrg, hcs, hC, hV, hJs⟩ := hrel
    gi_wp2_with (first
      | (gi_at_next; refine wpListIn_next_ranges _ rfl _ rfl 9 lawS heldR encStr id (fun key kl hk => by obtain ⟨x, hx, _⟩ := Maps.keyOf_str Tryz.underlying9 hk; exact ⟨x, hx⟩) (fun v _ _ => ⟨v, rfl⟩) b W.heap.size nn _ _ _ rfl hrg ?_ ?_)
      | gi_in)
    · intro hc0 hl0
      gi_wp2
      go_end0
      exact ⟨⟨_, rfl⟩, .inl ⟨_, came_of hG hD hC hl0 hV, hJs⟩⟩
    · intro x c kl yd yp w2 cnt2 hkey hlk hv hat hrg2 hlt hg2 hs2 hen
      obtain ⟨x', ex, rfl, _⟩ := Maps.keyOf_str Tryz.underlying9 hkey
      obtain rfl : x = x' := encStr_inj ex
      obtain ⟨r, hr, hc⟩ := tab_entry hD hv hat
      have hJ2 : J (ps.map (·.2)) w2 := hJ _ wr w2 (some W.heap.size) hJs hg2 (fun r e => by cases e; exact ⟨Nat.le_refl _, hrg.iter_walk⟩)
      have hC2 : Collected D0 (fun z => left z && !z.sameKey (.string x)) ((ps ++ [(x, r)]).map (·.1)) := by simpa using hC.step hlk hat
      have hV2 : ∀ p ∈ ps ++ [(x, r)], G ⟨p.1.toArray⟩ = some p.2 := fun p hp => (List.mem_append.1 hp).elim (hV p) (fun e => by simp at e; subst e; exact hr)
      have HX := Lib.hid (And.intro hC2 hV2)
      have hJ3 : ∀ o : Obj, J (ps.map (·.2)) (w2.alloc o) := fun o => hJ _ w2 _ none hJ2 (World.grownBy_alloc w2 _ none) (fun r e => by cases e)
      have hrg4 : ∀ o : Obj, (w2.alloc o).ranges Tryz.prog 9 heldR b W.heap.size nn D0 (fun z => left z && !z.sameKey (.string x)) cnt2 := fun o => hrg2.of_walks (KeepsWalks.alloc _ _)
      obtain ⟨fn, tmps, assign, body, hy, hR⟩ := hY (ps.map (·.2)) r (w2.alloc (.cells (jobV r).toArray 38)) (hJ3 _) (by simp; omega)
      obtain ⟨name, prio, need, tries, tag⟩ := r
      replace hc : c = .agg #[.string name, .int .i64 prio, .int .i64 need, .int .i64 tries, .string tag] := hc
      subst hc
      replace hy : (Instr.yield l #[.agg #[.string name, .int .i64 prio, .int .i64 need, .int .i64 tries, .string tag]]).run Tryz.prog (w2.alloc (.cells #[.string name, .int .i64 prio, .int .i64 need, .int .i64 tries, .string tag] 38)) = _ := hy
      have HR := Lib.hid hR
      have HRG := Lib.hid (hrg4 (.cells #[.string name, .int .i64 prio, .int .i64 need, .int .i64 tries, .string tag] 38))
      clear hs2 hD hG hC hV hC2 hV2 hr hat hv hJ2 hJ3 hrg4 hR
      gi_wp2
      refine HR.out.mono ?_
      rintro e W3 (⟨rfl, hJ3, hk3⟩ | ⟨rfl, hJx3⟩)
      · gi_wp2
        have hrg3 := HRG.out.of_walks hk3
        go_roundw
        case rel => exact ⟨_, cnt2, _, hrg3, by simp; omega, HX.out.1, HX.out.2, by simpa using hJ3⟩
        case measure => rw [hrg3.left_eq, hrg.left_eq]; exact hlt
      · gi_wp2
        refine bodyPost_ret (results_none rfl _ _ _) rfl ?_
        exact ⟨⟨_, rfl⟩, .inr ⟨_, trivial, hJx3⟩⟩
theorem valsOf_job (m : Option Nat) (w : World) : Calls Tryz.prog 135 #[.map m] w fun e w' => e = .returned (.func (.func 202) #[] #[.pointer (some ⟨w.heap.size, 0, none⟩)]) ∧ w' = w.alloc (.cells #[.map m] 182) := by
  go_enter Tryz.func135, Tryz.ntmps135
  go_wp2
  go_ret
  exact ⟨rfl, rfl⟩
set_option maxRecDepth 100000 in
set_option maxHeartbeats 4000000 in
theorem appSeq_job (Bm b nn : Nat) (hnn : nn ≤ 1000) (G : ByteArray → Option JobD) (hG : ∀ s x, G s = some x → JobD.name x = s) (w : World) (hm : w.cell? ⟨Bm, 0, none⟩ = some (.map (some b))) (hM : MapIs w b nn (fun s => (G s).map (fun x : JobD => Value.agg (jobV x).toArray))) :
    Calls Tryz.prog 266 #[.slice none 0 0, .func (.func 202) #[] #[.pointer (some ⟨Bm, 0, none⟩)]] w fun e w' => ∃ A c xs, e = .returned (.slice A xs.length c) ∧ CameOf JobD.name G xs ∧ xs.length ≤ nn ∧
      w'.ownsRow w.heap.size 38 5 (.slice A xs.length c) xs.length (rowsV jobV xs) ∧ Below w.heap.size w w' := by
  refine (callsIn_wide (n := 3)).1 ?_
  obtain ⟨D0, hown, hD⟩ := hM
  have hBm := block_lt_of_cell hm
  have hseq : SeqStopsK Fence.wide (3 - 1) Tryz.prog 202 #[.pointer (some ⟨Bm, 0, none⟩)] (fun x : JobD => #[.agg (jobV x).toArray]) KeepsWalks (CameOf JobD.name G) (fun _ => True) nn w := fun l J Jx W hW hJ _ hY h0 => by
    have hown' : W.ownsMap Tryz.prog 9 heldR b nn D0 := by
      have hbl := hown.lt
      obtain ⟨es, clock, hb, Ft, hs, hD⟩ := hown
      exact ⟨es, clock, (hW.block b hbl).trans hb, Ft, hs, hD⟩
    exact vals_job (3 - 1) (by decide) l Bm b nn D0 G hG J Jx hY W hJ ((hW.cell (p := ⟨Bm, 0, none⟩) hBm).trans hm) hown' hD h0
  have HSeq := Lib.hid hseq
  clear hseq hD hG hown hm
  obtain ⟨i0, hi, hz0, hz1, hz2⟩ := info_parts infoJobT
  refine callsIn_of_wp_marks Tryz.func266 rfl trivial ?_ rfl
  simp only [Tryz.ntmps266, List.size_toArray, List.length_cons, List.length_nil, Nat.reduceAdd, Nat.reduceSub, Array.replicate_succ, Array.replicate_zero, List.push_toArray, List.append_toArray, List.nil_append, List.cons_append]
  gi_wp2
  refine wpIn_rangeFunc_ownH rfl (by decide) (gf := 202) (lb := #[.pointer (some ⟨Bm, 0, none⟩)]) rfl trivial (Go.Proofs.enters_of Tryz.func202 (by kernel_rfl) rfl)
    HSeq.out walksK_t walksK_b ((Below.refl _ w).alloc (Nat.le_refl _) _) (fun _ => rfl)
    (fun pre W => ((∃ v, Boxed W w.heap.size 22 v ∧ W.ownsRow w.heap.size 38 5 v pre.length (rowsV jobV pre) ∧ True) ∧ Below w.heap.size w W) ∧ pre.length ≤ nn)
    (fun _ _ _ => False)
    (OwnFrom.and (OwnFrom.and (Own.from (holdsRow_own w.heap.size w.heap.size 22 38 5 (fun pre : List JobD => pre.length) (fun pre => rowsV jobV pre) (fun _ _ => True)) _) (ownFrom_below (Nat.le_refl _) (by simp))) (ownFrom_pure _ _))
    (fun _ => ownFrom_pure _ _)
    ⟨⟨⟨_, Boxed.new w 22 _, World.ownsRow_nil _ _ _ _, trivial⟩, (Below.refl _ w).alloc (Nat.le_refl _) _⟩, Nat.zero_le _⟩
    (fun x a' W => ∃ Bx, w.heap.size < Bx ∧ Blk W Bx 38 (jobV x).toArray ∧ a' = { tmps := #[.slice none 0 0, .func (.func 202) #[] #[.pointer (some ⟨Bm, 0, none⟩)], .pointer (some ⟨w.heap.size, 0, none⟩), undef, .slice none 0 0, .pointer (some ⟨Bx, 0, none⟩), .func (.func 202) #[] #[.pointer (some ⟨Bm, 0, none⟩)], .agg (jobV x).toArray, undef, undef, undef, undef, undef], defers := [] })
    (fun x a' _ X Y row hs hg hr => by obtain ⟨Bx, h1, h2, h3⟩ := hs; exact ⟨Bx, h1, blk_abides h2 hg (fun r e => (hr r e).2), h3⟩)
    ?assign ?body ?done ?stop
  case assign =>
    rintro l pre x W K ⟨⟨⟨v, hv, hrow, _⟩, hB⟩, hle⟩ hK
    have hvl := hv.lt
    have HK := Lib.hid (hK _ _ ((KeepsOthers.alloc W (.cells (jobV x).toArray 38)).from _) (KeepsWalks.alloc W _) ⟨⟨⟨v, hv.alloc _, hrow.alloc _, trivial⟩, hB.alloc hB.size _⟩, hle⟩ ⟨W.heap.size, hvl, heap_alloc_new W _, rfl⟩)
    clear hv hrow hB hK
    obtain ⟨name, prio, need, tries, tag⟩ := x
    simp only [show (Value.agg (jobV ⟨name, prio, need, tries, tag⟩).toArray) = .agg #[.string name, .int .i64 prio, .int .i64 need, .int .i64 tries, .string tag] from rfl]
    gi_wp2
    exact HK.out
  case body =>
    rintro l pre x a' W hl _ ⟨⟨⟨v, hv, hrow, _⟩, hB⟩, hle⟩ ⟨Bx, hBx, hbx, rfl⟩ hlt
    have hcl : (jobV x).length = 1 * 5 := by rw [jobV_len]
    have hone := jobV_oneT x
    have hc0 := hv.cell
    have hf0 := hv.frozen
    have hbs := hB.size
    have HRow := Lib.hid hrow
    have HV := Lib.hid hv
    have HB := Lib.hid hB
    have HE := Lib.hid (show rowsV jobV pre ++ jobV x = rowsV jobV (pre ++ [x]) by rw [rowsV_append, rowsV_one])
    clear hrow hv hB
    have hbxl := hbx.lt
    obtain ⟨name, prio, need, tries, tag⟩ := x
    rw [show (Value.agg (jobV ⟨name, prio, need, tries, tag⟩).toArray) = .agg #[.string name, .int .i64 prio, .int .i64 need, .int .i64 tries, .string tag] from rfl]
    have d0 : W.cell? ⟨Bx, 0, none⟩ = some (.string name) := hbx.cell 0
    have d1 : W.cell? ⟨Bx, 1, none⟩ = some (.int .i64 prio) := hbx.cell 1
    have d2 : W.cell? ⟨Bx, 2, none⟩ = some (.int .i64 need) := hbx.cell 2
    have d3 : W.cell? ⟨Bx, 3, none⟩ = some (.int .i64 tries) := hbx.cell 3
    have d4 : W.cell? ⟨Bx, 4, none⟩ = some (.string tag) := hbx.cell 4
    clear hbx
    gi_wp2_with (gi_at_builtin; refine wpListIn_append_own_at _ rfl _ _ 22 rfl w.heap.size 38 i0 (.agg #[.string ⟨#[]⟩, .int .i64 0, .int .i64 0, .int .i64 0, .string ⟨#[]⟩]) 5 56 Tryz.underlying22 hi hz0 hz1 hz2 rfl (by decide) _ _ _ rfl (HRow.out.alloc _) ⟨W.heap.size, 0, none⟩ 1 1 (jobV ⟨name, prio, need, tries, tag⟩) rfl hcl (cells_new _ _ _) hone (by unfold maxLen; omega) (by omega) (by simp; omega) ?_; intro v' w1 hown' hgrow _ _; obtain ⟨g', cap', rfl⟩ := ownsRow_succ hown'; obtain ⟨hv1, hv2, hr2, hk2, hb2⟩ := HV.out.appended (by decide) HRow.out hbs (Nat.le_refl _) hown' hgrow; have hc1 := hv1.cell; have hf1 := hv1.frozen; have HZ := Lib.hid (And.intro hv2 (And.intro hr2 (And.intro hk2 hb2))); clear hv1 hv2 hr2 hk2 hb2 hown' hgrow)
    obtain ⟨hv2, hr2, hk2, hb2⟩ := HZ.out
    rw [HE.out] at hr2
    exact ⟨hk2.from _, hk2.walks, ⟨⟨_, hv2, by simpa using hr2, trivial⟩, HB.out.trans hb2⟩, by simp; omega⟩
  case done =>
    rintro D xs W hDl hS ⟨⟨⟨v, hv, hrow, _⟩, hB⟩, hle⟩ hK
    have hc0 := hv.cell
    obtain ⟨A, c, rfl⟩ := own_form hrow
    have HR := Lib.hid (ownsRow_putObj hrow (.deferred none) hK rfl)
    have HB := Lib.hid (hB.trans (belowK_b (w := w) (Nat.le_refl _) W D _ (.deferred none) (by simp at hDl; omega) hK rfl rfl))
    have HS := Lib.hid hS
    clear hrow hB hS
    gi_wp2
    refine ⟨by simp, .inl ⟨_, _, rfl, run_takeDeferred hK, ?_⟩⟩
    exact ⟨_, results_tmp rfl _ _ _, A, c, xs, rfl, HS.out, hle, HR.out, HB.out⟩
  case stop =>
    rintro D c pre W _ _ h _
    exact h.elim
theorem collect_job (Bm b nn : Nat) (hnn : nn ≤ 1000) (G : ByteArray → Option JobD) (hG : ∀ s x, G s = some x → JobD.name x = s) (w : World) (hm : w.cell? ⟨Bm, 0, none⟩ = some (.map (some b))) (hM : MapIs w b nn (fun s => (G s).map (fun x : JobD => Value.agg (jobV x).toArray))) :
    Calls Tryz.prog 200 #[.func (.func 202) #[] #[.pointer (some ⟨Bm, 0, none⟩)]] w fun e w' => ∃ A c xs, e = .returned (.slice A xs.length c) ∧ CameOf JobD.name G xs ∧ xs.length ≤ nn ∧
      w'.ownsRow w.heap.size 38 5 (.slice A xs.length c) xs.length (rowsV jobV xs) ∧ Below w.heap.size w w' := by
  have HC := Lib.hid (appSeq_job Bm b nn hnn G hG w hm hM)
  clear hm hM hG
  go_enter Tryz.func200, Tryz.ntmps200
  go_wp2_with fail
  refine Calls.mono HC.out ?_
  rintro e w' ⟨A, c, xs, rfl, h1, h2, h3, h4⟩
  have H := Lib.hid (And.intro h1 (And.intro h2 (And.intro h3 h4)))
  clear h1 h2 h3 h4
  go_wp2
  go_ret
  exact ⟨A, c, xs, rfl, H.out⟩
set_option maxRecDepth 100000 in
set_option maxHeartbeats 4000000 in
/-- maps.Values' iterator, for every loop body. -/
theorem vals_node (n : Nat) (hn : 1 ≤ n) (l Bm b nn : Nat) (D0 : DataW Value) (G : ByteArray → Option NodeD) (hG : ∀ s x, G s = some x → NodeD.name x = s) (J Jx : List NodeD → World → Prop)
    (hY : ∀ pre x W, J pre W → pre.length < nn → YieldAt Fence.wide (n - 1) Tryz.prog l #[.agg (nodeV x).toArray] W fun e W' =>
      (e = .returned (.bool true) ∧ J (pre ++ [x]) W' ∧ KeepsWalks W W') ∨ (e = .returned (.bool false) ∧ Jx (pre ++ [x]) W'))
    (W : World) (hJ : AbidesFrom W.heap.size J) (hm : W.cell? ⟨Bm, 0, none⟩ = some (.map (some b))) (hown : W.ownsMap Tryz.prog 9 heldR b nn D0) (hD : TabD (fun x : NodeD => Value.agg (nodeV x).toArray) G D0) (h0 : J [] W) :
    CallsIn Fence.wide n Tryz.prog 206 #[.func (.yield l) #[] #[], .pointer (some ⟨Bm, 0, none⟩)] W fun e W' => (∃ v, e = .returned v) ∧
      ((∃ xs, CameOf NodeD.name G xs ∧ J xs W') ∨ (∃ pre, True ∧ Jx pre W')) := by
  have hsl := hown.size_le
  refine callsIn_of_wp Tryz.func206 rfl trivial ?_ rfl
  simp only [Tryz.ntmps206, List.size_toArray, List.length_cons, List.length_nil, Nat.reduceAdd, Nat.reduceSub, Array.replicate_succ, Array.replicate_zero, List.push_toArray, List.append_toArray, List.nil_append, List.cons_append]
  gi_wp2_with (first
    | (gi_at_range; refine wpListIn_range_own _ rfl _ 190 rfl 9 40 lawS Tryz.underlying190 _ b nn _ rfl hown ?_; intro w0 hrg0 hg0 hs0)
    | gi_in)
  go_frame
  gi_loopw [4] (fun _ wr => ∃ (left : Lit → Bool) (cnt : Nat) (ps : List (List UInt8 × NodeD)), wr.ranges Tryz.prog 9 heldR b W.heap.size nn D0 left cnt ∧ ps.length + cnt ≤ Maps.size D0 ∧ Collected D0 left (ps.map (·.1)) ∧ (∀ p ∈ ps, G ⟨p.1.toArray⟩ = some p.2) ∧ J (ps.map (·.2)) wr)
    (fun _ wr => wr.rangeLeft b W.heap.size)
  case atStart =>
    exact ⟨_, _, [], hrg0, by simp, Collected.start D0, by simp, hJ [] W w0 none h0 hg0 (fun r e => by cases e)⟩
  case round =>
    obtain ⟨left, cnt, ps, hrg, hcs, hC, hV, hJs⟩ := hrel
    gi_wp2_with (first
      | (gi_at_next; refine wpListIn_next_ranges _ rfl _ rfl 9 lawS heldR encStr id (fun key kl hk => by obtain ⟨x, hx, _⟩ := Maps.keyOf_str Tryz.underlying9 hk; exact ⟨x, hx⟩) (fun v _ _ => ⟨v, rfl⟩) b W.heap.size nn _ _ _ rfl hrg ?_ ?_)
      | gi_in)
    · intro hc0 hl0
      gi_wp2
      go_end0
      exact ⟨⟨_, rfl⟩, .inl ⟨_, came_of hG hD hC hl0 hV, hJs⟩⟩
    · intro x c kl yd yp w2 cnt2 hkey hlk hv hat hrg2 hlt hg2 hs2 hen
      obtain ⟨x', ex, rfl, _⟩ := Maps.keyOf_str Tryz.underlying9 hkey
      obtain rfl : x = x' := encStr_inj ex
      obtain ⟨r, hr, hc⟩ := tab_entry hD hv hat
      have hJ2 : J (ps.map (·.2)) w2 := hJ _ wr w2 (some W.heap.size) hJs hg2 (fun r e => by cases e; exact ⟨Nat.le_refl _, hrg.iter_walk⟩)
      have hC2 : Collected D0 (fun z => left z && !z.sameKey (.string x)) ((ps ++ [(x, r)]).map (·.1)) := by simpa using hC.step hlk hat
      have hV2 : ∀ p ∈ ps ++ [(x, r)], G ⟨p.1.toArray⟩ = some p.2 := fun p hp => (List.mem_append.1 hp).elim (hV p) (fun e => by simp at e; subst e; exact hr)
      have HX := Lib.hid (And.intro hC2 hV2)
      have hJ3 : ∀ o : Obj, J (ps.map (·.2)) (w2.alloc o) := fun o => hJ _ w2 _ none hJ2 (World.grownBy_alloc w2 _ none) (fun r e => by cases e)
      have hrg4 : ∀ o : Obj, (w2.alloc o).ranges Tryz.prog 9 heldR b W.heap.size nn D0 (fun z => left z && !z.sameKey (.string x)) cnt2 := fun o => hrg2.of_walks (KeepsWalks.alloc _ _)
      obtain ⟨fn, tmps, assign, body, hy, hR⟩ := hY (ps.map (·.2)) r (w2.alloc (.cells (nodeV r).toArray 40)) (hJ3 _) (by simp; omega)
      obtain ⟨name, room, zone⟩ := r
      replace hc : c = .agg #[.string name, .int .i64 room, .string zone] := hc
      subst hc
      replace hy : (Instr.yield l #[.agg #[.string name, .int .i64 room, .string zone]]).run Tryz.prog (w2.alloc (.cells #[.string name, .int .i64 room, .string zone] 40)) = _ := hy
      have HR := Lib.hid hR
      have HRG := Lib.hid (hrg4 (.cells #[.string name, .int .i64 room, .string zone] 40))
      clear hs2 hD hG hC hV hC2 hV2 hr hat hv hJ2 hJ3 hrg4 hR
      gi_wp2
      refine HR.out.mono ?_
      rintro e W3 (⟨rfl, hJ3, hk3⟩ | ⟨rfl, hJx3⟩)
      · gi_wp2
        have hrg3 := HRG.out.of_walks hk3
        go_roundw
        case rel => exact ⟨_, cnt2, _, hrg3, by simp; omega, HX.out.1, HX.out.2, by simpa using hJ3⟩
        case measure => rw [hrg3.left_eq, hrg.left_eq]; exact hlt
      · gi_wp2
        refine bodyPost_ret (results_none rfl _ _ _) rfl ?_
        exact ⟨⟨_, rfl⟩, .inr ⟨_, trivial, hJx3⟩⟩
theorem valsOf_node (m : Option Nat) (w : World) : Calls Tryz.prog 139 #[.map m] w fun e w' => e = .returned (.func (.func 206) #[] #[.pointer (some ⟨w.heap.size, 0, none⟩)]) ∧ w' = w.alloc (.cells #[.map m] 190) := by
  go_enter Tryz.func139, Tryz.ntmps139
  go_wp2
  go_ret
  exact ⟨rfl, rfl⟩
set_option maxRecDepth 100000 in
set_option maxHeartbeats 4000000 in
theorem appSeq_node (Bm b nn : Nat) (hnn : nn ≤ 1000) (G : ByteArray → Option NodeD) (hG : ∀ s x, G s = some x → NodeD.name x = s) (w : World) (hm : w.cell? ⟨Bm, 0, none⟩ = some (.map (some b))) (hM : MapIs w b nn (fun s => (G s).map (fun x : NodeD => Value.agg (nodeV x).toArray))) :
    Calls Tryz.prog 269 #[.slice none 0 0, .func (.func 206) #[] #[.pointer (some ⟨Bm, 0, none⟩)]] w fun e w' => ∃ A c xs, e = .returned (.slice A xs.length c) ∧ CameOf NodeD.name G xs ∧ xs.length ≤ nn ∧
      w'.ownsRow w.heap.size 40 3 (.slice A xs.length c) xs.length (rowsV nodeV xs) ∧ Below w.heap.size w w' := by
  refine (callsIn_wide (n := 3)).1 ?_
  obtain ⟨D0, hown, hD⟩ := hM
  have hBm := block_lt_of_cell hm
  have hseq : SeqStopsK Fence.wide (3 - 1) Tryz.prog 206 #[.pointer (some ⟨Bm, 0, none⟩)] (fun x : NodeD => #[.agg (nodeV x).toArray]) KeepsWalks (CameOf NodeD.name G) (fun _ => True) nn w := fun l J Jx W hW hJ _ hY h0 => by
    have hown' : W.ownsMap Tryz.prog 9 heldR b nn D0 := by
      have hbl := hown.lt
      obtain ⟨es, clock, hb, Ft, hs, hD⟩ := hown
      exact ⟨es, clock, (hW.block b hbl).trans hb, Ft, hs, hD⟩
    exact vals_node (3 - 1) (by decide) l Bm b nn D0 G hG J Jx hY W hJ ((hW.cell (p := ⟨Bm, 0, none⟩) hBm).trans hm) hown' hD h0
  have HSeq := Lib.hid hseq
  clear hseq hD hG hown hm
  obtain ⟨i0, hi, hz0, hz1, hz2⟩ := info_parts infoNodeT
  refine callsIn_of_wp_marks Tryz.func269 rfl trivial ?_ rfl
  simp only [Tryz.ntmps269, List.size_toArray, List.length_cons, List.length_nil, Nat.reduceAdd, Nat.reduceSub, Array.replicate_succ, Array.replicate_zero, List.push_toArray, List.append_toArray, List.nil_append, List.cons_append]
  gi_wp2
  refine wpIn_rangeFunc_ownH rfl (by decide) (gf := 206) (lb := #[.pointer (some ⟨Bm, 0, none⟩)]) rfl trivial (Go.Proofs.enters_of Tryz.func206 (by kernel_rfl) rfl)
    HSeq.out walksK_t walksK_b ((Below.refl _ w).alloc (Nat.le_refl _) _) (fun _ => rfl)
    (fun pre W => ((∃ v, Boxed W w.heap.size 23 v ∧ W.ownsRow w.heap.size 40 3 v pre.length (rowsV nodeV pre) ∧ True) ∧ Below w.heap.size w W) ∧ pre.length ≤ nn)
    (fun _ _ _ => False)
    (OwnFrom.and (OwnFrom.and (Own.from (holdsRow_own w.heap.size w.heap.size 23 40 3 (fun pre : List NodeD => pre.length) (fun pre => rowsV nodeV pre) (fun _ _ => True)) _) (ownFrom_below (Nat.le_refl _) (by simp))) (ownFrom_pure _ _))
    (fun _ => ownFrom_pure _ _)
    ⟨⟨⟨_, Boxed.new w 23 _, World.ownsRow_nil _ _ _ _, trivial⟩, (Below.refl _ w).alloc (Nat.le_refl _) _⟩, Nat.zero_le _⟩
    (fun x a' W => ∃ Bx, w.heap.size < Bx ∧ Blk W Bx 40 (nodeV x).toArray ∧ a' = { tmps := #[.slice none 0 0, .func (.func 206) #[] #[.pointer (some ⟨Bm, 0, none⟩)], .pointer (some ⟨w.heap.size, 0, none⟩), undef, .slice none 0 0, .pointer (some ⟨Bx, 0, none⟩), .func (.func 206) #[] #[.pointer (some ⟨Bm, 0, none⟩)], .agg (nodeV x).toArray, undef, undef, undef, undef, undef], defers := [] })
    (fun x a' _ X Y row hs hg hr => by obtain ⟨Bx, h1, h2, h3⟩ := hs; exact ⟨Bx, h1, blk_abides h2 hg (fun r e => (hr r e).2), h3⟩)
    ?assign ?body ?done ?stop
  case assign =>
    rintro l pre x W K ⟨⟨⟨v, hv, hrow, _⟩, hB⟩, hle⟩ hK
    have hvl := hv.lt
    have HK := Lib.hid (hK _ _ ((KeepsOthers.alloc W (.cells (nodeV x).toArray 40)).from _) (KeepsWalks.alloc W _) ⟨⟨⟨v, hv.alloc _, hrow.alloc _, trivial⟩, hB.alloc hB.size _⟩, hle⟩ ⟨W.heap.size, hvl, heap_alloc_new W _, rfl⟩)
    clear hv hrow hB hK
    obtain ⟨name, room, zone⟩ := x
    simp only [show (Value.agg (nodeV ⟨name, room, zone⟩).toArray) = .agg #[.string name, .int .i64 room, .string zone] from rfl]
    gi_wp2
    exact HK.out
  case body =>
    rintro l pre x a' W hl _ ⟨⟨⟨v, hv, hrow, _⟩, hB⟩, hle⟩ ⟨Bx, hBx, hbx, rfl⟩ hlt
    have hcl : (nodeV x).length = 1 * 3 := by rw [nodeV_len]
    have hone := nodeV_oneT x
    have hc0 := hv.cell
    have hf0 := hv.frozen
    have hbs := hB.size
    have HRow := Lib.hid hrow
    have HV := Lib.hid hv
    have HB := Lib.hid hB
    have HE := Lib.hid (show rowsV nodeV pre ++ nodeV x = rowsV nodeV (pre ++ [x]) by rw [rowsV_append, rowsV_one])
    clear hrow hv hB
    have hbxl := hbx.lt
    obtain ⟨name, room, zone⟩ := x
    rw [show (Value.agg (nodeV ⟨name, room, zone⟩).toArray) = .agg #[.string name, .int .i64 room, .string zone] from rfl]
    have d0 : W.cell? ⟨Bx, 0, none⟩ = some (.string name) := hbx.cell 0
    have d1 : W.cell? ⟨Bx, 1, none⟩ = some (.int .i64 room) := hbx.cell 1
    have d2 : W.cell? ⟨Bx, 2, none⟩ = some (.string zone) := hbx.cell 2
    clear hbx
    gi_wp2_with (gi_at_builtin; refine wpListIn_append_own_at _ rfl _ _ 23 rfl w.heap.size 40 i0 (.agg #[.string ⟨#[]⟩, .int .i64 0, .string ⟨#[]⟩]) 3 40 Tryz.underlying23 hi hz0 hz1 hz2 rfl (by decide) _ _ _ rfl (HRow.out.alloc _) ⟨W.heap.size, 0, none⟩ 1 1 (nodeV ⟨name, room, zone⟩) rfl hcl (cells_new _ _ _) hone (by unfold maxLen; omega) (by omega) (by simp; omega) ?_; intro v' w1 hown' hgrow _ _; obtain ⟨g', cap', rfl⟩ := ownsRow_succ hown'; obtain ⟨hv1, hv2, hr2, hk2, hb2⟩ := HV.out.appended (by decide) HRow.out hbs (Nat.le_refl _) hown' hgrow; have hc1 := hv1.cell; have hf1 := hv1.frozen; have HZ := Lib.hid (And.intro hv2 (And.intro hr2 (And.intro hk2 hb2))); clear hv1 hv2 hr2 hk2 hb2 hown' hgrow)
    obtain ⟨hv2, hr2, hk2, hb2⟩ := HZ.out
    rw [HE.out] at hr2
    exact ⟨hk2.from _, hk2.walks, ⟨⟨_, hv2, by simpa using hr2, trivial⟩, HB.out.trans hb2⟩, by simp; omega⟩
  case done =>
    rintro D xs W hDl hS ⟨⟨⟨v, hv, hrow, _⟩, hB⟩, hle⟩ hK
    have hc0 := hv.cell
    obtain ⟨A, c, rfl⟩ := own_form hrow
    have HR := Lib.hid (ownsRow_putObj hrow (.deferred none) hK rfl)
    have HB := Lib.hid (hB.trans (belowK_b (w := w) (Nat.le_refl _) W D _ (.deferred none) (by simp at hDl; omega) hK rfl rfl))
    have HS := Lib.hid hS
    clear hrow hB hS
    gi_wp2
    refine ⟨by simp, .inl ⟨_, _, rfl, run_takeDeferred hK, ?_⟩⟩
    exact ⟨_, results_tmp rfl _ _ _, A, c, xs, rfl, HS.out, hle, HR.out, HB.out⟩
  case stop =>
    rintro D c pre W _ _ h _
    exact h.elim
theorem collect_node (Bm b nn : Nat) (hnn : nn ≤ 1000) (G : ByteArray → Option NodeD) (hG : ∀ s x, G s = some x → NodeD.name x = s) (w : World) (hm : w.cell? ⟨Bm, 0, none⟩ = some (.map (some b))) (hM : MapIs w b nn (fun s => (G s).map (fun x : NodeD => Value.agg (nodeV x).toArray))) :
    Calls Tryz.prog 204 #[.func (.func 206) #[] #[.pointer (some ⟨Bm, 0, none⟩)]] w fun e w' => ∃ A c xs, e = .returned (.slice A xs.length c) ∧ CameOf NodeD.name G xs ∧ xs.length ≤ nn ∧
      w'.ownsRow w.heap.size 40 3 (.slice A xs.length c) xs.length (rowsV nodeV xs) ∧ Below w.heap.size w w' := by
  have HC := Lib.hid (appSeq_node Bm b nn hnn G hG w hm hM)
  clear hm hM hG
  go_enter Tryz.func204, Tryz.ntmps204
  go_wp2_with fail
  refine Calls.mono HC.out ?_
  rintro e w' ⟨A, c, xs, rfl, h1, h2, h3, h4⟩
  have H := Lib.hid (And.intro h1 (And.intro h2 (And.intro h3 h4)))
  clear h1 h2 h3 h4
  go_wp2
  go_ret
  exact ⟨A, c, xs, rfl, H.out⟩
set_option maxRecDepth 100000 in
set_option maxHeartbeats 4000000 in
/-- maps.Values' iterator, for every loop body. -/
theorem vals_lease (n : Nat) (hn : 1 ≤ n) (l Bm b nn : Nat) (D0 : DataW Value) (G : ByteArray → Option LeaseD) (hG : ∀ s x, G s = some x → LeaseD.job x = s) (J Jx : List LeaseD → World → Prop)
    (hY : ∀ pre x W, J pre W → pre.length < nn → YieldAt Fence.wide (n - 1) Tryz.prog l #[.agg (leaseV x).toArray] W fun e W' =>
      (e = .returned (.bool true) ∧ J (pre ++ [x]) W' ∧ KeepsWalks W W') ∨ (e = .returned (.bool false) ∧ Jx (pre ++ [x]) W'))
    (W : World) (hJ : AbidesFrom W.heap.size J) (hm : W.cell? ⟨Bm, 0, none⟩ = some (.map (some b))) (hown : W.ownsMap Tryz.prog 9 heldR b nn D0) (hD : TabD (fun x : LeaseD => Value.agg (leaseV x).toArray) G D0) (h0 : J [] W) :
    CallsIn Fence.wide n Tryz.prog 209 #[.func (.yield l) #[] #[], .pointer (some ⟨Bm, 0, none⟩)] W fun e W' => (∃ v, e = .returned v) ∧
      ((∃ xs, CameOf LeaseD.job G xs ∧ J xs W') ∨ (∃ pre, True ∧ Jx pre W')) := by
  have hsl := hown.size_le
  refine callsIn_of_wp Tryz.func209 rfl trivial ?_ rfl
  simp only [Tryz.ntmps209, List.size_toArray, List.length_cons, List.length_nil, Nat.reduceAdd, Nat.reduceSub, Array.replicate_succ, Array.replicate_zero, List.push_toArray, List.append_toArray, List.nil_append, List.cons_append]
  gi_wp2_with (first
    | (gi_at_range; refine wpListIn_range_own _ rfl _ 197 rfl 9 42 lawS Tryz.underlying197 _ b nn _ rfl hown ?_; intro w0 hrg0 hg0 hs0)
    | gi_in)
  go_frame
  gi_loopw [4] (fun _ wr => ∃ (left : Lit → Bool) (cnt : Nat) (ps : List (List UInt8 × LeaseD)), wr.ranges Tryz.prog 9 heldR b W.heap.size nn D0 left cnt ∧ ps.length + cnt ≤ Maps.size D0 ∧ Collected D0 left (ps.map (·.1)) ∧ (∀ p ∈ ps, G ⟨p.1.toArray⟩ = some p.2) ∧ J (ps.map (·.2)) wr)
    (fun _ wr => wr.rangeLeft b W.heap.size)
  case atStart =>
    exact ⟨_, _, [], hrg0, by simp, Collected.start D0, by simp, hJ [] W w0 none h0 hg0 (fun r e => by cases e)⟩
  case round =>
    obtain ⟨left, cnt, ps, hrg, hcs, hC, hV, hJs⟩ := hrel
    gi_wp2_with (first
      | (gi_at_next; refine wpListIn_next_ranges _ rfl _ rfl 9 lawS heldR encStr id (fun key kl hk => by obtain ⟨x, hx, _⟩ := Maps.keyOf_str Tryz.underlying9 hk; exact ⟨x, hx⟩) (fun v _ _ => ⟨v, rfl⟩) b W.heap.size nn _ _ _ rfl hrg ?_ ?_)
      | gi_in)
    · intro hc0 hl0
      gi_wp2
      go_end0
      exact ⟨⟨_, rfl⟩, .inl ⟨_, came_of hG hD hC hl0 hV, hJs⟩⟩
    · intro x c kl yd yp w2 cnt2 hkey hlk hv hat hrg2 hlt hg2 hs2 hen
      obtain ⟨x', ex, rfl, _⟩ := Maps.keyOf_str Tryz.underlying9 hkey
      obtain rfl : x = x' := encStr_inj ex
      obtain ⟨r, hr, hc⟩ := tab_entry hD hv hat
      have hJ2 : J (ps.map (·.2)) w2 := hJ _ wr w2 (some W.heap.size) hJs hg2 (fun r e => by cases e; exact ⟨Nat.le_refl _, hrg.iter_walk⟩)
      have hC2 : Collected D0 (fun z => left z && !z.sameKey (.string x)) ((ps ++ [(x, r)]).map (·.1)) := by simpa using hC.step hlk hat
      have hV2 : ∀ p ∈ ps ++ [(x, r)], G ⟨p.1.toArray⟩ = some p.2 := fun p hp => (List.mem_append.1 hp).elim (hV p) (fun e => by simp at e; subst e; exact hr)
      have HX := Lib.hid (And.intro hC2 hV2)
      have hJ3 : ∀ o : Obj, J (ps.map (·.2)) (w2.alloc o) := fun o => hJ _ w2 _ none hJ2 (World.grownBy_alloc w2 _ none) (fun r e => by cases e)
      have hrg4 : ∀ o : Obj, (w2.alloc o).ranges Tryz.prog 9 heldR b W.heap.size nn D0 (fun z => left z && !z.sameKey (.string x)) cnt2 := fun o => hrg2.of_walks (KeepsWalks.alloc _ _)
      obtain ⟨fn, tmps, assign, body, hy, hR⟩ := hY (ps.map (·.2)) r (w2.alloc (.cells (leaseV r).toArray 42)) (hJ3 _) (by simp; omega)
      obtain ⟨job, node, till⟩ := r
      replace hc : c = .agg #[.string job, .string node, .int .i64 till] := hc
      subst hc
      replace hy : (Instr.yield l #[.agg #[.string job, .string node, .int .i64 till]]).run Tryz.prog (w2.alloc (.cells #[.string job, .string node, .int .i64 till] 42)) = _ := hy
      have HR := Lib.hid hR
      have HRG := Lib.hid (hrg4 (.cells #[.string job, .string node, .int .i64 till] 42))
      clear hs2 hD hG hC hV hC2 hV2 hr hat hv hJ2 hJ3 hrg4 hR
      gi_wp2
      refine HR.out.mono ?_
      rintro e W3 (⟨rfl, hJ3, hk3⟩ | ⟨rfl, hJx3⟩)
      · gi_wp2
        have hrg3 := HRG.out.of_walks hk3
        go_roundw
        case rel => exact ⟨_, cnt2, _, hrg3, by simp; omega, HX.out.1, HX.out.2, by simpa using hJ3⟩
        case measure => rw [hrg3.left_eq, hrg.left_eq]; exact hlt
      · gi_wp2
        refine bodyPost_ret (results_none rfl _ _ _) rfl ?_
        exact ⟨⟨_, rfl⟩, .inr ⟨_, trivial, hJx3⟩⟩
theorem valsOf_lease (m : Option Nat) (w : World) : Calls Tryz.prog 142 #[.map m] w fun e w' => e = .returned (.func (.func 209) #[] #[.pointer (some ⟨w.heap.size, 0, none⟩)]) ∧ w' = w.alloc (.cells #[.map m] 197) := by
  go_enter Tryz.func142, Tryz.ntmps142
  go_wp2
  go_ret
  exact ⟨rfl, rfl⟩
set_option maxRecDepth 100000 in
set_option maxHeartbeats 4000000 in
theorem appSeq_lease (Bm b nn : Nat) (hnn : nn ≤ 1000) (G : ByteArray → Option LeaseD) (hG : ∀ s x, G s = some x → LeaseD.job x = s) (w : World) (hm : w.cell? ⟨Bm, 0, none⟩ = some (.map (some b))) (hM : MapIs w b nn (fun s => (G s).map (fun x : LeaseD => Value.agg (leaseV x).toArray))) :
    Calls Tryz.prog 271 #[.slice none 0 0, .func (.func 209) #[] #[.pointer (some ⟨Bm, 0, none⟩)]] w fun e w' => ∃ A c xs, e = .returned (.slice A xs.length c) ∧ CameOf LeaseD.job G xs ∧ xs.length ≤ nn ∧
      w'.ownsRow w.heap.size 42 3 (.slice A xs.length c) xs.length (rowsV leaseV xs) ∧ Below w.heap.size w w' := by
  refine (callsIn_wide (n := 3)).1 ?_
  obtain ⟨D0, hown, hD⟩ := hM
  have hBm := block_lt_of_cell hm
  have hseq : SeqStopsK Fence.wide (3 - 1) Tryz.prog 209 #[.pointer (some ⟨Bm, 0, none⟩)] (fun x : LeaseD => #[.agg (leaseV x).toArray]) KeepsWalks (CameOf LeaseD.job G) (fun _ => True) nn w := fun l J Jx W hW hJ _ hY h0 => by
    have hown' : W.ownsMap Tryz.prog 9 heldR b nn D0 := by
      have hbl := hown.lt
      obtain ⟨es, clock, hb, Ft, hs, hD⟩ := hown
      exact ⟨es, clock, (hW.block b hbl).trans hb, Ft, hs, hD⟩
    exact vals_lease (3 - 1) (by decide) l Bm b nn D0 G hG J Jx hY W hJ ((hW.cell (p := ⟨Bm, 0, none⟩) hBm).trans hm) hown' hD h0
  have HSeq := Lib.hid hseq
  clear hseq hD hG hown hm
  obtain ⟨i0, hi, hz0, hz1, hz2⟩ := info_parts infoLeaseT
  refine callsIn_of_wp_marks Tryz.func271 rfl trivial ?_ rfl
  simp only [Tryz.ntmps271, List.size_toArray, List.length_cons, List.length_nil, Nat.reduceAdd, Nat.reduceSub, Array.replicate_succ, Array.replicate_zero, List.push_toArray, List.append_toArray, List.nil_append, List.cons_append]
  gi_wp2
  refine wpIn_rangeFunc_ownH rfl (by decide) (gf := 209) (lb := #[.pointer (some ⟨Bm, 0, none⟩)]) rfl trivial (Go.Proofs.enters_of Tryz.func209 (by kernel_rfl) rfl)
    HSeq.out walksK_t walksK_b ((Below.refl _ w).alloc (Nat.le_refl _) _) (fun _ => rfl)
    (fun pre W => ((∃ v, Boxed W w.heap.size 24 v ∧ W.ownsRow w.heap.size 42 3 v pre.length (rowsV leaseV pre) ∧ True) ∧ Below w.heap.size w W) ∧ pre.length ≤ nn)
    (fun _ _ _ => False)
    (OwnFrom.and (OwnFrom.and (Own.from (holdsRow_own w.heap.size w.heap.size 24 42 3 (fun pre : List LeaseD => pre.length) (fun pre => rowsV leaseV pre) (fun _ _ => True)) _) (ownFrom_below (Nat.le_refl _) (by simp))) (ownFrom_pure _ _))
    (fun _ => ownFrom_pure _ _)
    ⟨⟨⟨_, Boxed.new w 24 _, World.ownsRow_nil _ _ _ _, trivial⟩, (Below.refl _ w).alloc (Nat.le_refl _) _⟩, Nat.zero_le _⟩
    (fun x a' W => ∃ Bx, w.heap.size < Bx ∧ Blk W Bx 42 (leaseV x).toArray ∧ a' = { tmps := #[.slice none 0 0, .func (.func 209) #[] #[.pointer (some ⟨Bm, 0, none⟩)], .pointer (some ⟨w.heap.size, 0, none⟩), undef, .slice none 0 0, .pointer (some ⟨Bx, 0, none⟩), .func (.func 209) #[] #[.pointer (some ⟨Bm, 0, none⟩)], .agg (leaseV x).toArray, undef, undef, undef, undef, undef], defers := [] })
    (fun x a' _ X Y row hs hg hr => by obtain ⟨Bx, h1, h2, h3⟩ := hs; exact ⟨Bx, h1, blk_abides h2 hg (fun r e => (hr r e).2), h3⟩)
    ?assign ?body ?done ?stop
  case assign =>
    rintro l pre x W K ⟨⟨⟨v, hv, hrow, _⟩, hB⟩, hle⟩ hK
    have hvl := hv.lt
    have HK := Lib.hid (hK _ _ ((KeepsOthers.alloc W (.cells (leaseV x).toArray 42)).from _) (KeepsWalks.alloc W _) ⟨⟨⟨v, hv.alloc _, hrow.alloc _, trivial⟩, hB.alloc hB.size _⟩, hle⟩ ⟨W.heap.size, hvl, heap_alloc_new W _, rfl⟩)
    clear hv hrow hB hK
    obtain ⟨job, node, till⟩ := x
    simp only [show (Value.agg (leaseV ⟨job, node, till⟩).toArray) = .agg #[.string job, .string node, .int .i64 till] from rfl]
    gi_wp2
    exact HK.out
  case body =>
    rintro l pre x a' W hl _ ⟨⟨⟨v, hv, hrow, _⟩, hB⟩, hle⟩ ⟨Bx, hBx, hbx, rfl⟩ hlt
    have hcl : (leaseV x).length = 1 * 3 := by rw [leaseV_len]
    have hone := leaseV_oneT x
    have hc0 := hv.cell
    have hf0 := hv.frozen
    have hbs := hB.size
    have HRow := Lib.hid hrow
    have HV := Lib.hid hv
    have HB := Lib.hid hB
    have HE := Lib.hid (show rowsV leaseV pre ++ leaseV x = rowsV leaseV (pre ++ [x]) by rw [rowsV_append, rowsV_one])
    clear hrow hv hB
    have hbxl := hbx.lt
    obtain ⟨job, node, till⟩ := x
    rw [show (Value.agg (leaseV ⟨job, node, till⟩).toArray) = .agg #[.string job, .string node, .int .i64 till] from rfl]
    have d0 : W.cell? ⟨Bx, 0, none⟩ = some (.string job) := hbx.cell 0
    have d1 : W.cell? ⟨Bx, 1, none⟩ = some (.string node) := hbx.cell 1
    have d2 : W.cell? ⟨Bx, 2, none⟩ = some (.int .i64 till) := hbx.cell 2
    clear hbx
    gi_wp2_with (gi_at_builtin; refine wpListIn_append_own_at _ rfl _ _ 24 rfl w.heap.size 42 i0 (.agg #[.string ⟨#[]⟩, .string ⟨#[]⟩, .int .i64 0]) 3 40 Tryz.underlying24 hi hz0 hz1 hz2 rfl (by decide) _ _ _ rfl (HRow.out.alloc _) ⟨W.heap.size, 0, none⟩ 1 1 (leaseV ⟨job, node, till⟩) rfl hcl (cells_new _ _ _) hone (by unfold maxLen; omega) (by omega) (by simp; omega) ?_; intro v' w1 hown' hgrow _ _; obtain ⟨g', cap', rfl⟩ := ownsRow_succ hown'; obtain ⟨hv1, hv2, hr2, hk2, hb2⟩ := HV.out.appended (by decide) HRow.out hbs (Nat.le_refl _) hown' hgrow; have hc1 := hv1.cell; have hf1 := hv1.frozen; have HZ := Lib.hid (And.intro hv2 (And.intro hr2 (And.intro hk2 hb2))); clear hv1 hv2 hr2 hk2 hb2 hown' hgrow)
    obtain ⟨hv2, hr2, hk2, hb2⟩ := HZ.out
    rw [HE.out] at hr2
    exact ⟨hk2.from _, hk2.walks, ⟨⟨_, hv2, by simpa using hr2, trivial⟩, HB.out.trans hb2⟩, by simp; omega⟩
  case done =>
    rintro D xs W hDl hS ⟨⟨⟨v, hv, hrow, _⟩, hB⟩, hle⟩ hK
    have hc0 := hv.cell
    obtain ⟨A, c, rfl⟩ := own_form hrow
    have HR := Lib.hid (ownsRow_putObj hrow (.deferred none) hK rfl)
    have HB := Lib.hid (hB.trans (belowK_b (w := w) (Nat.le_refl _) W D _ (.deferred none) (by simp at hDl; omega) hK rfl rfl))
    have HS := Lib.hid hS
    clear hrow hB hS
    gi_wp2
    refine ⟨by simp, .inl ⟨_, _, rfl, run_takeDeferred hK, ?_⟩⟩
    exact ⟨_, results_tmp rfl _ _ _, A, c, xs, rfl, HS.out, hle, HR.out, HB.out⟩
  case stop =>
    rintro D c pre W _ _ h _
    exact h.elim
theorem collect_lease (Bm b nn : Nat) (hnn : nn ≤ 1000) (G : ByteArray → Option LeaseD) (hG : ∀ s x, G s = some x → LeaseD.job x = s) (w : World) (hm : w.cell? ⟨Bm, 0, none⟩ = some (.map (some b))) (hM : MapIs w b nn (fun s => (G s).map (fun x : LeaseD => Value.agg (leaseV x).toArray))) :
    Calls Tryz.prog 207 #[.func (.func 209) #[] #[.pointer (some ⟨Bm, 0, none⟩)]] w fun e w' => ∃ A c xs, e = .returned (.slice A xs.length c) ∧ CameOf LeaseD.job G xs ∧ xs.length ≤ nn ∧
      w'.ownsRow w.heap.size 42 3 (.slice A xs.length c) xs.length (rowsV leaseV xs) ∧ Below w.heap.size w w' := by
  have HC := Lib.hid (appSeq_lease Bm b nn hnn G hG w hm hM)
  clear hm hM hG
  go_enter Tryz.func207, Tryz.ntmps207
  go_wp2_with fail
  refine Calls.mono HC.out ?_
  rintro e w' ⟨A, c, xs, rfl, h1, h2, h3, h4⟩
  have H := Lib.hid (And.intro h1 (And.intro h2 (And.intro h3 h4)))
  clear h1 h2 h3 h4
  go_wp2
  go_ret
  exact ⟨A, c, xs, rfl, H.out⟩
end
end Go.Proofs.YtjgnnobccecpeaaGreatDoor
