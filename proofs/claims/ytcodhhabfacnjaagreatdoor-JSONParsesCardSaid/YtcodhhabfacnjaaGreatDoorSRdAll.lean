/- Of the proof of a statement: RdAll. -/
import Derived.Recover
import Derived.Laws.Pointers
import Derived.Test.YtcodhhabfacnjaaGreatDoorSSGood
set_option linter.unusedVariables false
set_option linter.unusedSimpArgs false
/- The walk of the reference's read: what a closure reads of a source, the panics caught. -/
namespace Go.Proofs.YtcodhhabfacnjaaGreatDoor
open Go.RowKit
theorem assert_taken (W : World) (y : Int) : (Instr.typeAssert (.iface 84 (.agg #[.int .i64 y])) 20 84 true).run Tryz.prog W = .ok (.tuple #[.agg #[.int .i64 y], .bool true]) W := by kernel_rfl
set_option maxRecDepth 100000 in
set_option maxHeartbeats 1000000 in
theorem catch_thrown (E : Nat) (n : Int) (y : Nat) (w : World) (hE : Blk w E 27 #[.int .i64 n]) :
    CallsD Tryz.prog 37 #[.pointer (some ⟨E, 0, none⟩)] (.panicking [{ v := .iface 84 (.agg #[.int .i64 (y : Int)]), recovered := false }]) w fun e u' w' =>
      e = .returned (.tuple #[]) ∧ u' = .panicking [{ v := .iface 84 (.agg #[.int .i64 (y : Int)]), recovered := true }] ∧ w.grownBy w' (some E) ∧ Blk w' E 27 #[.int .i64 (y : Int)] := by
  have hc : w.cell? ⟨E, 0, none⟩ = some (.int .i64 n) := hE.cell 0
  have hz : w.frozen? ⟨E, 0, none⟩ = false := hE.thaw 0
  have hl := hE.lt
  have HE := Lib.hid hE
  have hta := assert_taken
  clear hE
  refine callsD_of_wpS Tryz.func37 rfl fun c₀ cs hu => ?_
  rw [show (#[Value.pointer (some ⟨E, 0, none⟩)] ++ Array.replicate (Tryz.f37.ntmps - (#[Value.pointer (some ⟨E, 0, none⟩)] : Array Value).size) undef) = #[.pointer (some ⟨E, 0, none⟩), undef, undef, undef, undef, undef, undef, undef, undef, undef, undef, undef, undef, undef, undef, undef, undef] from by rw [Tryz.ntmps37]; rfl]
  apply wpS_seq
  apply wpS_region
  simp [wpOpsS, go_sem, recoverD, hu, Tryz.ntmps37, Exit.thenS]
  refine wpS_of_wp ?_
  have HW := Lib.hid (show w.grownBy ((w.setCell ⟨E, 0, none⟩ (.int .i64 (y : Int))).alloc (.cells #[.int .i64 (y : Int)] 84)) (some E) ∧ Blk ((w.setCell ⟨E, 0, none⟩ (.int .i64 (y : Int))).alloc (.cells #[.int .i64 (y : Int)] 84)) E 27 #[.int .i64 (y : Int)] from
    ⟨bes_below (grow_set w E 0 _) ((Below.refl _ _).alloc (Nat.le_refl _) _), (Blk.eq (HE.out.set 0 _) rfl).alloc _⟩)
  go_wp2
  exact ⟨rfl, _, rfl, _, by simp [results, Tryz.results37, go_sem], rfl, rfl, HW.out⟩
set_option maxRecDepth 100000 in
set_option maxHeartbeats 1000000 in
theorem catch_none (E : Nat) (w : World) :
    CallsD Tryz.prog 37 #[.pointer (some ⟨E, 0, none⟩)] .returning w fun e u' w' => e = .returned (.tuple #[]) ∧ u' = .returning ∧ w' = w := by
  refine callsD_of_wpS Tryz.func37 rfl fun c₀ cs hu => ?_
  rw [show (#[Value.pointer (some ⟨E, 0, none⟩)] ++ Array.replicate (Tryz.f37.ntmps - (#[Value.pointer (some ⟨E, 0, none⟩)] : Array Value).size) undef) = #[.pointer (some ⟨E, 0, none⟩), undef, undef, undef, undef, undef, undef, undef, undef, undef, undef, undef, undef, undef, undef, undef, undef] from by rw [Tryz.ntmps37]; rfl]
  apply wpS_seq
  apply wpS_region
  simp [wpOpsS, go_sem, recoverD, hu, Tryz.ntmps37, Exit.thenS]
  refine wpS_of_wp ?_
  go_wp2
  exact ⟨rfl, .returning, by cases c₀; simp_all, _, by simp [results, Tryz.results37, go_sem], rfl, rfl, rfl⟩
/-- What a reading leaves: the error, or what the closure keeps. -/
def AllPost (R : RR Unit) (Kept : World → Prop) (e : Ending) (w' : World) : Prop := e = .returned (.int .i64 (endE R : Int)) ∧ Kept w'
set_option maxRecDepth 100000 in
set_option maxHeartbeats 1000000 in
theorem readAll (F : FuncId) (caps : Array Value) (b : ByteArray) (w : World) (hs : b.size ≤ 9223372036854775807) (hent : ∀ args w, (callFunc F args).run Tryz.prog w = .ok (.enter F args) w) (R : RR Unit) (Kept : World → Prop)
    (hK : ∀ W v, Kept W → Kept (W.setCell ⟨w.heap.size, 0, none⟩ v)) (hK2 : ∀ W W', Kept W → w.heap.size < W.heap.size → W.grownBy W' (some w.heap.size) → Kept W')
    (hf : ∀ W, Below w.heap.size w W → W.heap.size = w.heap.size + 2 → SxAt W (w.heap.size + 1) b → Calls Tryz.prog F (#[.pointer (some ⟨w.heap.size + 1, 0, none⟩)] ++ caps) W fun e W' =>
      (match R with | .ok _ s => e = .returned (.tuple #[]) ∧ SxAt W' (w.heap.size + 1) s | .bad x => e = thrown x) ∧ W'.heap[w.heap.size]? = W.heap[w.heap.size]? ∧ Kept W') :
    Calls Tryz.prog 17 #[.string b, .func (.func F) #[] caps] w (AllPost R Kept) := by
  have hmf : ∀ (fn : Fn) (first cap : Array Value) (w : World), (Instr.makeFunc fn first cap).run Tryz.prog w = .ok (.func fn first cap) w := fun _ _ _ _ => rfl
  have hb1 : Below w.heap.size w (w.alloc (.cells #[.int .i64 0] 27)) := (Below.refl _ _).alloc (Nat.le_refl _) _
  have hb2 := hb1.alloc hb1.size (.cells #[.string b] 87)
  have HB := Lib.hid (show Blk ((w.alloc (.cells #[.int .i64 0] 27)).alloc (.cells #[.string b] 87)) w.heap.size 27 #[.int .i64 0] from Blk.alloc (show Blk _ _ _ _ from heap_alloc_new w _) _)
  have h2 : ((w.alloc (.cells #[.int .i64 0] 27)).alloc (.cells #[.string b] 87)).heap.size = w.heap.size + 2 := by simp
  have HC := Lib.hid (hf _ hb2 h2 ⟨by
    have h := heap_alloc_new (w.alloc (.cells #[.int .i64 0] 27)) (.cells #[.string b] 87)
    rw [show (w.alloc (.cells #[.int .i64 0] 27)).heap.size = w.heap.size + 1 by simp] at h
    exact h, hs⟩)
  have HK2 := Lib.hid hK2
  have HK := Lib.hid hK
  have Hent := hent
  clear hf hb1 hb2 h2 hK hK2
  go_enter_defers Tryz.func17, Tryz.ntmps17
  go_wp2_with fail
  refine Calls.mono HC.out ?_
  rintro e w1 ⟨hp, hk, hkept⟩
  have hE : Blk w1 w.heap.size 27 #[.int .i64 0] := hk.trans HB.out
  have Hkept := Lib.hid hkept
  have x0 : w1.cell? ⟨w.heap.size, 0, none⟩ = some (.int .i64 0) := hE.cell 0
  have z0 : w1.frozen? ⟨w.heap.size, 0, none⟩ = false := hE.thaw 0
  have hEl := hE.lt
  have HE := Lib.hid hE
  clear hk hkept HC hE
  cases R with
  | bad x =>
    have hp : e = thrown x := hp
    subst hp
    unfold thrown
    go_wp2
    refine leaves_cons (f := 37) (args := #[.pointer (some ⟨w.heap.size, 0, none⟩)]) (by simp) (by simp [go_sem]) ?_
    refine (catch_thrown w.heap.size 0 x w1 HE.out).mono ?_
    rintro e u' w2 ⟨rfl, rfl, hg, hB⟩
    have hc := hB.cell 0
    have hfin : AllPost (.bad x) Kept (.returned (.int .i64 (x : Int))) w2 := ⟨rfl, HK2.out _ _ Hkept.out HE.out.lt hg⟩
    have hc' : w2.cell? ⟨w.heap.size, 0, none⟩ = some (.int .i64 (x : Int)) := hc
    simp [Leaves, settle, results, Tryz.results17, go_sem, hc', hfin]
  | ok u s =>
    obtain ⟨rfl, hs1⟩ : e = .returned (.tuple #[]) ∧ SxAt w1 (w.heap.size + 1) s := hp
    have y0 : w1.cell? ⟨w.heap.size + 1, 0, none⟩ = some (.string s) := hs1.1.cell 0
    have hlt := hs1.1.lt
    clear hs1
    by_cases hz : s.size = 0
    · obtain rfl := empty_of hz
      have hq := (show _ = (some (.int .i64 0) : Option Value) from (HE.out.set 0 (.int .i64 0)).cell 0)
      have hfin : AllPost (.ok u ⟨#[]⟩) Kept (.returned (.int .i64 0)) (w1.setCell ⟨w.heap.size, 0, none⟩ (.int .i64 0)) := ⟨rfl, HK.out _ _ Hkept.out⟩
      have Hfin := Lib.hid hfin
      clear hfin
      go_wp2
      refine leaves_cons (f := 37) (args := #[.pointer (some ⟨w.heap.size, 0, none⟩)]) (by simp) (by simp [go_sem]) ?_
      refine (catch_none w.heap.size _).mono ?_
      rintro e u' w2 ⟨rfl, rfl, rfl⟩
      simp [Leaves, settle, results, Tryz.results17, go_sem, hq, Hfin.out]
    · have e3 := isEmpty_no hz
      have hq := (show _ = (some (.int .i64 4) : Option Value) from (HE.out.set 0 (.int .i64 4)).cell 0)
      have hfin : AllPost (.ok u s) Kept (.returned (.int .i64 4)) (w1.setCell ⟨w.heap.size, 0, none⟩ (.int .i64 4)) := ⟨by rw [endE_ok4 hz]; rfl, HK.out _ _ Hkept.out⟩
      have Hfin := Lib.hid hfin
      clear hfin
      go_wp2
      refine leaves_cons (f := 37) (args := #[.pointer (some ⟨w.heap.size, 0, none⟩)]) (by simp) (by simp [go_sem]) ?_
      refine (catch_none w.heap.size _).mono ?_
      rintro e u' w2 ⟨rfl, rfl, rfl⟩
      simp [Leaves, settle, results, Tryz.results17, go_sem, hq, Hfin.out]
end Go.Proofs.YtcodhhabfacnjaaGreatDoor
