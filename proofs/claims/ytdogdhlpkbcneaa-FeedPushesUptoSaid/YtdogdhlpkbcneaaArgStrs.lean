/- An argument []string, opened. -/
import Derived.Test.YtdogdhlpkbcneaaWFeedPushes
import Derived.Test.YtdogdhlpkbcneaaFrm
import Derived.Deep.Strs
namespace Go.Proofs.Ytdogdhlpkbcneaa
open Go.ChangeShapes Go.WideShapes Go.ChangeAt Go.RowKit
theorem bulk_strs {H : Type} : ∀ l : List ByteArray, sizes l ≤ Rows.uptoBulkAll (H := H) (l.map fun s => .lit (.string s.data.toList))
  | [] => Nat.zero_le _
  | s :: l => by
    have := bulk_strs (H := H) l
    have e : s.data.toList.length = s.size := by rw [Array.length_toList]; rfl
    simp only [List.map_cons, Rows.uptoBulkAll, Rows.uptoBulk, sizes, List.sum_cons] at this ⊢
    omega
theorem open_arg_strs {H : Type} {enc : TypeId × Value → H} {W : World} {r : Reach} {b0 : Nat} {held : Bool} {v : Value} {d : DataW H} {p : List MemPlace}
    (hval : Value.okWide Try.prog W r b0 46 v) (hd : DataW.Trod enc Try.prog W 0 (fun _ => true) held 46 v d p) (hlt : ∀ x ∈ p, x.block < W.heap.size) :
    ∃ (ps : List ByteArray) (A : Option Addr) (n c : Nat), v = .slice A n c ∧ ps.length = n ∧ n ≤ 9223372036854775807 ∧ SlAt W W.heap.size 1 A n (ps.map Value.string) ∧ sizes ps ≤ Rows.uptoBulk d := by
  obtain ⟨A, n, c, rfl⟩ := okWide_slice Try.underlying46 hval
  obtain ⟨fuel, hf⟩ := hd
  rcases Go.Deep.open_strs Try.underlying46 Try.underlying9 (by kernel_rfl) hf with ⟨h, -⟩ | ⟨a, len, cap, m, Sx, h, hb, hl, hm, hmm, hx, hc⟩
  · simp only [Value.cells, List.cons.injEq, Value.slice.injEq, and_true] at h
    obtain ⟨rfl, rfl, rfl⟩ := h
    exact ⟨[], none, 0, 0, rfl, rfl, by omega, SlAt.nil, Nat.zero_le _⟩
  · simp only [Value.cells, List.cons.injEq, Value.slice.injEq, and_true] at h
    obtain ⟨rfl, rfl, rfl⟩ := h
    simp only [if_true] at hmm
    subst hmm
    simp only [Prod.mk.injEq] at hx
    obtain ⟨rfl, rfl⟩ := hx
    refine ⟨(List.range n).map Sx, some a, n, m, rfl, by simp, by unfold maxLen at hm; omega, ⟨by simp, fun hn => ?_⟩, ?_⟩
    · obtain ⟨b, off, spot⟩ := a
      have h0 := (hc 0 (by omega)).1
      have hspot : spot = none := by simpa [Addr.add] using World.cell?_spot h0
      subst hspot
      refine ⟨b, off, rfl, ?_, fun j u hu => ?_⟩
      · exact hlt (.cell b off) (MemPlace.mem_row.2 ⟨0, by omega, rfl⟩)
      · have hj : j < n := by
          rcases Nat.lt_or_ge j n with h1 | h1
          · exact h1
          · rw [List.getElem?_eq_none (by simpa using h1)] at hu; cases hu
        have hg := (hc j (by omega)).1
        rw [add_plain] at hg
        rw [hg, ← hu]
        simp [hj]
    · have h1 := bulk_strs (H := H) ((List.range n).map Sx)
      rw [List.map_map] at h1
      simp only [Rows.uptoBulk]
      have h2 : (List.range n).map ((fun s : ByteArray => (DataW.lit (.string s.data.toList) : DataW H)) ∘ Sx) = (List.range n).map fun i => .lit (.string (Sx i).data.toList) := rfl
      rw [h2] at h1
      omega
end Go.Proofs.Ytdogdhlpkbcneaa
