/- The walks of Take: the rows of a table, read one by one. -/
import Derived.Test.YtoeejfhdjmkpcaaDoorRd
import Derived.Test.YtoeejfhdjmkpcaaDoorRowsL
import Derived.Test.YtoeejfhdjmkpcaaDoorBase
set_option linter.unusedVariables false
set_option linter.unusedSimpArgs false
namespace Go.Proofs.YtoeejfhdjmkpcaaDoor
open Go.RowKit
theorem infoJobT : (Tryd.prog.info? 36).map (fun i => (i.zero, i.size, i.bytes)) = some (some (.agg #[.string ⟨#[]⟩, .int .i64 0, .int .i64 0, .int .i64 0, .string ⟨#[]⟩]), 5, 56) := by kernel_rfl
theorem infoNodeT : (Tryd.prog.info? 40).map (fun i => (i.zero, i.size, i.bytes)) = some (some (.agg #[.string ⟨#[]⟩, .int .i64 0, .string ⟨#[]⟩]), 3, 40) := by kernel_rfl
theorem infoLeaseT : (Tryd.prog.info? 42).map (fun i => (i.zero, i.size, i.bytes)) = some (some (.agg #[.string ⟨#[]⟩, .string ⟨#[]⟩, .int .i64 0]), 3, 40) := by kernel_rfl
theorem infoStrT : (Tryd.prog.info? 9).map (fun i => (i.zero, i.size, i.bytes)) = some (some (.string ⟨#[]⟩), 1, 16) := by kernel_rfl
theorem jobV_oneT (x : JobD) : ∀ u ∈ jobV x, u.oneCell' = true := by intro u hu; simp [jobV] at hu; rcases hu with rfl | rfl | rfl | rfl | rfl <;> rfl
theorem nodeV_oneT (x : NodeD) : ∀ u ∈ nodeV x, u.oneCell' = true := by intro u hu; simp [nodeV] at hu; rcases hu with rfl | rfl | rfl <;> rfl
theorem leaseV_oneT (x : LeaseD) : ∀ u ∈ leaseV x, u.oneCell' = true := by intro u hu; simp [leaseV] at hu; rcases hu with rfl | rfl | rfl <;> rfl
theorem strV_oneT (x : ByteArray) : ∀ u ∈ strV x, u.oneCell' = true := by intro u hu; simp [strV] at hu; subst hu; rfl
/-- Rows of the call's own, where another block turned. -/
theorem ownT_grow {w w' : World} {base g n sz : Nat} {e : TypeId} {v : Value} {xs : List Value} (ho : w.ownsRow base e sz v n xs) (hg : w.grownBy w' (some g)) (hgb : g < base) : w'.ownsRow base e sz v n xs := by
  rcases ho with ⟨h1, h | ⟨q, cap, cur, hv, hq, hgq, r⟩⟩
  · exact ⟨h1, .inl h⟩
  · have hlt : q < w.heap.size := (Array.getElem?_eq_some_iff.1 hgq).1
    exact ⟨h1, .inr ⟨q, cap, cur, hv, hq, (hg.block q hlt (by simp; omega)).trans hgq, r⟩⟩
theorem Blk.grewT {w w' : World} {k base : Nat} {t : TypeId} {cs : Array Value} {v v' : Value} (h : Blk w k t cs) (hg : Grew w w' v v') (hv : ∀ q, v.ownBlock = some q → base ≤ q) (hkb : k < base) : Blk w' k t cs :=
  (hg.grown.block k h.lt (fun e => by have := hv k e.symm; omega)).trans h
/-- What the rest of a table gives, from where the reading stands. -/
def TkRel {α : Type} (p : ByteArray → RR α) (tot : RR (List α)) (n most k : Nat) (l : List α) (τ : RR Unit) : Prop := match τ with
  | .ok _ s => n ≤ most ∧ tot = (repP p (n - k) s).bind fun l' r => .ok (l ++ l') r
  | .bad x => tot = .bad x
theorem TkRel.step {α : Type} {p : ByteArray → RR α} {tot : RR (List α)} {n most k : Nat} {l : List α} {u : Unit} {s : ByteArray} {a : α} {Z : α → Prop} (h : TkRel p tot n most k l (.ok u s)) (hk : k < n) (hv : RxVal ((RR.ok u s).bind fun _ s => p s) Z a) :
    TkRel p tot n most (k + 1) (l ++ [a]) ((RR.ok u s).bind fun _ s => p s).st := by
  obtain ⟨h1, h2⟩ := h
  rw [RR.bind_ok] at hv ⊢
  rw [show n - k = (n - (k + 1)) + 1 by omega, repP] at h2
  cases hp : p s with
  | bad x =>
    rw [hp] at h2
    exact h2
  | ok b r =>
    rw [hp] at h2 hv
    have hv : a = b := hv
    subst hv
    refine ⟨h1, ?_⟩
    rw [h2, RR.bind_ok]
    cases repP p (n - (k + 1)) r with
    | bad x => rfl
    | ok l' r' => simp [RR.bind_ok]
theorem TkRel.ended {α : Type} {p : ByteArray → RR α} {tot : RR (List α)} {n most : Nat} {l : List α} {τ : RR Unit} (h : TkRel p tot n most n l τ) : tot.st = τ ∧ ∀ l' r, tot = .ok l' r → l' = l := by
  cases τ with
  | bad x =>
    have h : tot = .bad x := h
    subst h
    exact ⟨rfl, fun _ _ he => by cases he⟩
  | ok u s =>
    obtain ⟨_, h2⟩ := h
    rw [Nat.sub_self, repP, RR.bind_ok, List.append_nil] at h2
    subst h2
    exact ⟨rfl, fun l' r he => by injection he with h1 h2; exact h1.symm⟩
theorem TkRel.dead {α : Type} {p : ByteArray → RR α} {tot : RR (List α)} {n most k x : Nat} {l : List α} (h : TkRel p tot n most k l (.bad x)) : tot.st = .bad x ∧ ∀ l' r, tot ≠ .ok l' r := by
  have h : tot = .bad x := h
  subst h
  exact ⟨rfl, fun _ _ he => by cases he⟩
/-- Where the reading starts. -/
theorem TkRel.start {α : Type} {p : ByteArray → RR α} {σ : RR Unit} {most n : Nat} (hv : RxVal (σ.bind fun _ s => numP s) (fun n => n = 0) n) :
    (n ≤ most → TkRel p (σ.bind fun _ s => takeP most p s) n most 0 [] (σ.bind fun _ s => numP s).st) ∧
    (most < n → ∃ s, (σ.bind fun _ s => numP s).st = .ok () s ∧ TkRel p (σ.bind fun _ s => takeP most p s) n most 0 [] (.bad 2)) := by
  cases σ with
  | bad x =>
    rw [RR.bind_bad] at hv
    have hv : n = 0 := hv
    exact ⟨fun _ => rfl, fun h => by omega⟩
  | ok u s =>
    rw [RR.bind_ok, RR.bind_ok] at *
    unfold takeP manyP
    cases hp : numP s with
    | bad x =>
      rw [hp] at hv
      have hv : n = 0 := hv
      exact ⟨fun _ => rfl, fun h => by omega⟩
    | ok b r =>
      rw [hp] at hv
      have hv : n = b := hv
      subst hv
      refine ⟨fun h => ⟨h, ?_⟩, fun h => ⟨r, rfl, ?_⟩⟩
      · rw [RR.bind_ok, if_neg (by omega), RR.bind_ok, Nat.sub_zero]
        cases repP p n r with
        | bad x => rfl
        | ok l' r' => simp [RR.bind_ok]
      · show _ = _
        rw [RR.bind_ok, if_pos h, RR.bind_bad]
theorem tk_dead_eq {x : Nat} (h : (RR.bad x : RR Unit).Good RxMax) : ((x : Int) != 0) = true := by rw [bne_iff_ne]; have := h.1; omega
end Go.Proofs.YtoeejfhdjmkpcaaDoor
