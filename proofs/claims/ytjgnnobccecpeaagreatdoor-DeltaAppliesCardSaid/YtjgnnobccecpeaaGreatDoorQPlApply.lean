/- Of the proof of a statement: PlWDec, PlApply, Rdr, RdRow, Frm. -/
import Derived.Laws.Bits64b
import Derived.Laws.BitsAllLaws
import Derived.Below
import Derived.Lib.ValidLaws
import Derived.Test.YtjgnnobccecpeaaGreatDoorRows
import Derived.WalkKit
import Derived.ProofKit
import Derived.OpenShut
import Derived.ShutString
import Derived.ChangeOld
import Derived.Lib.SmallJoins
import Derived.Test.YtjgnnobccecpeaaGreatDoorQPlGone
import Derived.Test.YtjgnnobccecpeaaGreatDoorQTabs
import Derived.Test.YtjgnnobccecpeaaGreatDoorQUtf
set_option linter.unusedVariables false
set_option linter.unusedSimpArgs false
/- What Decode of a state says: plain. -/
namespace Go.Proofs.YtjgnnobccecpeaaGreatDoor
def zeroSt : StateD := ⟨0, [], [], []⟩
end Go.Proofs.YtjgnnobccecpeaaGreatDoor
/- What Apply says: plain. -/
namespace Go.Proofs.YtjgnnobccecpeaaGreatDoor
open Go.Op (bytesLess)
def kless (a b : ByteArray) : Bool := bytesLess a.toList b.toList
theorem kless_irrefl (a : ByteArray) : kless a a = false := less_irrefl _
theorem kless_trans {a b c : ByteArray} (h : kless a b = true) (h2 : kless b c = true) : kless a c = true := less_trans _ _ _ h h2
theorem bytes_of_toList {a b : ByteArray} (h : a.toList = b.toList) : a = b := by rw [ByteArray.toList_eq, ByteArray.toList_eq] at h; exact ByteArray.ext (Array.toList_inj.1 h)
theorem kless_of_not {a b : ByteArray} (h : kless a b = false) (hne : a ≠ b) : kless b a = true := by
  have ht := less_total a.toList b.toList
  unfold kless at h ⊢
  rw [h] at ht
  rcases Bool.or_eq_true_iff.1 ht.symm with h1 | h1
  · exact h1
  · exact absurd (bytes_of_toList (beq_iff_eq.1 h1)).symm hne
section
variable {α : Type} (key : α → ByteArray)
/-- In order, by key. -/
def KSorted (l : List α) : Prop := l.Pairwise fun a b => kless (key a) (key b) = true
variable {key}
theorem ksorted_unique : ∀ {l r : List α}, KSorted key l → KSorted key r → (∀ x, x ∈ l ↔ x ∈ r) → l = r
  | [], [], _, _, _ => rfl
  | [], b :: r, _, _, h => absurd ((h b).2 List.mem_cons_self) List.not_mem_nil
  | a :: l, [], _, _, h => absurd ((h a).1 List.mem_cons_self) List.not_mem_nil
  | a :: l, b :: r, hl, hr, h => by
    obtain ⟨hl1, hl2⟩ := List.pairwise_cons.1 hl
    obtain ⟨hr1, hr2⟩ := List.pairwise_cons.1 hr
    have hab : a = b := by
      rcases List.mem_cons.1 ((h a).1 List.mem_cons_self) with h1 | h1
      · exact h1
      · rcases List.mem_cons.1 ((h b).2 List.mem_cons_self) with h2 | h2
        · exact h2.symm
        · have := kless_trans (hr1 a h1) (hl1 b h2)
          rw [kless_irrefl] at this; cases this
    subst hab
    refine congrArg (a :: ·) (ksorted_unique hl2 hr2 fun x => ⟨fun hx => ?_, fun hx => ?_⟩)
    · rcases List.mem_cons.1 ((h x).1 (List.mem_cons_of_mem _ hx)) with h1 | h1
      · subst h1
        have := hl1 x hx
        rw [kless_irrefl] at this; cases this
      · exact h1
    · rcases List.mem_cons.1 ((h x).2 (List.mem_cons_of_mem _ hx)) with h1 | h1
      · subst h1
        have := hr1 x hx
        rw [kless_irrefl] at this; cases this
      · exact h1
theorem ksorted_apart {l : List α} (h : KSorted key l) : l.Pairwise fun a b => key a ≠ key b :=
  h.imp fun {a b} hlt e => by rw [e, kless_irrefl] at hlt; cases hlt
variable (key)
/-- A row put in its place: from where the loop stands; d: it is put already. -/
def putFrom (x : α) : Bool → List α → List α
  | d, [] => if d then [] else [x]
  | d, y :: l => (if !d && !kless (key y) (key x) then [x] else []) ++ (if key y ≠ key x then [y] else []) ++ putFrom x (d || !kless (key y) (key x)) l
def putK (l : List α) (x : α) : List α := putFrom key x false l
variable {key}
theorem mem_putFrom (x z : α) : ∀ (l : List α) (d : Bool), z ∈ putFrom key x d l ↔ (d = false ∧ z = x) ∨ (z ∈ l ∧ key z ≠ key x)
  | [], d => by cases d <;> simp [putFrom]
  | y :: l, d => by
    rw [putFrom, List.mem_append, List.mem_append, mem_putFrom x z l]
    have h2 : (z ∈ if key y ≠ key x then [y] else []) ↔ (z = y ∧ key z ≠ key x) := by
      by_cases h : key y = key x
      · rw [if_neg (by simp [h])]
        exact ⟨fun h' => absurd h' List.not_mem_nil, fun ⟨h1, h2⟩ => absurd (by rw [h1, h]) h2⟩
      · rw [if_pos h, List.mem_singleton]
        exact ⟨fun h' => ⟨h', by rw [h']; exact h⟩, fun h' => h'.1⟩
    rw [h2, List.mem_cons]
    cases d <;> cases hk : kless (key y) (key x) <;> simp <;> grind
theorem sorted_putT (x : α) : ∀ (l : List α), KSorted key l → KSorted key (putFrom key x true l)
  | [], _ => List.Pairwise.nil
  | y :: l, h => by
    obtain ⟨h1, h2⟩ := List.pairwise_cons.1 h
    have ih := sorted_putT x l h2
    rw [putFrom]
    simp only [Bool.not_true, Bool.false_and, Bool.false_eq_true, if_false, List.nil_append, Bool.true_or]
    by_cases hk : key y = key x
    · rw [if_neg (by simp [hk])]; exact ih
    · rw [if_pos hk]
      refine List.pairwise_cons.2 ⟨fun z hz => ?_, ih⟩
      rcases (mem_putFrom x z l true).1 hz with hc | hc
      · cases hc.1
      · exact h1 z hc.1
theorem sorted_put (x : α) : ∀ (l : List α), KSorted key l → KSorted key (putFrom key x false l)
  | [], _ => List.pairwise_singleton _ _
  | y :: l, h => by
    obtain ⟨h1, h2⟩ := List.pairwise_cons.1 h
    cases hk : kless (key y) (key x) with
    | true =>
      have hne : key y ≠ key x := fun e => by rw [e, kless_irrefl] at hk; cases hk
      have ih := sorted_put x l h2
      rw [putFrom, hk]
      simp only [Bool.not_true, Bool.and_false, Bool.false_eq_true, if_false, List.nil_append, Bool.or_false, if_pos hne]
      refine List.pairwise_cons.2 ⟨fun z hz => ?_, ih⟩
      rcases (mem_putFrom x z l false).1 hz with hc | hc
      · rw [hc.2]; exact hk
      · exact h1 z hc.1
    | false =>
      have ih := sorted_putT x (y :: l) h
      have e : putFrom key x false (y :: l) = x :: putFrom key x true (y :: l) := by
        rw [putFrom, putFrom, hk]
        simp
      rw [e]
      refine List.pairwise_cons.2 ⟨fun z hz => ?_, ih⟩
      rcases (mem_putFrom x z (y :: l) true).1 hz with hc | hc
      · cases hc.1
      · rcases List.mem_cons.1 hc.1 with e | hz
        · subst e
          exact kless_of_not hk hc.2
        · have hyz := h1 z hz
          by_cases hxy : key y = key x
          · rw [hxy] at hyz; exact hyz
          · exact kless_trans (kless_of_not hk hxy) hyz
theorem foldl_put : ∀ (set l : List α), KSorted key l → set.Pairwise (fun a b => key a ≠ key b) →
    KSorted key (set.foldl (putK key) l) ∧ ∀ z, z ∈ set.foldl (putK key) l ↔ z ∈ set ∨ (z ∈ l ∧ ∀ s ∈ set, key z ≠ key s)
  | [], l, h, _ => ⟨h, fun z => by simp⟩
  | s :: set, l, h, hd => by
    obtain ⟨d1, d2⟩ := List.pairwise_cons.1 hd
    obtain ⟨i1, i2⟩ := foldl_put set (putK key l s) (sorted_put s l h) d2
    refine ⟨i1, fun z => ?_⟩
    rw [List.foldl_cons, i2]
    have hm : z ∈ putK key l s ↔ z = s ∨ (z ∈ l ∧ key z ≠ key s) := by
      unfold putK; rw [mem_putFrom]; simp
    rw [hm, List.mem_cons]
    constructor
    · rintro (h1 | ⟨h1 | h1, h2⟩)
      · exact .inl (.inr h1)
      · exact .inl (.inl h1)
      · exact .inr ⟨h1.1, fun r hr => by
          rcases List.mem_cons.1 hr with e | hr
          · rw [e]; exact h1.2
          · exact h2 r hr⟩
    · rintro ((h1 | h1) | ⟨h1, h2⟩)
      · exact .inr ⟨.inl h1, fun r hr => by rw [h1]; exact d1 r hr⟩
      · exact .inl h1
      · exact .inr ⟨.inr ⟨h1, h2 s List.mem_cons_self⟩, fun r hr => h2 r (List.mem_cons_of_mem _ hr)⟩
variable (key)
/-- The rows that a change leaves. -/
def applyL (rows set : List α) (gone : List ByteArray) : List α := set.foldl (putK key) (rows.filter fun x => !gone.any fun s => decide (s = key x))
def missingL (rows : List α) (gone : List ByteArray) : Bool := gone.any fun s => !rows.any fun r => decide (key r = s)
/-- A table by name: the rows, less the names that are gone, then the set ones. -/
def tabG (rows : List α) (gone : List ByteArray) (set : List α) (s : ByteArray) : Option α :=
  match set.find? fun x => decide (key x = s) with
  | some x => some x
  | none => if gone.any (fun q => decide (q = s)) then none else rows.find? fun x => decide (key x = s)
variable {key}
theorem find_self {l : List α} (h : l.Pairwise fun a b => key a ≠ key b) {x : α} (hx : x ∈ l) : l.find? (fun y => decide (key y = key x)) = some x := by
  induction l with
  | nil => cases hx
  | cons a l ih =>
    obtain ⟨h1, h2⟩ := List.pairwise_cons.1 h
    rw [List.find?_cons]
    by_cases e : key a = key x
    · rcases List.mem_cons.1 hx with rfl | hx
      · simp
      · exact absurd e (h1 x hx)
    · rw [decide_eq_false e]
      rcases List.mem_cons.1 hx with rfl | hx
      · exact absurd rfl e
      · exact ih h2 hx
theorem find_key {l : List α} {s : ByteArray} {x : α} (h : l.find? (fun y => decide (key y = s)) = some x) : key x = s ∧ x ∈ l := ⟨by simpa using List.find?_some h, List.mem_of_find?_eq_some h⟩
theorem tabG_key {rows set : List α} {gone : List ByteArray} {s : ByteArray} {x : α} (h : tabG key rows gone set s = some x) : key x = s := by
  unfold tabG at h
  cases hf : set.find? (fun y => decide (key y = s)) with
  | some y => rw [hf] at h; injection h with h; subst h; exact (find_key hf).1
  | none =>
    rw [hf] at h
    dsimp only at h
    split at h
    · cases h
    · exact (find_key h).1
/-- The list that is in order and holds what the table holds is the reference's. -/
theorem applyL_eq {rows set : List α} {gone : List ByteArray} {l : List α} (hr : KSorted key rows) (hs : KSorted key set) (hl : KSorted key l)
    (hm : ∀ z, z ∈ l ↔ tabG key rows gone set (key z) = some z) : l = applyL key rows set gone := by
  obtain ⟨i1, i2⟩ := foldl_put set (rows.filter fun x => !gone.any fun s => decide (s = key x)) (List.Pairwise.filter _ hr) (ksorted_apart hs)
  refine ksorted_unique hl i1 fun z => ?_
  rw [hm]
  unfold applyL
  rw [i2]
  unfold tabG
  cases hf : set.find? (fun y => decide (key y = key z)) with
  | some y =>
    obtain ⟨e, hy⟩ := find_key hf
    constructor
    · intro h
      injection h with h
      subst h
      exact .inl hy
    · rintro (h | ⟨_, h⟩)
      · rw [find_self (ksorted_apart hs) h] at hf; exact hf.symm
      · exact absurd e.symm (h y hy)
  | none =>
    have hn : ∀ s ∈ set, key z ≠ key s := fun s hs' e => by
      have := List.find?_eq_none.1 hf s hs'
      simp [e] at this
    dsimp only
    rw [List.mem_filter]
    constructor
    · intro h
      split at h
      · cases h
      · rename_i hg
        exact .inr ⟨⟨(find_key h).2, by show (!gone.any fun s => decide (s = key z)) = true; rw [Bool.eq_false_iff.2 hg]; rfl⟩, hn⟩
    · rintro (h | ⟨⟨h, hg⟩, _⟩)
      · exact absurd rfl (hn z h)
      · rw [if_neg (by intro h'; rw [h'] at hg; cases hg)]
        exact find_self (ksorted_apart hr) h
end
def applyS (s : StateD) (d : DeltaD) : StateD := ⟨d.to_, applyL JobD.name s.jobs d.jobs d.gj, applyL NodeD.name s.nodes d.nodes d.gn, applyL LeaseD.job s.leases d.leases d.gl⟩
def applyF (s : StateD) (d : DeltaD) : StateD × Int :=
  if checkE s ≠ 0 then (zeroSt, checkE s) else if deltaE d ≠ 0 then (zeroSt, deltaE d) else if d.from_ ≠ s.rev then (zeroSt, 10)
  else if (missingL JobD.name s.jobs d.gj || missingL NodeD.name s.nodes d.gn || missingL LeaseD.job s.leases d.gl) = true then (zeroSt, 6)
  else if checkE (applyS s d) ≠ 0 then (zeroSt, checkE (applyS s d)) else (applyS s d, 0)
end Go.Proofs.YtjgnnobccecpeaaGreatDoor
/- The walks of a Reader. -/
namespace Go.Proofs.YtjgnnobccecpeaaGreatDoor
open Go.RowKit
theorem grow_refl (w : World) (g : Nat) : w.grownBy w (some g) := ⟨rfl, rfl, rfl, Nat.le_refl _, fun _ _ _ => rfl⟩
theorem grow_blk {w w' : World} {g k : Nat} {t : TypeId} {cs : Array Value} (h : w.grownBy w' (some g)) (hk : Blk w k t cs) (hne : k ≠ g) : Blk w' k t cs :=
  (h.block k hk.lt (by simp; exact hne)).trans hk
theorem grow_set (w : World) (g i : Nat) (v : Value) : w.grownBy (w.setCell ⟨g, i, none⟩ v) (some g) := bes_set (grow_refl w g) i v
end Go.Proofs.YtjgnnobccecpeaaGreatDoor
/- The walks of a Reader's rows: a job, a node, a lease. -/
namespace Go.Proofs.YtjgnnobccecpeaaGreatDoor
open Go.RowKit
theorem Tabs.grow {w w' : World} {b : Nat} (h : Tabs w) (h3 : ren.g 3 ≠ b) (h4 : ren.g 4 ≠ b) (hg : w.grownBy w' (some b)) : Tabs w' := by
  have cell : ∀ {a : Addr} {v : Value}, a.block ≠ b → w.cell? a = some v → w'.cell? a = some v := fun {a v} hne hc => by
    have hlt : a.block < w.heap.size := by
      rcases Nat.lt_or_ge a.block w.heap.size with h' | h'
      · exact h'
      · simp [World.cell?, Array.getElem?_eq_none h'] at hc
    have := hg.block a.block hlt (by simp; exact hne)
    rw [← hc]
    unfold World.cell?
    rw [this]
  exact ⟨fun c hc => cell h3 (h.1 c hc), fun i hi => ⟨cell h4 (h.2 i hi).1, cell h4 (h.2 i hi).2⟩⟩
end Go.Proofs.YtjgnnobccecpeaaGreatDoor
/- What every law's frame uses: the program's fixed facts, and bounds out of well-formed integers. -/
namespace Go.Proofs.YtjgnnobccecpeaaGreatDoor
theorem own : ownKnob Tryz.prog.godebug = none := by kernel_rfl
theorem laidOut : laidOutB Tryz.prog = true := by kernel_rfl
theorem wf_bounds_i64 {n : Int} (h : (Lit.int .i64 n).wf = true) : -9223372036854775808 ≤ n ∧ n ≤ 9223372036854775807 := by
  simp only [Lit.wf, IntKind.min, IntKind.max, IntKind.signed, IntKind.bits, Bool.and_eq_true, decide_eq_true_eq, if_true] at h
  omega
end Go.Proofs.YtjgnnobccecpeaaGreatDoor
