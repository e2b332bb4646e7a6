/- Of the proof of a statement: PlPlace, Cmp. -/
import Derived.WalkLawsBesides
import Derived.Test.YtjgnnobccecpeaaGreatDoorPPlSt
set_option linter.unusedVariables false
set_option linter.unusedSimpArgs false
set_option maxRecDepth 100000
set_option maxHeartbeats 8000000
/- The place of a name in a table that is in order: plain. -/
namespace Go.Proofs.YtjgnnobccecpeaaGreatDoor
open Go.Lib (hid)
section
variable {α : Type} (key : α → ByteArray)
def posL (l : List α) (s : ByteArray) : Nat := (l.takeWhile fun a => kless (key a) s).length
def isL (l : List α) (s : ByteArray) : Bool := match l[posL key l s]? with
 | some a => decide (key a = s)
 | none => false
def Halves (l : List α) (s : ByteArray) (i j : Nat) : Prop := i ≤ j ∧ j ≤ l.length ∧ (∀ a ∈ l.take i, kless (key a) s = true) ∧ ∀ a ∈ l.drop j, kless (key a) s = false
variable {key}
theorem Halves.start (l : List α) (s : ByteArray) : Halves key l s 0 l.length := ⟨Nat.zero_le _, Nat.le_refl _, by simp, by simp⟩
theorem Halves.low {l : List α} {s : ByteArray} {i j h : Nat} (H : Halves key l s i j) (hs : KSorted key l) (h2 : h < j) {x : α} (hx : l[h]? = some x) (hk : kless (key x) s = true) : Halves key l s (h + 1) j := by
 refine ⟨h2, H.2.1, fun a ha => ?_, H.2.2.2⟩
 obtain ⟨hlt, rfl⟩ := List.getElem?_eq_some_iff.1 hx
 obtain ⟨k, hkl, rfl⟩ := List.mem_iff_getElem.1 ha
 rw [List.length_take] at hkl
 rw [List.getElem_take]
 by_cases e : k = h
 · subst e; exact hk
 · exact kless_trans (List.pairwise_iff_getElem.1 hs k h (by omega) hlt (by omega)) hk
theorem Halves.high {l : List α} {s : ByteArray} {i j h : Nat} (H : Halves key l s i j) (hs : KSorted key l) (h1 : i ≤ h) {x : α} (hx : l[h]? = some x) (hk : kless (key x) s = false) : Halves key l s i h := by
 obtain ⟨hlt, rfl⟩ := List.getElem?_eq_some_iff.1 hx
 refine ⟨h1, by omega, H.2.2.1, fun a ha => ?_⟩
 obtain ⟨k, hkl, rfl⟩ := List.mem_iff_getElem.1 ha
 rw [List.length_drop] at hkl
 rw [List.getElem_drop]
 cases hc : kless (key l[h + k]) s with
 | false => rfl
 | true =>
  by_cases e : k = 0
  · subst e; simp only [Nat.add_zero] at hc; rw [hc] at hk; cases hk
  · have := kless_trans (List.pairwise_iff_getElem.1 hs h (h + k) hlt (by omega) (by omega)) hc
    rw [hk] at this; cases this
theorem takeWhile_split {p : α → Bool} : ∀ (l : List α) (i : Nat), i ≤ l.length → (∀ a ∈ l.take i, p a = true) → (∀ a ∈ l.drop i, p a = false) → l.takeWhile p = l.take i
 | [], i, hi, _, _ => by simp
 | a :: l, 0, _, _, h => by
  have := h a (by simp)
  simp [List.takeWhile_cons, this]
 | a :: l, i + 1, hi, h1, h2 => by
  have ha := h1 a (by simp)
  rw [List.takeWhile_cons, ha, List.take_succ_cons]
  simp only [if_true]
  rw [takeWhile_split l i (by simpa using hi) (fun b hb => h1 b (by simp [hb])) (fun b hb => h2 b (by simpa using hb))]
theorem Halves.pos {l : List α} {s : ByteArray} {i : Nat} (H : Halves key l s i i) : posL key l s = i := by
 unfold posL
 rw [takeWhile_split l i H.2.1 H.2.2.1 H.2.2.2, List.length_take]
 have := H.2.1
 omega
theorem posL_le (l : List α) (s : ByteArray) : posL key l s ≤ l.length := by
 unfold posL
 exact (List.takeWhile_prefix _).length_le
theorem takeWhile_take (p : α → Bool) : ∀ l : List α, l.takeWhile p = l.take (l.takeWhile p).length
 | [] => rfl
 | a :: l => by
  rw [List.takeWhile_cons]
  split
  · rw [List.length_cons, List.take_succ_cons, ← takeWhile_take p l]
  · rfl
theorem posL_before {l : List α} {s : ByteArray} : ∀ a ∈ l.take (posL key l s), kless (key a) s = true := by
 intro a ha
 unfold posL at ha
 rw [← takeWhile_take] at ha
 have := List.all_takeWhile (l := l) (p := fun a => kless (key a) s)
 rw [List.all_eq_true] at this
 exact this a ha
theorem takeWhile_next (p : α → Bool) : ∀ (l : List α) (x : α), l[(l.takeWhile p).length]? = some x → p x = false
 | [], x, h => by simp at h
 | a :: l, x, h => by
  rw [List.takeWhile_cons] at h
  split at h
  · rw [List.length_cons, List.getElem?_cons_succ] at h
    exact takeWhile_next p l x h
  · rename_i hp
    rw [List.length_nil, List.getElem?_cons_zero] at h
    injection h with h
    subst h
    simpa using hp
theorem posL_next {l : List α} {s : ByteArray} {x : α} (h : l[posL key l s]? = some x) : kless (key x) s = false := takeWhile_next _ l x h
theorem posL_after {l : List α} {s : ByteArray} (hs : KSorted key l) : ∀ a ∈ l.drop (posL key l s), kless (key a) s = false := by
 intro a ha
 obtain ⟨k, hkl, rfl⟩ := List.mem_iff_getElem.1 ha
 rw [List.length_drop] at hkl
 have hp : posL key l s < l.length := by omega
 have h0 := posL_next (List.getElem?_eq_getElem hp)
 have H : Halves key l s (posL key l s) l.length := ⟨posL_le _ _, Nat.le_refl _, posL_before, by simp⟩
 have H2 := H.high hs (Nat.le_refl _) (List.getElem?_eq_getElem hp) h0
 exact H2.2.2.2 _ ha
theorem posL_rest {l : List α} {s : ByteArray} (hs : KSorted key l) (his : isL key l s = false) : ∀ a ∈ l.drop (posL key l s), key a ≠ s := by
 intro a ha e
 obtain ⟨k, hkl, rfl⟩ := List.mem_iff_getElem.1 ha
 rw [List.length_drop] at hkl
 have hp : posL key l s < l.length := by omega
 rw [List.getElem_drop] at e
 unfold isL at his
 rw [List.getElem?_eq_getElem hp] at his
 have hne : key l[posL key l s] ≠ s := by simpa using his
 by_cases h0 : k = 0
 · subst h0; exact hne e
 · have h1 := List.pairwise_iff_getElem.1 hs (posL key l s) (posL key l s + k) hp (by omega) (by omega)
   have h2 := posL_next (List.getElem?_eq_getElem hp)
   rw [e, h2] at h1; cases h1
theorem posL_front {l : List α} {s : ByteArray} : ∀ a ∈ l.take (posL key l s), key a ≠ s := fun a ha e => by
 have := posL_before a ha
 rw [e, kless_irrefl] at this; cases this
theorem isL_at {l : List α} {s : ByteArray} (h : isL key l s = true) : ∃ x, l[posL key l s]? = some x ∧ key x = s := by
 unfold isL at h
 cases hx : l[posL key l s]? with
 | none => rw [hx] at h; cases h
 | some x => rw [hx] at h; exact ⟨x, rfl, by simpa using h⟩
theorem posL_behind {l : List α} {s : ByteArray} (hs : KSorted key l) (his : isL key l s = true) : ∀ a ∈ l.drop (posL key l s + 1), kless s (key a) = true := by
 intro a ha
 obtain ⟨x, hx, hk⟩ := isL_at his
 obtain ⟨hlt, rfl⟩ := List.getElem?_eq_some_iff.1 hx
 obtain ⟨k, hkl, rfl⟩ := List.mem_iff_getElem.1 ha
 rw [List.length_drop] at hkl
 rw [List.getElem_drop]
 have := List.pairwise_iff_getElem.1 hs (posL key l s) (posL key l s + 1 + k) hlt (by omega) (by omega)
 rwa [hk] at this
theorem isL_find {l : List α} {s : ByteArray} (hs : KSorted key l) : isL key l s = (l.find? fun a => decide (key a = s)).isSome := by
 cases h : isL key l s with
 | true =>
  obtain ⟨x, hx, hk⟩ := isL_at h
  symm
  rw [List.find?_isSome]
  exact ⟨x, List.mem_of_getElem? hx, by simpa using hk⟩
 | false =>
  symm
  rw [← Bool.not_eq_true, List.find?_isSome]
  rintro ⟨a, ha, hk⟩
  have hk' : key a = s := by simpa using hk
  rw [← List.take_append_drop (posL key l s) l] at ha
  rcases List.mem_append.1 ha with h1 | h1
  · exact posL_front a h1 hk'
  · exact posL_rest hs h a h1 hk'
theorem at_find {l : List α} {s : ByteArray} (hs : KSorted key l) {x : α} (hx : l[posL key l s]? = some x) (hk : key x = s) : (l.find? fun a => decide (key a = s)) = some x := by
 have := find_self (ksorted_apart hs) (List.mem_of_getElem? hx)
 rwa [hk] at this
theorem putK_pos {l : List α} {x : α} (hs : KSorted key l) : putK key l x = if isL key l (key x) = true then l.take (posL key l (key x)) ++ x :: l.drop (posL key l (key x) + 1) else l.take (posL key l (key x)) ++ x :: l.drop (posL key l (key x)) := by
 refine ksorted_unique (sorted_put x l hs) ?_ fun z => ?_
 · have hp : ∀ r : List α, KSorted key r → (∀ a ∈ r, kless (key x) (key a) = true) → KSorted key (l.take (posL key l (key x)) ++ x :: r) := by
    intro r hr hx
    refine List.pairwise_append.2 ⟨hs.sublist (List.take_sublist _ _), List.pairwise_cons.2 ⟨hx, hr⟩, fun a ha b hb => ?_⟩
    have h1 := posL_before a ha
    rcases List.mem_cons.1 hb with rfl | hb
    · exact h1
    · exact kless_trans h1 (hx b hb)
   split
   · rename_i h
     exact hp _ (hs.sublist (List.drop_sublist _ _)) (posL_behind hs h)
   · rename_i h
     rw [Bool.not_eq_true] at h
     exact hp _ (hs.sublist (List.drop_sublist _ _)) fun a ha => kless_of_not (posL_after hs a ha) (posL_rest hs h a ha)
 · show z ∈ putFrom key x false l ↔ _
   rw [mem_putFrom]
   have hl : z ∈ l ↔ z ∈ l.take (posL key l (key x)) ∨ z ∈ l.drop (posL key l (key x)) := by
    conv => lhs; rw [← List.take_append_drop (posL key l (key x)) l]
    exact List.mem_append
   split
   · rename_i h
     obtain ⟨y, hy, hk⟩ := isL_at h
     have hd : l.drop (posL key l (key x)) = y :: l.drop (posL key l (key x) + 1) := drop_cons hy
     rw [hl, hd]
     simp only [List.mem_append, List.mem_cons, true_and]
     constructor
     · rintro (h1 | ⟨h1 | h1 | h1, h2⟩)
       · exact .inr (.inl h1)
       · exact .inl h1
       · subst h1; exact absurd hk h2
       · exact .inr (.inr h1)
     · rintro (h1 | h1 | h1)
       · exact .inr ⟨.inl h1, posL_front z h1⟩
       · exact .inl h1
       · exact .inr ⟨.inr (.inr h1), fun e => by have := posL_behind hs h z h1; rw [e, kless_irrefl] at this; cases this⟩
   · rename_i h
     rw [Bool.not_eq_true] at h
     rw [hl]
     simp only [List.mem_append, List.mem_cons, true_and]
     constructor
     · rintro (h1 | ⟨h1 | h1, h2⟩)
       · exact .inr (.inl h1)
       · exact .inl h1
       · exact .inr (.inr h1)
     · rintro (h1 | h1 | h1)
       · exact .inr ⟨.inl h1, posL_front z h1⟩
       · exact .inl h1
       · exact .inr ⟨.inr h1, posL_rest hs h z h1⟩
theorem take_pos {l : List α} {s : ByteArray} (hs : KSorted key l) : l.filter (fun a => !decide (key a = s)) = if isL key l s = true then l.take (posL key l s) ++ l.drop (posL key l s + 1) else l := by
 have hf : ∀ r : List α, (∀ a ∈ r, key a ≠ s) → r.filter (fun a => !decide (key a = s)) = r := fun r hr => List.filter_eq_self.2 fun a ha => by simpa using hr a ha
 split
 · rename_i h
   obtain ⟨x, hx, hk⟩ := isL_at h
   have hd : l.drop (posL key l s) = x :: l.drop (posL key l s + 1) := drop_cons hx
   conv => lhs; rw [← List.take_append_drop (posL key l s) l, hd]
   rw [List.filter_append, List.filter_cons, hf _ posL_front, hf _ (fun a ha e => by have := posL_behind hs h a ha; rw [e, kless_irrefl] at this; cases this)]
   simp [hk]
 · rename_i h
   rw [Bool.not_eq_true] at h
   refine hf _ fun a ha => ?_
   rw [← List.take_append_drop (posL key l s) l] at ha
   rcases List.mem_append.1 ha with h1 | h1
   · exact posL_front a h1
   · exact posL_rest hs h a h1
theorem putK_length {l : List α} {x : α} (hs : KSorted key l) : (putK key l x).length ≤ l.length + 1 := by
 rw [putK_pos hs]
 have := posL_le (key := key) l (key x)
 split <;> simp <;> omega
end
end Go.Proofs.YtjgnnobccecpeaaGreatDoor
/- cmp.Compare at texts. -/
namespace Go.Proofs.YtjgnnobccecpeaaGreatDoor
open Go.Lib (hid)
open Go.RowKit
open Go.Op (bytesLess)
def cmpI (a b : ByteArray) : Int := if kless a b = true then -1 else if kless b a = true then 1 else 0
theorem cmpI_less {a b : ByteArray} (h : kless a b = true) : cmpI a b = -1 := by unfold cmpI; rw [if_pos h]
theorem cmpI_more {a b : ByteArray} (h : kless a b = false) (h2 : kless b a = true) : cmpI a b = 1 := by unfold cmpI; rw [if_neg (by simp [h]), if_pos h2]
theorem cmpI_same {a b : ByteArray} (h : kless a b = false) (h2 : kless b a = false) : cmpI a b = 0 := by unfold cmpI; rw [if_neg (by simp [h]), if_neg (by simp [h2])]
theorem cmpI_neg {a b : ByteArray} : cmpI a b < 0 ↔ kless a b = true := by
 unfold cmpI
 by_cases h : kless a b = true
 · simp [h]
 · by_cases h2 : kless b a = true <;> simp [h, h2]
theorem cmpI_zero {a b : ByteArray} : cmpI a b = 0 ↔ a = b := by
 unfold cmpI
 by_cases h : kless a b = true
 · rw [if_pos h]
   exact ⟨fun h' => by omega, fun e => by rw [e, kless_irrefl] at h; cases h⟩
 · rw [if_neg h]
   by_cases h2 : kless b a = true
   · rw [if_pos h2]
     exact ⟨fun h' => by omega, fun e => by rw [e, kless_irrefl] at h2; cases h2⟩
   · rw [if_neg h2]
     refine ⟨fun _ => ?_, fun _ => rfl⟩
     by_cases e : a = b
     · exact e
     · exact absurd (kless_of_not (by simpa using h) e) h2
theorem isNaN_any (a : ByteArray) (w : World) : Calls Tryz.prog 203 #[.string a] w fun e w' => e = .returned (.bool false) ∧ w = w' := by
 have h0 : (a.toList == a.toList) = true := beq_self_eq_true _
 have h1 : (a.toList != a.toList) = false := by simp
 go_enter Tryz.func203, Tryz.ntmps203
 go_wp2
 go_ret
 exact ⟨rfl, rfl⟩
theorem compare_any (a b : ByteArray) (w : World) : Calls Tryz.prog 137 #[.string a, .string b] w fun e w' => e = .returned (.int .i64 (cmpI a b)) ∧ w = w' := by
 cases h : kless a b with
 | true =>
  rw [cmpI_less h]
  have h' : bytesLess a.toList b.toList = true := h
  clear h
  go_enter Tryz.func137, Tryz.ntmps137
  go_wp2_with (go_at_call 203; refine (isNaN_any _ _).mono ?_; rintro e w' ⟨rfl, rfl⟩)
  go_ret
  exact ⟨rfl, rfl⟩
 | false =>
  cases h2 : kless b a with
  | true =>
   rw [cmpI_more h h2]
   have h' : bytesLess a.toList b.toList = false := h
   have h2' : bytesLess b.toList a.toList = true := h2
   have hq : (a.toList == b.toList) = false := beq_eq_false_iff_ne.2 fun e => by rw [e, less_irrefl] at h2'; cases h2'
   clear h h2
   go_enter Tryz.func137, Tryz.ntmps137
   go_wp2_with (go_at_call 203; refine (isNaN_any _ _).mono ?_; rintro e w' ⟨rfl, rfl⟩)
   go_ret
   exact ⟨rfl, rfl⟩
  | false =>
   rw [cmpI_same h h2]
   have h' : bytesLess a.toList b.toList = false := h
   have h2' : bytesLess b.toList a.toList = false := h2
   have hq : (a.toList == b.toList) = true := by
    have := less_total a.toList b.toList
    rw [h', h2'] at this
    rw [beq_iff_eq]
    exact (beq_iff_eq.1 (by simpa using this)).symm
   clear h h2
   go_enter Tryz.func137, Tryz.ntmps137
   go_wp2_with (go_at_call 203; refine (isNaN_any _ _).mono ?_; rintro e w' ⟨rfl, rfl⟩)
   go_ret
   exact ⟨rfl, rfl⟩
end Go.Proofs.YtjgnnobccecpeaaGreatDoor
