/- Of the proof of a statement: PlDDec, PlApply, PlFol, Cmp, PlChg, AtL. -/
import Derived.WalkLawsBesides
import Derived.Sort.Statements
import Derived.Shelf.SlSortCmp.WholeK
import Derived.Test.YtjgnnobccecpeaaGreatDoorRAt
import Derived.Test.YtjgnnobccecpeaaGreatDoorRPlWDec
set_option linter.unusedVariables false
set_option linter.unusedSimpArgs false
set_option maxRecDepth 100000
set_option maxHeartbeats 8000000
/- What Decode of a delta says: plain. -/
namespace Go.Proofs.YtjgnnobccecpeaaGreatDoor
open Go.Lib (hid)
def addW (f t : Nat) : Int := if f + t ≤ 9223372036854775807 then ((f + t : Nat) : Int) else ((f + t : Nat) : Int) - 18446744073709551616
theorem addW_bounds {f t : Nat} (hf : f ≤ 4611686018427387904) (ht : t ≤ 4611686018427387904) : -9223372036854775808 ≤ addW f t ∧ addW f t ≤ 9223372036854775807 := by
 unfold addW; split <;> omega
def dlP (b : ByteArray) : RR DeltaD :=
 (numP b).bind fun f s => (numP s).bind fun t s => (takeP 40 (jobP 3) s).bind fun j s => (takeP 20 (nodeP 3) s).bind fun n s => (takeP 40 leaseP s).bind fun l s =>
  (takeP 40 textP s).bind fun gj s => (takeP 20 textP s).bind fun gn s => (takeP 40 textP s).bind fun gl s => .ok ⟨(f : Int), addW f t, j, n, l, gj, gn, gl⟩ s
def zeroDe : DeltaD := ⟨0, 0, [], [], [], [], [], []⟩
def decDF (b : ByteArray) : DeltaD × Int := if 6000 < b.size then (zeroDe, 2) else match endP (dlP b) with
 | .bad e => (zeroDe, e)
 | .ok d _ => if deltaE d = 0 then (d, 0) else (zeroDe, deltaE d)
theorem decDF_large {b : ByteArray} (h : 6000 < b.size) : decDF b = (zeroDe, 2) := by unfold decDF; rw [if_pos h]
theorem decDF_bad {b : ByteArray} {e : Nat} (h : ¬ 6000 < b.size) (h2 : endP (dlP b) = .bad e) : decDF b = (zeroDe, (e : Int)) := by unfold decDF; rw [if_neg h, h2]
theorem decDF_check {b r : ByteArray} {d : DeltaD} (h : ¬ 6000 < b.size) (h2 : endP (dlP b) = .ok d r) (h3 : deltaE d ≠ 0) : decDF b = (zeroDe, deltaE d) := by unfold decDF; rw [if_neg h, h2]; simp only; rw [if_neg h3]
theorem decDF_ok {b r : ByteArray} {d : DeltaD} (h : ¬ 6000 < b.size) (h2 : endP (dlP b) = .ok d r) (h3 : deltaE d = 0) : decDF b = (d, 0) := by unfold decDF; rw [if_neg h, h2]; simp only; rw [if_pos h3]
theorem dlP_good {b : ByteArray} {N : Nat} (h : b.size ≤ N) : (dlP b).Good N := by
 unfold dlP
 exact (numP_good h).bind fun _ _ h => (numP_good h).bind fun _ _ h => (takeP_good (fun _ => jobP_good) h).bind fun _ _ h => (takeP_good (fun _ => nodeP_good) h).bind fun _ _ h => (takeP_good (fun _ => leaseP_good) h).bind fun _ _ h =>
  (takeP_good (fun _ => textP_good) h).bind fun _ _ h => (takeP_good (fun _ => textP_good) h).bind fun _ _ h => (takeP_good (fun _ => textP_good) h).bind fun _ _ h => h
theorem dl_join {b : ByteArray} {r1 : RR Nat} {r2 : RR Nat} {r3 : RR (List JobD)} {r4 : RR (List NodeD)} {r5 : RR (List LeaseD)} {r6 : RR (List ByteArray)} {r7 : RR (List ByteArray)} {r8 : RR (List ByteArray)} (e1 : r1 = numP b) (e2 : r2 = r1.st.bind fun _ s => numP s) (e3 : r3 = r2.st.bind fun _ s => takeP 40 (jobP 3) s) (e4 : r4 = r3.st.bind fun _ s => takeP 20 (nodeP 3) s) (e5 : r5 = r4.st.bind fun _ s => takeP 40 leaseP s) (e6 : r6 = r5.st.bind fun _ s => takeP 40 textP s) (e7 : r7 = r6.st.bind fun _ s => takeP 20 textP s) (e8 : r8 = r7.st.bind fun _ s => takeP 40 textP s) :
 (∀ x, r8.st = .bad x → dlP b = .bad x) ∧ (∀ s, r8.st = .ok () s → ∃ f t j n l gj gn gl s1 s2 s3 s4 s5 s6 s7, (r1 = .ok f s1 ∧ numP b = .ok f s1) ∧ (r2 = .ok t s2 ∧ numP s1 = .ok t s2) ∧ (r3 = .ok j s3 ∧ takeP 40 (jobP 3) s2 = .ok j s3) ∧ (r4 = .ok n s4 ∧ takeP 20 (nodeP 3) s3 = .ok n s4) ∧ (r5 = .ok l s5 ∧ takeP 40 leaseP s4 = .ok l s5) ∧ (r6 = .ok gj s6 ∧ takeP 40 textP s5 = .ok gj s6) ∧ (r7 = .ok gn s7 ∧ takeP 20 textP s6 = .ok gn s7) ∧ (r8 = .ok gl s ∧ takeP 40 textP s7 = .ok gl s) ∧ dlP b = .ok ⟨(f : Int), addW f t, j, n, l, gj, gn, gl⟩ s) := by
 unfold dlP
 rw [← e1]
 cases r1 with
 | bad x =>
  subst e2; subst e3; subst e4; subst e5; subst e6; subst e7; subst e8; exact ⟨fun y hy => bad_eq hy, fun s hs => by cases hs⟩
 | ok f s1 =>
  rw [RR.bind_ok]
  have e2' : r2 = numP s1 := e2
  rw [← e2']
  cases r2 with
  | bad x =>
   subst e3; subst e4; subst e5; subst e6; subst e7; subst e8; exact ⟨fun y hy => bad_eq hy, fun s hs => by cases hs⟩
  | ok t s2 =>
   rw [RR.bind_ok]
   have e3' : r3 = takeP 40 (jobP 3) s2 := e3
   rw [← e3']
   cases r3 with
   | bad x =>
    subst e4; subst e5; subst e6; subst e7; subst e8; exact ⟨fun y hy => bad_eq hy, fun s hs => by cases hs⟩
   | ok j s3 =>
    rw [RR.bind_ok]
    have e4' : r4 = takeP 20 (nodeP 3) s3 := e4
    rw [← e4']
    cases r4 with
    | bad x =>
     subst e5; subst e6; subst e7; subst e8; exact ⟨fun y hy => bad_eq hy, fun s hs => by cases hs⟩
    | ok n s4 =>
     rw [RR.bind_ok]
     have e5' : r5 = takeP 40 leaseP s4 := e5
     rw [← e5']
     cases r5 with
     | bad x =>
      subst e6; subst e7; subst e8; exact ⟨fun y hy => bad_eq hy, fun s hs => by cases hs⟩
     | ok l s5 =>
      rw [RR.bind_ok]
      have e6' : r6 = takeP 40 textP s5 := e6
      rw [← e6']
      cases r6 with
      | bad x =>
       subst e7; subst e8; exact ⟨fun y hy => bad_eq hy, fun s hs => by cases hs⟩
      | ok gj s6 =>
       rw [RR.bind_ok]
       have e7' : r7 = takeP 20 textP s6 := e7
       rw [← e7']
       cases r7 with
       | bad x =>
        subst e8; exact ⟨fun y hy => bad_eq hy, fun s hs => by cases hs⟩
       | ok gn s7 =>
        rw [RR.bind_ok]
        have e8' : r8 = takeP 40 textP s7 := e8
        rw [← e8']
        cases r8 with
        | bad x =>
         exact ⟨fun y hy => bad_eq hy, fun s hs => by cases hs⟩
        | ok gl s8 =>
         refine And.intro (fun y hy => by cases hy) (fun s hs => ?_)
         have hs : RR.ok () s8 = RR.ok () s := hs
         injection hs with _ h2
         subst h2
         exact ⟨f, t, j, n, l, gj, gn, gl, s1, s2, s3, s4, s5, s6, s7, ⟨rfl, rfl⟩, ⟨rfl, e2'.symm⟩, ⟨rfl, e3'.symm⟩, ⟨rfl, e4'.symm⟩, ⟨rfl, e5'.symm⟩, ⟨rfl, e6'.symm⟩, ⟨rfl, e7'.symm⟩, ⟨rfl, e8'.symm⟩, rfl⟩
end Go.Proofs.YtjgnnobccecpeaaGreatDoor
/- What Apply says: plain. -/
namespace Go.Proofs.YtjgnnobccecpeaaGreatDoor
open Go.Lib (hid)
open Go.Op (bytesLess)
def kless (a b : ByteArray) : Bool := bytesLess a.toList b.toList
theorem kless_irrefl (a : ByteArray) : kless a a = false := less_irrefl _
theorem kless_trans {a b c : ByteArray} (h : kless a b = true) (h2 : kless b c = true) : kless a c = true := less_trans _ _ _ h h2
theorem bytes_of_toList {a b : ByteArray} (h : a.toList = b.toList) : a = b := by rw [ByteArray.toList_eq, ByteArray.toList_eq] at h; exact ByteArray.ext (Array.toList_inj.1 h)
theorem kless_of_not {a b : ByteArray} (h : kless a b = false) (hne : a ≠ b) : kless b a = true := by
 have ht := less_total a.toList b.toList
 unfold kless at h ⊢
 rw [h] at ht
 rcases Bool.or_eq_true_iff.1 ht.symm with h1 | h1
 · exact h1
 · exact absurd (bytes_of_toList (beq_iff_eq.1 h1)).symm hne
section
variable {α : Type} (key : α → ByteArray)
def KSorted (l : List α) : Prop := l.Pairwise fun a b => kless (key a) (key b) = true
variable {key}
theorem ksorted_unique : ∀ {l r : List α}, KSorted key l → KSorted key r → (∀ x, x ∈ l ↔ x ∈ r) → l = r
 | [], [], _, _, _ => rfl
 | [], b :: r, _, _, h => absurd ((h b).2 List.mem_cons_self) List.not_mem_nil
 | a :: l, [], _, _, h => absurd ((h a).1 List.mem_cons_self) List.not_mem_nil
 | a :: l, b :: r, hl, hr, h => by
  obtain ⟨hl1, hl2⟩ := List.pairwise_cons.1 hl
  obtain ⟨hr1, hr2⟩ := List.pairwise_cons.1 hr
  have hab : a = b := by
   rcases List.mem_cons.1 ((h a).1 List.mem_cons_self) with h1 | h1
   · exact h1
   · rcases List.mem_cons.1 ((h b).2 List.mem_cons_self) with h2 | h2
     · exact h2.symm
     · have := kless_trans (hr1 a h1) (hl1 b h2)
       rw [kless_irrefl] at this; cases this
  subst hab
  refine congrArg (a :: ·) (ksorted_unique hl2 hr2 fun x => ⟨fun hx => ?_, fun hx => ?_⟩)
  · rcases List.mem_cons.1 ((h x).1 (List.mem_cons_of_mem _ hx)) with h1 | h1
    · subst h1
      have := hl1 x hx
      rw [kless_irrefl] at this; cases this
    · exact h1
  · rcases List.mem_cons.1 ((h x).2 (List.mem_cons_of_mem _ hx)) with h1 | h1
    · subst h1
      have := hr1 x hx
      rw [kless_irrefl] at this; cases this
    · exact h1
theorem ksorted_apart {l : List α} (h : KSorted key l) : l.Pairwise fun a b => key a ≠ key b :=
 h.imp fun {a b} hlt e => by rw [e, kless_irrefl] at hlt; cases hlt
variable (key)
def putFrom (x : α) : Bool → List α → List α
 | d, [] => if d then [] else [x]
 | d, y :: l => (if !d && !kless (key y) (key x) then [x] else []) ++ (if key y ≠ key x then [y] else []) ++ putFrom x (d || !kless (key y) (key x)) l
def putK (l : List α) (x : α) : List α := putFrom key x false l
variable {key}
theorem mem_putFrom (x z : α) : ∀ (l : List α) (d : Bool), z ∈ putFrom key x d l ↔ (d = false ∧ z = x) ∨ (z ∈ l ∧ key z ≠ key x)
 | [], d => by cases d <;> simp [putFrom]
 | y :: l, d => by
  rw [putFrom, List.mem_append, List.mem_append, mem_putFrom x z l]
  have h2 : (z ∈ if key y ≠ key x then [y] else []) ↔ (z = y ∧ key z ≠ key x) := by
   by_cases h : key y = key x
   · rw [if_neg (by simp [h])]
     exact ⟨fun h' => absurd h' List.not_mem_nil, fun ⟨h1, h2⟩ => absurd (by rw [h1, h]) h2⟩
   · rw [if_pos h, List.mem_singleton]
     exact ⟨fun h' => ⟨h', by rw [h']; exact h⟩, fun h' => h'.1⟩
  rw [h2, List.mem_cons]
  cases d <;> cases hk : kless (key y) (key x) <;> simp <;> grind
theorem sorted_putT (x : α) : ∀ (l : List α), KSorted key l → KSorted key (putFrom key x true l)
 | [], _ => List.Pairwise.nil
 | y :: l, h => by
  obtain ⟨h1, h2⟩ := List.pairwise_cons.1 h
  have ih := sorted_putT x l h2
  rw [putFrom]
  simp only [Bool.not_true, Bool.false_and, Bool.false_eq_true, if_false, List.nil_append, Bool.true_or]
  by_cases hk : key y = key x
  · rw [if_neg (by simp [hk])]; exact ih
  · rw [if_pos hk]
    refine List.pairwise_cons.2 ⟨fun z hz => ?_, ih⟩
    rcases (mem_putFrom x z l true).1 hz with hc | hc
    · cases hc.1
    · exact h1 z hc.1
theorem sorted_put (x : α) : ∀ (l : List α), KSorted key l → KSorted key (putFrom key x false l)
 | [], _ => List.pairwise_singleton _ _
 | y :: l, h => by
  obtain ⟨h1, h2⟩ := List.pairwise_cons.1 h
  cases hk : kless (key y) (key x) with
  | true =>
   have hne : key y ≠ key x := fun e => by rw [e, kless_irrefl] at hk; cases hk
   have ih := sorted_put x l h2
   rw [putFrom, hk]
   simp only [Bool.not_true, Bool.and_false, Bool.false_eq_true, if_false, List.nil_append, Bool.or_false, if_pos hne]
   refine List.pairwise_cons.2 ⟨fun z hz => ?_, ih⟩
   rcases (mem_putFrom x z l false).1 hz with hc | hc
   · rw [hc.2]; exact hk
   · exact h1 z hc.1
  | false =>
   have ih := sorted_putT x (y :: l) h
   have e : putFrom key x false (y :: l) = x :: putFrom key x true (y :: l) := by
    rw [putFrom, putFrom, hk]
    simp
   rw [e]
   refine List.pairwise_cons.2 ⟨fun z hz => ?_, ih⟩
   rcases (mem_putFrom x z (y :: l) true).1 hz with hc | hc
   · cases hc.1
   · rcases List.mem_cons.1 hc.1 with e | hz
     · subst e
       exact kless_of_not hk hc.2
     · have hyz := h1 z hz
       by_cases hxy : key y = key x
       · rw [hxy] at hyz; exact hyz
       · exact kless_trans (kless_of_not hk hxy) hyz
theorem foldl_put : ∀ (set l : List α), KSorted key l → set.Pairwise (fun a b => key a ≠ key b) →
 KSorted key (set.foldl (putK key) l) ∧ ∀ z, z ∈ set.foldl (putK key) l ↔ z ∈ set ∨ (z ∈ l ∧ ∀ s ∈ set, key z ≠ key s)
 | [], l, h, _ => ⟨h, fun z => by simp⟩
 | s :: set, l, h, hd => by
  obtain ⟨d1, d2⟩ := List.pairwise_cons.1 hd
  obtain ⟨i1, i2⟩ := foldl_put set (putK key l s) (sorted_put s l h) d2
  refine ⟨i1, fun z => ?_⟩
  rw [List.foldl_cons, i2]
  have hm : z ∈ putK key l s ↔ z = s ∨ (z ∈ l ∧ key z ≠ key s) := by
   unfold putK; rw [mem_putFrom]; simp
  rw [hm, List.mem_cons]
  constructor
  · rintro (h1 | ⟨h1 | h1, h2⟩)
    · exact .inl (.inr h1)
    · exact .inl (.inl h1)
    · exact .inr ⟨h1.1, fun r hr => by
       rcases List.mem_cons.1 hr with e | hr
       · rw [e]; exact h1.2
       · exact h2 r hr⟩
  · rintro ((h1 | h1) | ⟨h1, h2⟩)
    · exact .inr ⟨.inl h1, fun r hr => by rw [h1]; exact d1 r hr⟩
    · exact .inl h1
    · exact .inr ⟨.inr ⟨h1, h2 s List.mem_cons_self⟩, fun r hr => h2 r (List.mem_cons_of_mem _ hr)⟩
variable (key)
def applyL (rows set : List α) (gone : List ByteArray) : List α := set.foldl (putK key) (rows.filter fun x => !gone.any fun s => decide (s = key x))
def missingL (rows : List α) (gone : List ByteArray) : Bool := gone.any fun s => !rows.any fun r => decide (key r = s)
def tabG (rows : List α) (gone : List ByteArray) (set : List α) (s : ByteArray) : Option α :=
 match set.find? fun x => decide (key x = s) with
 | some x => some x
 | none => if gone.any (fun q => decide (q = s)) then none else rows.find? fun x => decide (key x = s)
variable {key}
theorem find_self {l : List α} (h : l.Pairwise fun a b => key a ≠ key b) {x : α} (hx : x ∈ l) : l.find? (fun y => decide (key y = key x)) = some x := by
 induction l with
 | nil => cases hx
 | cons a l ih =>
  obtain ⟨h1, h2⟩ := List.pairwise_cons.1 h
  rw [List.find?_cons]
  by_cases e : key a = key x
  · rcases List.mem_cons.1 hx with rfl | hx
    · simp
    · exact absurd e (h1 x hx)
  · rw [decide_eq_false e]
    rcases List.mem_cons.1 hx with rfl | hx
    · exact absurd rfl e
    · exact ih h2 hx
theorem find_key {l : List α} {s : ByteArray} {x : α} (h : l.find? (fun y => decide (key y = s)) = some x) : key x = s ∧ x ∈ l := ⟨by simpa using List.find?_some h, List.mem_of_find?_eq_some h⟩
theorem tabG_key {rows set : List α} {gone : List ByteArray} {s : ByteArray} {x : α} (h : tabG key rows gone set s = some x) : key x = s := by
 unfold tabG at h
 cases hf : set.find? (fun y => decide (key y = s)) with
 | some y => rw [hf] at h; injection h with h; subst h; exact (find_key hf).1
 | none =>
  rw [hf] at h
  dsimp only at h
  split at h
  · cases h
  · exact (find_key h).1
theorem applyL_eq {rows set : List α} {gone : List ByteArray} {l : List α} (hr : KSorted key rows) (hs : KSorted key set) (hl : KSorted key l)
 (hm : ∀ z, z ∈ l ↔ tabG key rows gone set (key z) = some z) : l = applyL key rows set gone := by
 obtain ⟨i1, i2⟩ := foldl_put set (rows.filter fun x => !gone.any fun s => decide (s = key x)) (List.Pairwise.filter _ hr) (ksorted_apart hs)
 refine ksorted_unique hl i1 fun z => ?_
 rw [hm]
 unfold applyL
 rw [i2]
 unfold tabG
 cases hf : set.find? (fun y => decide (key y = key z)) with
 | some y =>
  obtain ⟨e, hy⟩ := find_key hf
  constructor
  · intro h
    injection h with h
    subst h
    exact .inl hy
  · rintro (h | ⟨_, h⟩)
    · rw [find_self (ksorted_apart hs) h] at hf; exact hf.symm
    · exact absurd e.symm (h y hy)
 | none =>
  have hn : ∀ s ∈ set, key z ≠ key s := fun s hs' e => by
   have := List.find?_eq_none.1 hf s hs'
   simp [e] at this
  dsimp only
  rw [List.mem_filter]
  constructor
  · intro h
    split at h
    · cases h
    · rename_i hg
      exact .inr ⟨⟨(find_key h).2, by show (!gone.any fun s => decide (s = key z)) = true; rw [Bool.eq_false_iff.2 hg]; rfl⟩, hn⟩
  · rintro (h | ⟨⟨h, hg⟩, _⟩)
    · exact absurd rfl (hn z h)
    · rw [if_neg (by intro h'; rw [h'] at hg; cases hg)]
      exact find_self (ksorted_apart hr) h
end
def applyS (s : StateD) (d : DeltaD) : StateD := ⟨d.to_, applyL JobD.name s.jobs d.jobs d.gj, applyL NodeD.name s.nodes d.nodes d.gn, applyL LeaseD.job s.leases d.leases d.gl⟩
def applyF (s : StateD) (d : DeltaD) : StateD × Int :=
 if checkE s ≠ 0 then (zeroSt, checkE s) else if deltaE d ≠ 0 then (zeroSt, deltaE d) else if d.from_ ≠ s.rev then (zeroSt, 10)
 else if (missingL JobD.name s.jobs d.gj || missingL NodeD.name s.nodes d.gn || missingL LeaseD.job s.leases d.gl) = true then (zeroSt, 6)
 else if checkE (applyS s d) ≠ 0 then (zeroSt, checkE (applyS s d)) else (applyS s d, 0)
end Go.Proofs.YtjgnnobccecpeaaGreatDoor
/- What a follower does: plain. -/
namespace Go.Proofs.YtjgnnobccecpeaaGreatDoor
open Go.Lib (hid)
def frameF (cur : Option StateD) (f : FrameM) : Option StateD × Int :=
 if f.ver = 3 then
  if f.kind = 1 then (if (decF f.pay 3).2 = 0 then (some (decF f.pay 3).1, 0) else (none, (decF f.pay 3).2))
  else if f.kind = 2 then
   match cur with
   | none => (none, 0)
   | some s => if (decDF f.pay).2 = 0 then (if (applyF s (decDF f.pay).1).2 = 0 then (some (applyF s (decDF f.pay).1).1, 0) else (none, (applyF s (decDF f.pay).1).2)) else (none, (decDF f.pay).2)
  else (cur, 0)
 else (cur, 0)
def stepF (r : Option StateD × Int) (f : FrameM) : Option StateD × Int := ((frameF r.1 f).1, if r.2 = 0 then (frameF r.1 f).2 else r.2)
def runF (cur : Option StateD) (fs : List FrameM) : Option StateD × Int := fs.foldl stepF (cur, 0)
section
variable {cur : Option StateD} {f : FrameM} {st : StateD} {d : DeltaD} {E : Int}
theorem fr_ver (h : f.ver ≠ 3) : frameF cur f = (cur, 0) := by unfold frameF; rw [if_neg h]
theorem fr_kind (h : f.ver = 3) (h1 : f.kind ≠ 1) (h2 : f.kind ≠ 2) : frameF cur f = (cur, 0) := by unfold frameF; rw [if_pos h, if_neg h1, if_neg h2]
theorem fr_state (h : f.ver = 3) (h1 : f.kind = 1) (hd : decF f.pay 3 = (st, 0)) : frameF cur f = (some st, 0) := by unfold frameF; rw [if_pos h, if_pos h1, hd]; rfl
theorem fr_stateE (h : f.ver = 3) (h1 : f.kind = 1) (hd : decF f.pay 3 = (st, E)) (hE : E ≠ 0) : frameF cur f = (none, E) := by unfold frameF; rw [if_pos h, if_pos h1, hd]; exact if_neg hE
theorem fr_none (h : f.ver = 3) (h2 : f.kind = 2) : frameF none f = (none, 0) := by unfold frameF; rw [if_pos h, if_neg (by omega), if_pos h2]
theorem fr_delta {s : StateD} (h : f.ver = 3) (h2 : f.kind = 2) (hd : decDF f.pay = (d, 0)) (ha : applyF s d = (st, 0)) : frameF (some s) f = (some st, 0) := by
 unfold frameF; rw [if_pos h, if_neg (by omega), if_pos h2]; simp only [hd, ha, if_true]
theorem fr_deltaA {s : StateD} (h : f.ver = 3) (h2 : f.kind = 2) (hd : decDF f.pay = (d, 0)) (ha : applyF s d = (st, E)) (hE : E ≠ 0) : frameF (some s) f = (none, E) := by
 unfold frameF; rw [if_pos h, if_neg (by omega), if_pos h2]; simp only [hd, ha, if_true]; rw [if_neg hE]
theorem fr_deltaE {s : StateD} (h : f.ver = 3) (h2 : f.kind = 2) (hd : decDF f.pay = (d, E)) (hE : E ≠ 0) : frameF (some s) f = (none, E) := by
 unfold frameF; rw [if_pos h, if_neg (by omega), if_pos h2]; simp only [hd]; rw [if_neg hE]
end
noncomputable def frsF (s : ByteArray) : List FrameM × Nat × Nat := ((Frs.all s).choose, (Frs.all s).choose_spec.choose, (Frs.all s).choose_spec.choose_spec.choose)
theorem frsF_is (s : ByteArray) : Frs s (frsF s).1 (frsF s).2.1 (frsF s).2.2 := (Frs.all s).choose_spec.choose_spec.choose_spec
structure FolD where
 rest : ByteArray
 far : Nat
 stuck : Nat
 st : Option StateD
def folN (F : FolD) (s : ByteArray) (fs : List FrameM) (m e : Nat) : FolD × Nat × Int :=
 (⟨if e = 3 then s.extract m s.size else ⟨#[]⟩, F.far + m, if e = 3 then 0 else e, (runF F.st fs).1⟩, fs.length, if (runF F.st fs).2 = 0 then ((if e = 3 then 0 else e : Nat) : Int) else (runF F.st fs).2)
noncomputable def pushF (F : FolD) (p : ByteArray) : FolD × Nat × Int :=
 if F.stuck = 0 then folN F (F.rest ++ p) (frsF (F.rest ++ p)).1 (frsF (F.rest ++ p)).2.1 (frsF (F.rest ++ p)).2.2 else (F, 0, (F.stuck : Int))
noncomputable def folS (a : FolD × List Int × List Int) (p : ByteArray) : FolD × List Int × List Int := ((pushF a.1 p).1, a.2.1 ++ [((pushF a.1 p).2.1 : Int)], a.2.2 ++ [(pushF a.1 p).2.2])
noncomputable def folF (ps : List ByteArray) : FolD × List Int × List Int := ps.foldl folS (⟨⟨#[]⟩, 0, 0, none⟩, [], [])
theorem pushF_stuck {F : FolD} (h : F.stuck ≠ 0) (p : ByteArray) : pushF F p = (F, 0, (F.stuck : Int)) := by unfold pushF; rw [if_neg h]
theorem pushF_go {F : FolD} (h : F.stuck = 0) (p : ByteArray) : pushF F p = folN F (F.rest ++ p) (frsF (F.rest ++ p)).1 (frsF (F.rest ++ p)).2.1 (frsF (F.rest ++ p)).2.2 := by unfold pushF; rw [if_pos h]
theorem pushF_size {F : FolD} {p : ByteArray} {n : Nat} (h : F.rest.size + F.far ≤ n) : (pushF F p).1.rest.size + (pushF F p).1.far ≤ n + p.size := by
 by_cases hs : F.stuck = 0
 · rw [pushF_go hs]
   have hf := frsF_is (F.rest ++ p)
   generalize hr : frsF (F.rest ++ p) = r at hf ⊢
   obtain ⟨fs, m, e⟩ := r
   have hm : m ≤ _ := (Frs.facts hf).1
   rw [ByteArray.size_append] at hm
   unfold folN
   simp only
   by_cases he : e = 3
   · rw [if_pos he, ByteArray.size_extract, ByteArray.size_append]; omega
   · rw [if_neg he]
     show 0 + (F.far + m) ≤ _
     omega
 · rw [pushF_stuck hs]; simp only; omega
theorem folF_snoc {ps : List ByteArray} {k : Nat} {p : ByteArray} (h : ps[k]? = some p) : folF (ps.take (k + 1)) = folS (folF (ps.take k)) p := by
 have e : ps.take (k + 1) = ps.take k ++ [p] := by
  obtain ⟨hlt, rfl⟩ := List.getElem?_eq_some_iff.1 h
  exact (List.take_append_getElem hlt).symm
 unfold folF
 rw [e, List.foldl_append]; rfl
theorem runF_snoc {cur : Option StateD} {fs : List FrameM} {k : Nat} {f : FrameM} (h : fs[k]? = some f) : runF cur (fs.take (k + 1)) = stepF (runF cur (fs.take k)) f := by
 have e : fs.take (k + 1) = fs.take k ++ [f] := by
  obtain ⟨hlt, rfl⟩ := List.getElem?_eq_some_iff.1 h
  exact (List.take_append_getElem hlt).symm
 unfold runF
 rw [e, List.foldl_append]; rfl
theorem folF_len (ps : List ByteArray) : (folF ps).2.1.length = ps.length ∧ (folF ps).2.2.length = ps.length := by
 have gen : ∀ (ps : List ByteArray) (a : FolD × List Int × List Int), (ps.foldl folS a).2.1.length = a.2.1.length + ps.length ∧ (ps.foldl folS a).2.2.length = a.2.2.length + ps.length := by
  intro ps
  induction ps with
  | nil => intro a; exact ⟨rfl, rfl⟩
  | cons p ps ih =>
   intro a
   rw [List.foldl_cons]
   obtain ⟨h1, h2⟩ := ih (folS a p)
   rw [h1, h2]
   simp only [folS, List.length_append, List.length_cons, List.length_nil]
   omega
 have := gen ps (⟨⟨#[]⟩, 0, 0, none⟩, [], [])
 simpa [folF] using this
end Go.Proofs.YtjgnnobccecpeaaGreatDoor
/- cmp.Compare at texts. -/
namespace Go.Proofs.YtjgnnobccecpeaaGreatDoor
open Go.Lib (hid)
open Go.RowKit
open Go.Op (bytesLess)
def cmpI (a b : ByteArray) : Int := if kless a b = true then -1 else if kless b a = true then 1 else 0
theorem cmpI_less {a b : ByteArray} (h : kless a b = true) : cmpI a b = -1 := by unfold cmpI; rw [if_pos h]
theorem cmpI_more {a b : ByteArray} (h : kless a b = false) (h2 : kless b a = true) : cmpI a b = 1 := by unfold cmpI; rw [if_neg (by simp [h]), if_pos h2]
theorem cmpI_same {a b : ByteArray} (h : kless a b = false) (h2 : kless b a = false) : cmpI a b = 0 := by unfold cmpI; rw [if_neg (by simp [h]), if_neg (by simp [h2])]
theorem cmpI_neg {a b : ByteArray} : cmpI a b < 0 ↔ kless a b = true := by
 unfold cmpI
 by_cases h : kless a b = true
 · simp [h]
 · by_cases h2 : kless b a = true <;> simp [h, h2]
theorem isNaN_any (a : ByteArray) (w : World) : Calls Tryz.prog 203 #[.string a] w fun e w' => e = .returned (.bool false) ∧ w = w' := by
 have h0 : (a.toList == a.toList) = true := beq_self_eq_true _
 have h1 : (a.toList != a.toList) = false := by simp
 go_enter Tryz.func203, Tryz.ntmps203
 go_wp2
 go_ret
 exact ⟨rfl, rfl⟩
theorem compare_any (a b : ByteArray) (w : World) : Calls Tryz.prog 137 #[.string a, .string b] w fun e w' => e = .returned (.int .i64 (cmpI a b)) ∧ w = w' := by
 cases h : kless a b with
 | true =>
  rw [cmpI_less h]
  have h' : bytesLess a.toList b.toList = true := h
  clear h
  go_enter Tryz.func137, Tryz.ntmps137
  go_wp2_with (go_at_call 203; refine (isNaN_any _ _).mono ?_; rintro e w' ⟨rfl, rfl⟩)
  go_ret
  exact ⟨rfl, rfl⟩
 | false =>
  cases h2 : kless b a with
  | true =>
   rw [cmpI_more h h2]
   have h' : bytesLess a.toList b.toList = false := h
   have h2' : bytesLess b.toList a.toList = true := h2
   have hq : (a.toList == b.toList) = false := beq_eq_false_iff_ne.2 fun e => by rw [e, less_irrefl] at h2'; cases h2'
   clear h h2
   go_enter Tryz.func137, Tryz.ntmps137
   go_wp2_with (go_at_call 203; refine (isNaN_any _ _).mono ?_; rintro e w' ⟨rfl, rfl⟩)
   go_ret
   exact ⟨rfl, rfl⟩
  | false =>
   rw [cmpI_same h h2]
   have h' : bytesLess a.toList b.toList = false := h
   have h2' : bytesLess b.toList a.toList = false := h2
   have hq : (a.toList == b.toList) = true := by
    have := less_total a.toList b.toList
    rw [h', h2'] at this
    rw [beq_iff_eq]
    exact (beq_iff_eq.1 (by simpa using this)).symm
   clear h h2
   go_enter Tryz.func137, Tryz.ntmps137
   go_wp2_with (go_at_call 203; refine (isNaN_any _ _).mono ?_; rintro e w' ⟨rfl, rfl⟩)
   go_ret
   exact ⟨rfl, rfl⟩
end Go.Proofs.YtjgnnobccecpeaaGreatDoor
/- What changed leaves: plain. -/
namespace Go.Proofs.YtjgnnobccecpeaaGreatDoor
open Go.Lib (hid)
open Go.Sort
theorem find_isSome_any {α : Type} (p : α → Bool) : ∀ l : List α, (l.find? p).isSome = l.any p
 | [] => rfl
 | a :: l => by
  rw [List.find?_cons, List.any_cons]
  cases p a
  · exact find_isSome_any p l
  · rfl
section
variable {α : Type} (key : α → ByteArray)
def cfK (x y : α) : Int := cmpI (key x) (key y)
theorem ltOf_cfK (x y : α) : ltOf (cfK key) x y = kless (key x) (key y) := by
 unfold ltOf cfK
 cases h : kless (key x) (key y)
 · exact decide_eq_false (fun h' => by rw [cmpI_neg, h] at h'; cases h')
 · exact decide_eq_true (cmpI_neg.2 h)
theorem swoK : SWO (ltOf (cfK key)) where
 irrefl x := by rw [ltOf_cfK, kless_irrefl]
 trans x y z h1 h2 := by rw [ltOf_cfK] at *; exact kless_trans h1 h2
 ntrans x y z h1 h2 := by
  rw [ltOf_cfK] at *
  cases h : kless (key x) (key z)
  · rfl
  · by_cases e : key x = key y
    · rw [← e, h] at h2; exact h2
    · rw [kless_trans (kless_of_not h1 e) h] at h2; exact h2
variable {key}
theorem sorted_apply [Inhabited α] {rows set xs : List α} {gone : List ByteArray} {d' : Array α} (hr : KSorted key rows) (hs : KSorted key set)
 (hnd : xs.Pairwise fun a b => key a ≠ key b) (hm : ∀ z, z ∈ xs ↔ tabG key rows gone set (key z) = some z)
 (hp : PermIn 0 xs.toArray.size xs.toArray d') (ho : SortedIn (ltOf (cfK key)) 0 xs.toArray.size d') : d'.toList = applyL key rows set gone := by
 have hsz : d'.size = xs.length := by simpa using hp.1
 have hperm : d'.toList.Perm xs := by
  have h := hp.2.2
  have e1 : d'.extract 0 xs.toArray.size = d' := by rw [Array.extract_eq_self_of_le (by simp [hsz])]
  have e2 : xs.toArray.extract 0 xs.toArray.size = xs.toArray := Array.extract_eq_self_of_le (Nat.le_refl _)
  rw [e1, e2] at h
  simpa using h
 refine applyL_eq hr hs ?_ (fun z => by rw [hperm.mem_iff, hm])
 have hnd' : d'.toList.Pairwise fun a b => key a ≠ key b := (hperm.pairwise_iff (fun {a b} h => Ne.symm h)).2 hnd
 refine List.pairwise_iff_getElem.2 fun i j hi hj hij => ?_
 have hi' : i < d'.size := by simpa using hi
 have hj' : j < d'.size := by simpa using hj
 have h1 := ho i j (Nat.zero_le _) hij (by simpa [hsz] using hj')
 have h2 := List.pairwise_iff_getElem.1 hnd' i j hi hj hij
 rw [ltOf_cfK, getElem!_pos d' j hj', getElem!_pos d' i hi'] at h1
 simp only [Array.getElem_toList] at h2 ⊢
 exact kless_of_not h1 (fun e => h2 e.symm)
theorem tabG_row {rows : List α} (hp : rows.Pairwise fun a b => key a ≠ key b) {k : Nat} {x : α} (h : rows[k]? = some x) (s : ByteArray) :
 tabG key (rows.take (k + 1)) [] [] s = if s = key x then some x else tabG key (rows.take k) [] [] s := by
 unfold tabG
 simp only [List.find?_nil, List.any_nil, Bool.false_eq_true, if_false]
 exact find_take key hp h s
theorem tabG_gone {rows : List α} {gone : List ByteArray} {k : Nat} {q : ByteArray} (h : gone[k]? = some q) (s : ByteArray) :
 tabG key rows (gone.take (k + 1)) [] s = if s = q then none else tabG key rows (gone.take k) [] s := by
 have e : gone.take (k + 1) = gone.take k ++ [q] := by
  obtain ⟨hlt, rfl⟩ := List.getElem?_eq_some_iff.1 h
  exact (List.take_append_getElem hlt).symm
 unfold tabG
 rw [e]
 simp only [List.find?_nil, List.any_append, List.any_cons, List.any_nil, Bool.or_false]
 by_cases hs : s = q
 · subst hs; simp
 · rw [if_neg hs, decide_eq_false (fun e => hs e.symm), Bool.or_false]
theorem tabG_set {rows set : List α} {gone : List ByteArray} (hp : set.Pairwise fun a b => key a ≠ key b) {k : Nat} {x : α} (h : set[k]? = some x) (s : ByteArray) :
 tabG key rows gone (set.take (k + 1)) s = if s = key x then some x else tabG key rows gone (set.take k) s := by
 unfold tabG
 rw [find_take key hp h s]
 by_cases hs : s = key x
 · rw [if_pos hs, if_pos hs]
 · rw [if_neg hs, if_neg hs]
theorem tabG_is {rows : List α} {gone : List ByteArray} (hg : gone.Pairwise fun a b => a ≠ b) {k : Nat} {q : ByteArray} (h : gone[k]? = some q) :
 (tabG key rows (gone.take k) [] q).isSome = rows.any fun r => decide (key r = q) := by
 have hn : ((gone.take k).any fun a => decide (a = q)) = false := by
  rw [List.any_eq_false]
  intro a ha hd
  have e : a = q := by simpa using hd
  obtain ⟨hlt, rfl⟩ := List.getElem?_eq_some_iff.1 h
  obtain ⟨i, hi, rfl⟩ := List.mem_iff_getElem.1 ha
  rw [List.length_take] at hi
  rw [List.getElem_take] at e
  exact List.pairwise_iff_getElem.1 hg i k (by omega) hlt (by omega) e
 unfold tabG
 rw [hn]
 simp only [List.find?_nil, Bool.false_eq_true, if_false]
 exact find_isSome_any _ rows
theorem missing_step {rows : List α} {gone : List ByteArray} {k : Nat} {q : ByteArray} (h : gone[k]? = some q) (h0 : missingL key rows (gone.take k) = false) (h1 : (rows.any fun r => decide (key r = q)) = true) :
 missingL key rows (gone.take (k + 1)) = false := by
 have e : gone.take (k + 1) = gone.take k ++ [q] := by
  obtain ⟨hlt, rfl⟩ := List.getElem?_eq_some_iff.1 h
  exact (List.take_append_getElem hlt).symm
 unfold missingL at h0 ⊢
 rw [e, List.any_append, h0]
 simp [h1]
theorem missing_hit {rows : List α} {gone : List ByteArray} {k : Nat} {q : ByteArray} (h : gone[k]? = some q) (h1 : (rows.any fun r => decide (key r = q)) = false) : missingL key rows gone = true := by
 unfold missingL
 exact List.any_eq_true.2 ⟨q, List.mem_of_getElem? h, by simp [h1]⟩
theorem missing_all {rows : List α} {gone : List ByteArray} {k : Nat} (h0 : missingL key rows (gone.take k) = false) (hk : gone.length ≤ k) : missingL key rows gone = false := by rwa [List.take_of_length_le hk] at h0
end
def CameOf {α : Type} (key : α → ByteArray) (g : ByteArray → Option α) (xs : List α) : Prop := (xs.Pairwise fun a b => key a ≠ key b) ∧ ∀ z, z ∈ xs ↔ g (key z) = some z
end Go.Proofs.YtjgnnobccecpeaaGreatDoor
/- The walk of LeaseAt in the reference. -/
namespace Go.Proofs.YtjgnnobccecpeaaGreatDoor
open Go.Lib (hid)
open Go.RowKit
def LeaseAtPost (xs : List LeaseD) (s : ByteArray) (w : World) (e : Ending) (w' : World) : Prop :=
 ∃ i : Int, e = .returned (.int .i64 i) ∧ Below w.heap.size w w' ∧ ((i = -1 ∧ leaseOf xs s = none) ∨ ∃ (k : Nat) (x : LeaseD), i = (k : Int) ∧ xs[k]? = some x ∧ leaseOf xs s = some x)
def LeaseAtInv (xs : List LeaseD) (s : ByteArray) (n : Nat) (w : World) (i : Value) (wr : World) : Prop := ∃ k : Nat, k ≤ n ∧ i = .int .i64 k ∧ (xs.take k).find? (fun x => decide (x.job = s)) = none ∧ Below w.heap.size w wr
theorem leaseAt_any (xs : List LeaseD) (s : ByteArray) (A : Option Addr) (n c : Nat) (w : World) (hx : SlAt w w.heap.size 3 A n (rowsV leaseV xs)) (hl : xs.length = n) (hn : n ≤ 9223372036854775807) :
 Calls Tryz.prog 52 #[.slice A n c, .string s] w (LeaseAtPost xs s w) := by
 have Hl := hid hl
 clear hl
 go_enter Tryz.func52, Tryz.ntmps52
 go_wp2
 go_loopw [4, 5, 6, 9] (fun _ _ _ i wr => LeaseAtInv xs s n w i wr) (fun _ _ _ i _ => n - (intOf i).toNat)
 case atStart => exact ⟨0, Nat.zero_le _, rfl, by simp, Below.refl _ _⟩
 case round =>
  obtain ⟨k, hk, rfl, hnone, hb⟩ := hrel
  have Hnone := hid hnone
  have Hb := hid hb
  have hsz := hb.size
  clear hnone
  by_cases hlt : k < n
  · obtain ⟨x, hf⟩ : ∃ x, xs[k]? = some x := ⟨_, List.getElem?_eq_getElem (by rw [Hl.out]; exact hlt)⟩
    obtain ⟨b, off, rfl, hbB, hc⟩ := (hx.below hb).rec_ leaseV_len Hl.out hf
    have Hf := hid hf
    obtain ⟨job, node, till⟩ := x
    obtain ⟨c0, c1, c2⟩ := rc3 hc
    clear hc hf hx hb
    have hlb : b < wr.heap.size := by omega
    have hBa := hid (Hb.out.alloc Hb.out.size (.cells #[.string job, .string node, .int .i64 till] 42))
    by_cases hs : job = s
    · subst hs
      have e1 := beq_same job
      have fin := hid (find_hit Hnone.out Hf.out (by simp))
      go_wp2
      go_ret
      exact ⟨_, rfl, hBa.out, .inr ⟨k, _, rfl, Hf.out, fin.out⟩⟩
    · have e1 := beq_diff hs
      have fin := hid (find_miss Hnone.out Hf.out (by simp [hs]))
      go_wp2
      go_roundw
      case rel => exact ⟨k + 1, by omega, by go_num, fin.out, hBa.out⟩
      case measure => simp [intOf]; omega
  · have fin := hid (find_out Hnone.out (by rw [Hl.out]; omega))
    clear hx
    go_wp2
    go_ret
    exact ⟨_, rfl, Hb.out, .inl ⟨rfl, fin.out⟩⟩
def NamesOk' (xs : List ByteArray) : Prop := ∀ x ∈ xs, x.size ≤ 9223372036854775807
end Go.Proofs.YtjgnnobccecpeaaGreatDoor
