/- Of the proof of a statement: PlUtf, LayItoa. -/
import Derived.Lib.ValidLaws
import Derived.Shelf.Strconv.AppendIntPublic10
import Derived.Ground.NamesProg
import Derived.Test.YtcodhhabfacnjaaGreatDoorProg
import Derived.Test.YtcodhhabfacnjaaGreatDoorSPush
set_option linter.unusedVariables false
set_option linter.unusedSimpArgs false
/- What the reference's test of UTF-8 says, byte by byte, is what the library's decoder says: plain lemmas. -/
namespace Go.Proofs.YtcodhhabfacnjaaGreatDoor
open Go.Lib
/-- The test of byte k of a rune. -/
def okAt (l : List UInt8) (lo hi k : Nat) : Prop := (if k = 1 then lo else 128) ≤ (l.getD k 0).toNat ∧ (l.getD k 0).toNat ≤ (if k = 1 then hi else 191)
theorem check_short (n b1 b2 b3 m lo hi : Nat) (h : n < m + 1) : checkN n b1 b2 b3 (m + 1) lo hi = none := by
  unfold checkN
  repeat' split
  all_goals first | rfl | omega
theorem check_bad (l : List UInt8) (n m lo hi k : Nat) (hm : m = 1 ∨ m = 2 ∨ m = 3) (h1 : 1 ≤ k) (hk : k ≤ m) (h : ¬ okAt l lo hi k) :
    checkN n (l.getD 1 0).toNat (l.getD 2 0).toNat (l.getD 3 0).toNat (m + 1) lo hi = none := by
  unfold okAt at h
  unfold checkN
  rcases hm with rfl | rfl | rfl
  all_goals (have : k = 1 ∨ k = 2 ∨ k = 3 := by omega)
  all_goals rcases this with rfl | rfl | rfl
  all_goals simp at h ⊢
  all_goals omega
theorem check_ok (l : List UInt8) (n m lo hi : Nat) (hm : m = 1 ∨ m = 2 ∨ m = 3) (hn : m + 1 ≤ n) (h : ∀ k, 1 ≤ k → k ≤ m → okAt l lo hi k) :
    checkN n (l.getD 1 0).toNat (l.getD 2 0).toNat (l.getD 3 0).toNat (m + 1) lo hi = some (m + 1) := by
  have h1 := h 1
  have h2 := h 2
  have h3 := h 3
  unfold okAt at h1 h2 h3
  unfold checkN
  rcases hm with rfl | rfl | rfl
  all_goals simp at h1 h2 h3 ⊢
  all_goals omega
/-- The reference's table: how many bytes come, and between which bounds the first of them lies. -/
def leadOf (c : Nat) : Option (Nat × Nat × Nat) :=
  if c < 194 then none
  else if c ≤ 223 then some (1, 128, 191)
  else if c ≤ 239 then some (2, if c = 224 then 160 else 128, if c = 237 then 159 else 191)
  else if c ≤ 244 then some (3, if c = 240 then 144 else 128, if c = 244 then 143 else 191)
  else none
def leadOk (c : Nat) : Bool := match leadOf c with
  | none => decide (firstT c % 8 ≠ 2 ∧ firstT c % 8 ≠ 3 ∧ firstT c % 8 ≠ 4)
  | some (m, lo, hi) => decide (firstT c % 8 = m + 1 ∧ accLo (firstT c / 16) = lo ∧ accHi (firstT c / 16) = hi)
theorem lead_tab : ∀ c : Fin 256, 128 ≤ c.val → leadOk c.val = true := by decide +kernel
theorem validD_none (l : List UInt8) (hne : l ≠ []) (h0 : 128 ≤ (l.getD 0 0).toNat) (h : leadOf (l.getD 0 0).toNat = none) : validD l = false := by
  have ht := lead_tab ⟨(l.getD 0 0).toNat, (l.getD 0 0).toNat_lt⟩ h0
  simp only [leadOk, h, decide_eq_true_eq] at ht
  rw [validD_lead l hne h0]
  unfold checkN
  rw [if_neg ht.1, if_neg ht.2.1, if_neg ht.2.2]
theorem validD_some (l : List UInt8) (hne : l ≠ []) (h0 : 128 ≤ (l.getD 0 0).toNat) {m lo hi : Nat} (h : leadOf (l.getD 0 0).toNat = some (m, lo, hi)) :
    validD l = match checkN l.length (l.getD 1 0).toNat (l.getD 2 0).toNat (l.getD 3 0).toNat (m + 1) lo hi with
      | none => false
      | some k => validD (l.drop k) := by
  have ht := lead_tab ⟨(l.getD 0 0).toNat, (l.getD 0 0).toNat_lt⟩ h0
  simp only [leadOk, h, decide_eq_true_eq] at ht
  rw [validD_lead l hne h0, ht.1, ht.2.1, ht.2.2]
  rfl
theorem lead_many {c m lo hi : Nat} (h : leadOf c = some (m, lo, hi)) : m = 1 ∨ m = 2 ∨ m = 3 := by
  unfold leadOf at h
  repeat' split at h
  all_goals simp at h
  all_goals omega
theorem validD_short (l : List UInt8) (hne : l ≠ []) (h0 : 128 ≤ (l.getD 0 0).toNat) {m lo hi : Nat} (h : leadOf (l.getD 0 0).toNat = some (m, lo, hi)) (hs : l.length < m + 1) : validD l = false := by
  rw [validD_some l hne h0 h, check_short _ _ _ _ _ _ _ hs]
theorem validD_bad (l : List UInt8) (hne : l ≠ []) (h0 : 128 ≤ (l.getD 0 0).toNat) {m lo hi : Nat} (h : leadOf (l.getD 0 0).toNat = some (m, lo, hi)) (k : Nat) (h1 : 1 ≤ k) (hk : k ≤ m) (hb : ¬ okAt l lo hi k) : validD l = false := by
  rw [validD_some l hne h0 h, check_bad l _ m lo hi k (lead_many h) h1 hk hb]
theorem validD_ok (l : List UInt8) (hne : l ≠ []) (h0 : 128 ≤ (l.getD 0 0).toNat) {m lo hi : Nat} (h : leadOf (l.getD 0 0).toNat = some (m, lo, hi)) (hs : m + 1 ≤ l.length) (hb : ∀ k, 1 ≤ k → k ≤ m → okAt l lo hi k) : validD l = validD (l.drop (m + 1)) := by
  rw [validD_some l hne h0 h, check_ok l _ m lo hi (lead_many h) hs hb]
/-- One class of first bytes: what the reference does there. -/
structure Cls (l : List UInt8) (m lo hi : Nat) : Prop where
  le : m ≤ 3
  short : l.length < m + 1 → validD l = false
  bad : ∀ k, 1 ≤ k → k ≤ m → ¬ okAt l lo hi k → validD l = false
  ok : m + 1 ≤ l.length → (∀ k, 1 ≤ k → k ≤ m → okAt l lo hi k) → validD l = validD (l.drop (m + 1))
theorem Cls.of {l : List UInt8} {c m lo hi : Nat} (hne : l ≠ []) (hc : (l.getD 0 0).toNat = c) (h0 : 128 ≤ c) (h : leadOf c = some (m, lo, hi)) : Cls l m lo hi := by
  subst hc
  exact ⟨by have := lead_many h; omega, validD_short l hne h0 h, validD_bad l hne h0 h, validD_ok l hne h0 h⟩
theorem Cls.ascii {l : List UInt8} {c : Nat} (hne : l ≠ []) (hc : (l.getD 0 0).toNat = c) (h0 : c < 128) : Cls l 0 128 191 := by
  subst hc
  match l, hne with
  | b :: r, _ =>
    exact ⟨by omega, fun h => by simp at h, fun k h1 h2 => by omega, fun _ _ => validD_cons b r (by simpa using h0)⟩
theorem validD_wrong {l : List UInt8} {c : Nat} (hne : l ≠ []) (hc : (l.getD 0 0).toNat = c) (h0 : 128 ≤ c) (h : leadOf c = none) : validD l = false := by
  subst hc; exact validD_none l hne h0 h
/-- The low bound at byte j of the rune; the high one. -/
def lowAt (lo j : Nat) : Nat := if j = 1 then lo else 128
def highAt (hi j : Nat) : Nat := if j = 1 then hi else 191
theorem okAt_at {l : List UInt8} {lo hi d k : Nat} (h : (l.getD k 0).toNat = d) : okAt l lo hi k ↔ lowAt lo k ≤ d ∧ d ≤ highAt hi k := by unfold okAt lowAt highAt; subst h; rfl
end Go.Proofs.YtcodhhabfacnjaaGreatDoor
/- Contracts of the library laid at this program, in plain words (written by the kit's lay-plain.mjs). -/
namespace Go.Proofs
open Go.Shelf
def laysAI_ren : Go.Shelf.Ren := ⟨fun | 176 => 33 | 249 => 58 | 288 => 78 | 283 => 89 | 284 => 90 | 285 => 91 | 286 => 92 | 129 => 102 | 317 => 101 | 318 => 103 | 319 => 104 | 320 => 105 | 337 => 108 | 338 => 109 | n => n, fun | 37 => 78 | 2 => 2 | 3 => 3 | 53 => 89 | 4 => 4 | 9 => 9 | 171 => 138 | 0 => 0 | 173 => 141 | 212 => 157 | 51 => 158 | 5 => 5 | 20 => 20 | 213 => 159 | 46 => 127 | 232 => 164 | 233 => 165 | n => n, fun | 17 => 4 | 18 => 6 | 19 => 7 | n => n⟩
theorem laysAI : Go.Proofs.LaysM.n176 Tryz.prog laysAI_ren := {
  mixed := by kernel_rfl
  f129 := Tryz.func102.trans (congrArg some (by kernel_rfl))
  f176 := Tryz.func33.trans (congrArg some (by kernel_rfl))
  f249 := Tryz.func58.trans (congrArg some (by kernel_rfl))
  f283 := Tryz.func89.trans (congrArg some (by kernel_rfl))
  f284 := Tryz.func90.trans (congrArg some (by kernel_rfl))
  f285 := Tryz.func91.trans (congrArg some (by kernel_rfl))
  f286 := Tryz.func92.trans (congrArg some (by kernel_rfl))
  f288 := Tryz.func78.trans (congrArg some (by kernel_rfl))
  f317 := Tryz.func101.trans (congrArg some (by kernel_rfl))
  f318 := Tryz.func103.trans (congrArg some (by kernel_rfl))
  f319 := Tryz.func104.trans (congrArg some (by kernel_rfl))
  f320 := Tryz.func105.trans (congrArg some (by kernel_rfl))
  f337 := Tryz.func108.trans (congrArg some (by kernel_rfl))
  f338 := Tryz.func109.trans (congrArg some (by kernel_rfl))
  t0 := Tryz.underlying0
  a0 := Tryz.isAgg0
  z0 := Tryz.sizeOf0
  v0 := Tryz.zeroValue0
  t2 := Tryz.underlying2
  a2 := Tryz.isAgg2
  z2 := Tryz.sizeOf2
  v2 := Tryz.zeroValue2
  t3 := Tryz.underlying3
  a3 := Tryz.isAgg3
  z3 := Tryz.sizeOf3
  v3 := Tryz.zeroValue3
  t4 := Tryz.underlying4
  a4 := Tryz.isAgg4
  z4 := Tryz.sizeOf4
  v4 := Tryz.zeroValue4
  t5 := Tryz.underlying5
  a5 := Tryz.isAgg5
  z5 := Tryz.sizeOf5
  v5 := Tryz.zeroValue5
  t9 := Tryz.underlying9
  a9 := Tryz.isAgg9
  z9 := Tryz.sizeOf9
  v9 := Tryz.zeroValue9
  t20 := Tryz.underlying20
  a20 := Tryz.isAgg20
  z20 := Tryz.sizeOf20
  v20 := Tryz.zeroValue20
  t37 := Tryz.underlying78
  a37 := Tryz.isAgg78
  z37 := Tryz.sizeOf78
  v37 := Tryz.zeroValue78
  t46 := Tryz.underlying127
  a46 := Tryz.isAgg127
  z46 := Tryz.sizeOf127
  v46 := Tryz.zeroValue127
  t51 := Tryz.underlying158
  a51 := Tryz.isAgg158
  z51 := Tryz.sizeOf158
  v51 := Tryz.zeroValue158
  t53 := Tryz.underlying89
  a53 := Tryz.isAgg89
  z53 := Tryz.sizeOf89
  v53 := Tryz.zeroValue89
  t171 := Tryz.underlying138
  a171 := Tryz.isAgg138
  z171 := Tryz.sizeOf138
  v171 := Tryz.zeroValue138
  t173 := Tryz.underlying141
  a173 := Tryz.isAgg141
  z173 := Tryz.sizeOf141
  v173 := Tryz.zeroValue141
  t212 := Tryz.underlying157
  a212 := Tryz.isAgg157
  z212 := Tryz.sizeOf157
  v212 := Tryz.zeroValue157
  t213 := Tryz.underlying159
  a213 := Tryz.isAgg159
  z213 := Tryz.sizeOf159
  t232 := Tryz.underlying164
  a232 := Tryz.isAgg164
  z232 := Tryz.sizeOf164
  v232 := Tryz.zeroValue164
  t233 := Tryz.underlying165
  a233 := Tryz.isAgg165
  z233 := Tryz.sizeOf165
  v233 := Tryz.zeroValue165
  g17 := by kernel_rfl
  g18 := by kernel_rfl
  g19 := by kernel_rfl
  i0 := by kernel_rfl
  i2 := by kernel_rfl
  i3 := by kernel_rfl
  i4 := by kernel_rfl
  i5 := by kernel_rfl
  i9 := by kernel_rfl
  i20 := by kernel_rfl
  i37 := by kernel_rfl
  i46 := by kernel_rfl
  i51 := by kernel_rfl
  i53 := by kernel_rfl
  i171 := by kernel_rfl
  i173 := by kernel_rfl
  i212 := by kernel_rfl
  i232 := by kernel_rfl
  i233 := by kernel_rfl
  m17 := by kernel_rfl
  m18 := by kernel_rfl
  m19 := by kernel_rfl }
end Go.Proofs
