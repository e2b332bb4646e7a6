/- Of the proof of a statement: PlJp. -/
import Derived.Lib.AtoiAll
import Derived.Lib.AtoiAllCases
import Derived.Lib.Small
import Derived.Test.YtcodhhabfacnjaaGreatDoorSQuoteA
set_option linter.unusedVariables false
set_option linter.unusedSimpArgs false
/- What the program's reader of JSON gives: plain. -/
namespace Go.Proofs.YtcodhhabfacnjaaGreatDoor
open Go.Lib (hasPrefix trimPrefix itoa atoiAll atoiSat decDigits)
def BA (l : List UInt8) : ByteArray := ⟨l.toArray⟩
theorem BA_data (s : ByteArray) : BA s.data.toList = s := rfl
theorem BA_list (l : List UInt8) : (BA l).data.toList = l := rfl
theorem BA_size (l : List UInt8) : (BA l).size = l.length := by show l.toArray.size = l.length; simp
theorem data_len (s : ByteArray) : s.data.toList.length = s.size := by rw [Array.length_toList]; rfl
theorem cut_list (s : ByteArray) (k : Nat) : (s.extract k s.size).data.toList = s.data.toList.drop k := by
  rw [ByteArray.data_extract, Array.toList_extract, List.extract_eq_take_drop, List.take_of_length_le]
  rw [List.length_drop, data_len]
  exact Nat.le_refl _
theorem cut_BA (l : List UInt8) (k : Nat) : (BA l).extract k (BA l).size = BA (l.drop k) := by
  have h := cut_list (BA l) k
  rw [BA_list] at h
  rw [← BA_data ((BA l).extract k (BA l).size), h]
/-- A reader: what is left, and whether something was wrong. -/
abbrev JS := List UInt8 × Bool
def mustJ (p : List UInt8) (σ : JS) : JS := if σ.2 then (σ.1, true) else (trimPrefix σ.1 p, !hasPrefix σ.1 p)
def numC (c : UInt8) : Bool := c == 45 || (decide (48 ≤ c) && decide (c ≤ 57))
def numEnd (σ : JS) : Int × JS := match atoiAll (σ.1.takeWhile numC) with
  | .ok v => (v, σ.1.dropWhile numC, σ.2)
  | .range => (atoiSat (σ.1.takeWhile numC), σ.1.dropWhile numC, true)
  | _ => (0, σ.1.dropWhile numC, true)
def hexV (c : UInt8) : Option Nat := if 48 ≤ c.toNat ∧ c.toNat ≤ 57 then some (c.toNat - 48) else if 97 ≤ c.toNat ∧ c.toNat ≤ 102 then some (c.toNat - 87) else if 65 ≤ c.toNat ∧ c.toNat ≤ 70 then some (c.toNat - 55) else none
/-- Two hexadecimal digits. -/
def hex2 (l : List UInt8) : Option UInt8 := match l with
  | a :: b :: _ => (hexV a).bind fun x => (hexV b).map fun y => UInt8.ofNat (16 * x + y)
  | _ => none
/-- One round of a text: what was read, what is left, and whether it is wrong. -/
def txStep (acc l : List UInt8) : List UInt8 × JS :=
  if l = [] then (acc, [], true)
  else if hasPrefix l [92, 117, 48, 48] then
    (if (l.drop 4).length < 2 then (acc, l.drop 4, true)
     else match hex2 (l.drop 4) with
      | some b => (acc ++ [b], l.drop 6, false)
      | none => (acc ++ [0], l.drop 6, true))
  else if hasPrefix l [92] then (match l.drop 1 with
    | [] => (acc, [], true)
    | d :: r => (acc ++ [d], r, false))
  else (acc ++ l.take 1, l.drop 1, false)
def txRun : Nat → List UInt8 × JS → List UInt8 × JS
  | 0, a => (a.1, a.2.1, true)
  | n + 1, a => if a.2.2 then (a.1, a.2.1, true) else if hasPrefix a.2.1 [34] then (a.1, a.2.1.drop 1, false) else txRun n (txStep a.1 a.2.1)
def textJ (σ : JS) : List UInt8 × JS := txRun ((mustJ [34] σ).1.length + 1) ([], mustJ [34] σ)
def fvJ (v : FV) (σ : JS) : FV × JS := match v with
  | .num _ => (.num (numEnd σ).1, (numEnd σ).2)
  | .txt _ => (.txt ⟨(textJ σ).1.toArray⟩, (textJ σ).2)
abbrev Flds := List (ByteArray × FV)
def fldJ (a : Flds × JS) (f : ByteArray × FV) : Flds × JS :=
  (a.1 ++ [(f.1, (fvJ f.2 (mustJ (quoteL f.1.data.toList ++ [58]) (if a.1 = [] then a.2 else mustJ [44] a.2))).1)], (fvJ f.2 (mustJ (quoteL f.1.data.toList ++ [58]) (if a.1 = [] then a.2 else mustJ [44] a.2))).2)
def fldsJ (fs : Flds) (σ : JS) : Flds × JS := fs.foldl fldJ ([], mustJ [123] σ)
def objJ (fs : Flds) (σ : JS) : Flds × JS := ((fldsJ fs σ).1, mustJ [125] (fldsJ fs σ).2)
def elRun (fs : Flds) : Nat → List Flds × JS → List Flds × JS
  | 0, a => (a.1, a.2.1, true)
  | n + 1, a => if a.2.2 then (a.1, a.2.1, true) else if hasPrefix a.2.1 [93] then (a.1, a.2.1.drop 1, false)
    else elRun fs n (a.1 ++ [(objJ fs (if a.1 = [] then a.2 else mustJ [44] a.2)).1], (objJ fs (if a.1 = [] then a.2 else mustJ [44] a.2)).2)
def elsJ (name : ByteArray) (fs : Flds) (σ : JS) : List Flds × JS := elRun fs ((mustJ ([44] ++ quoteL name.data.toList ++ [58, 91]) σ).1.length + 1) ([], mustJ ([44] ++ quoteL name.data.toList ++ [58, 91]) σ)
def jobZ : Flds := jobFs ⟨⟨#[]⟩, 0, 0, 0, ⟨#[]⟩⟩
def nodeZ : Flds := nodeFs ⟨⟨#[]⟩, 0, ⟨#[]⟩⟩
def leaseZ : Flds := leaseFs ⟨⟨#[]⟩, ⟨#[]⟩, 0⟩
def fTxt (f : ByteArray × FV) : ByteArray := match f.2 with | .txt s => s | .num _ => ⟨#[]⟩
def fNum (f : ByteArray × FV) : Int := match f.2 with | .num n => n | .txt _ => 0
def fAt (l : Flds) (i : Nat) : ByteArray × FV := l.getD i (⟨#[]⟩, .num 0)
def jobOfF (l : Flds) : JobD := ⟨fTxt (fAt l 0), fNum (fAt l 1), fNum (fAt l 2), fNum (fAt l 3), fTxt (fAt l 4)⟩
def nodeOfF (l : Flds) : NodeD := ⟨fTxt (fAt l 0), fNum (fAt l 1), fTxt (fAt l 2)⟩
def leaseOfF (l : Flds) : LeaseD := ⟨fTxt (fAt l 0), fTxt (fAt l 1), fNum (fAt l 2)⟩
def jnJobs : ByteArray := ⟨#[106, 111, 98, 115]⟩
def jnNodes : ByteArray := ⟨#[110, 111, 100, 101, 115]⟩
def jnLeases : ByteArray := ⟨#[108, 101, 97, 115, 101, 115]⟩
/-- The whole text: the state, and how the reader ends. -/
def parseS (t : List UInt8) : StateD × JS :=
  let n := numEnd (mustJ [123, 34, 114, 101, 118, 34, 58] (t, false))
  let j := elsJ jnJobs jobZ n.2
  let o := elsJ jnNodes nodeZ j.2
  let l := elsJ jnLeases leaseZ o.2
  (⟨n.1, j.1.map jobOfF, o.1.map nodeOfF, l.1.map leaseOfF⟩, mustJ [125] l.2)
/-! What is printed is read. -/
theorem must_pre (p r : List UInt8) : mustJ p (p ++ r, false) = (r, false) := by
  unfold mustJ trimPrefix hasPrefix
  simp
theorem hasPrefix_app (p r : List UInt8) : hasPrefix (p ++ r) p = true := by unfold hasPrefix; simp
theorem hex_back : ∀ c : Fin 32, hex2 ([hexB (c.val / 16), hexB (c.val % 16)]) = some (UInt8.ofNat c.val) := by decide +kernel
theorem hex2_app (a b : UInt8) (r : List UInt8) : hex2 (a :: b :: r) = hex2 [a, b] := rfl
theorem txStep_quote (acc : List UInt8) (c : UInt8) (r : List UInt8) : hasPrefix (quoteB c ++ r) [34] = false ∧ txStep acc (quoteB c ++ r) = (acc ++ [c], r, false) := by
  by_cases h1 : c.toNat = 34 ∨ c.toNat = 92
  · have hc : c ≠ 117 := by rintro rfl; revert h1; decide
    rw [quoteB_esc h1]
    refine ⟨by simp [hasPrefix, List.isPrefixOf], ?_⟩
    unfold txStep
    rw [if_neg (by simp), if_neg (by simp [hasPrefix, List.isPrefixOf, Ne.symm hc]), if_pos (by simp [hasPrefix, List.isPrefixOf])]
    rfl
  · by_cases h2 : c.toNat < 32
    · rw [quoteB_low h2]
      refine ⟨by simp [hasPrefix, List.isPrefixOf], ?_⟩
      unfold txStep
      rw [if_neg (by simp), if_pos (by simp [hasPrefix, List.isPrefixOf])]
      have hb := hex_back ⟨c.toNat, h2⟩
      simp only at hb
      simp only [List.cons_append, List.nil_append, List.drop_succ_cons, List.drop_zero, List.length_cons]
      rw [if_neg (by omega), hex2_app, hb]
      simp
    · have h3 : c.toNat ≠ 34 := fun h => h1 (.inl h)
      have h4 : c.toNat ≠ 92 := fun h => h1 (.inr h)
      have e3 : ¬ (34 : UInt8) = c := by rintro rfl; exact h3 rfl
      have e4 : ¬ (92 : UInt8) = c := by rintro rfl; exact h4 rfl
      rw [quoteB_plain h3 h4 h2]
      refine ⟨by simp [hasPrefix, List.isPrefixOf, e3], ?_⟩
      unfold txStep
      rw [if_neg (by simp), if_neg (by simp [hasPrefix, List.isPrefixOf, e4]), if_neg (by simp [hasPrefix, List.isPrefixOf, e4])]
      rfl
theorem quoteB_pos (c : UInt8) : 1 ≤ (quoteB c).length := by unfold quoteB; split <;> (try split) <;> simp
theorem txRun_quote : ∀ (s : List UInt8) (n : Nat) (acc r : List UInt8), (s.flatMap quoteB ++ 34 :: r).length < n → txRun n (acc, s.flatMap quoteB ++ 34 :: r, false) = (acc ++ s, r, false)
  | [], n, acc, r, h => by
    obtain ⟨m, rfl⟩ : ∃ m, n = m + 1 := ⟨n - 1, by omega⟩
    simp [txRun, hasPrefix, List.isPrefixOf]
  | c :: s, n, acc, r, h => by
    obtain ⟨m, rfl⟩ : ∃ m, n = m + 1 := ⟨n - 1, by omega⟩
    have hq := txStep_quote acc c (s.flatMap quoteB ++ 34 :: r)
    have hp := quoteB_pos c
    rw [List.flatMap_cons, List.append_assoc] at h ⊢
    rw [txRun]
    simp only
    rw [if_neg (by simp), hq.1, if_neg (by simp), hq.2, txRun_quote s m (acc ++ [c]) r (by rw [List.length_append] at h; omega)]
    simp
theorem text_quote (s r : List UInt8) : textJ (quoteL s ++ r, false) = (s, r, false) := by
  have e : mustJ [34] (quoteL s ++ r, false) = (s.flatMap quoteB ++ 34 :: r, false) := by
    have e1 : quoteL s ++ r = [34] ++ (s.flatMap quoteB ++ 34 :: r) := by simp [quoteL, quoteP]
    rw [e1, must_pre]
  unfold textJ
  rw [e, txRun_quote s _ [] r (Nat.lt_succ_self _)]
  rfl
/-! Numbers. -/
theorem digC {d : Nat} (h : d < 10) : (UInt8.ofNat (48 + d)).toNat = 48 + d := by rw [UInt8.toNat_ofNat']; omega
theorem decDigits_cut (u : Nat) : decDigits u = if u < 10 then [UInt8.ofNat (48 + u)] else decDigits (u / 10) ++ [UInt8.ofNat (48 + u % 10)] := by
  rw [decDigits]
  split <;> rfl
theorem dec_digit (u : Nat) : ∀ c ∈ decDigits u, 48 ≤ c.toNat ∧ c.toNat ≤ 57 := by
  induction u using Nat.strongRecOn with
  | ind u ih =>
    intro c hc
    rw [decDigits_cut] at hc
    split at hc
    · rw [List.mem_singleton] at hc; subst hc; rw [digC (by omega)]; omega
    · rw [List.mem_append, List.mem_singleton] at hc
      rcases hc with hc | rfl
      · exact ih (u / 10) (by omega) c hc
      · rw [digC (by omega)]; omega
theorem dec_ne (u : Nat) : decDigits u ≠ [] := by
  rw [decDigits_cut]
  split <;> simp
open Go.Lib (parseUint10 parseMag) in
theorem parse_app : ∀ (l : List UInt8) (a v d : Nat), d < 10 → parseUint10 a l = .ok v → v < 1000000000000000000 → parseUint10 a (l ++ [UInt8.ofNat (48 + d)]) = .ok (v * 10 + d)
  | [], a, v, d, hd, h, hv => by
    simp only [parseUint10] at h
    injection h with h; subst h
    simp only [List.nil_append, parseUint10, digC hd]
    rw [if_pos (by omega), if_neg (by omega), if_neg (by omega)]
    simp
  | c :: r, a, v, d, hd, h, hv => by
    simp only [List.cons_append, parseUint10] at h ⊢
    split at h
    · rename_i h1
      split at h
      · cases h
      · rename_i h2
        split at h
        · cases h
        · rename_i h3
          rw [if_pos h1, if_neg h2, if_neg h3]
          exact parse_app r _ v d hd h hv
    · cases h
open Go.Lib (parseUint10 parseMag) in
theorem parse_dec (u : Nat) (hu : u < 1000000000000000000) : parseUint10 0 (decDigits u) = .ok u := by
  induction u using Nat.strongRecOn with
  | ind u ih =>
    rw [decDigits_cut]
    split
    · rename_i h
      simp only [parseUint10, digC h]
      rw [if_pos (by omega), if_neg (by omega), if_neg (by omega)]
      simp
    · rename_i h
      rw [parse_app _ 0 (u / 10) (u % 10) (by omega) (ih (u / 10) (by omega) (by omega)) (by omega)]
      congr 1; omega
theorem atoi_itoa (n : Int) (h0 : -1000000000000000000 < n) (h1 : n < 1000000000000000000) : atoiAll (itoa n) = .ok n := by
  unfold itoa
  split
  · rename_i hn
    rw [Go.Lib.atoiAll_minus, Go.Lib.parseMag, if_neg (dec_ne _), parse_dec _ (by omega)]
    simp only [Go.Lib.signed]
    rw [if_neg (by omega)]
    congr 1; omega
  · rename_i hn
    obtain ⟨c, r, hcr⟩ := List.exists_cons_of_ne_nil (dec_ne n.toNat)
    have hc := dec_digit n.toNat c (by rw [hcr]; simp)
    have hp := parse_dec n.toNat (by omega)
    rw [hcr] at hp ⊢
    rw [Go.Lib.atoiAll_plain c r (by omega) (by omega), Go.Lib.parseMag, if_neg (by simp), hp]
    simp only [Go.Lib.signless]
    rw [if_neg (by omega)]
    congr 1; omega
theorem numC_dig {c : UInt8} (h : 48 ≤ c.toNat ∧ c.toNat ≤ 57) : numC c = true := by
  unfold numC
  have h1 : (48 : UInt8) ≤ c := UInt8.le_iff_toNat_le.2 h.1
  have h2 : c ≤ 57 := UInt8.le_iff_toNat_le.2 h.2
  simp [h1, h2]
theorem itoa_numC (n : Int) : ∀ c ∈ itoa n, numC c = true := by
  intro c hc
  unfold itoa at hc
  split at hc
  · rcases List.mem_cons.1 hc with rfl | hc
    · rfl
    · exact numC_dig (dec_digit _ c hc)
  · exact numC_dig (dec_digit _ c hc)
theorem takeWhile_app {p : UInt8 → Bool} : ∀ (a : List UInt8) (c : UInt8) (r : List UInt8), (∀ x ∈ a, p x = true) → p c = false → (a ++ c :: r).takeWhile p = a ∧ (a ++ c :: r).dropWhile p = c :: r
  | [], c, r, _, hc => by simp [List.takeWhile_cons, List.dropWhile_cons, hc]
  | x :: a, c, r, h, hc => by
    have ih := takeWhile_app a c r (fun y hy => h y (List.mem_cons_of_mem _ hy)) hc
    have hx := h x (List.mem_cons_self)
    simp [List.takeWhile_cons, List.dropWhile_cons, hx, ih.1, ih.2]
theorem num_itoa (n : Int) (h0 : -1000000000000000000 < n) (h1 : n < 1000000000000000000) (c : UInt8) (r : List UInt8) (hc : numC c = false) : numEnd (itoa n ++ c :: r, false) = (n, c :: r, false) := by
  obtain ⟨e1, e2⟩ := takeWhile_app (itoa n) c r (itoa_numC n) hc
  unfold numEnd
  simp only [e1, e2, atoi_itoa n h0 h1]
theorem takeWhile_at {p : UInt8 → Bool} : ∀ (l : List UInt8) (k : Nat), k ≤ l.length → (∀ i, i < k → ∀ c, l[i]? = some c → p c = true) → (∀ c, l[k]? = some c → p c = false) → l.takeWhile p = l.take k ∧ l.dropWhile p = l.drop k
  | [], k, hk, _, _ => by simp
  | x :: l, 0, hk, h1, h2 => by
    have := h2 x rfl
    simp [List.takeWhile_cons, List.dropWhile_cons, this]
  | x :: l, k + 1, hk, h1, h2 => by
    have h := h1 0 (by omega) x rfl
    have ih := takeWhile_at l k (by simpa using hk) (fun i hi c hc => h1 (i + 1) (by omega) c hc) (fun c hc => h2 c hc)
    simp [List.takeWhile_cons, List.dropWhile_cons, h, ih.1, ih.2]
/-! Objects. -/
def Mid (v : FV) : Prop := match v with
  | .num n => -1000000000000000000 < n ∧ n < 1000000000000000000
  | .txt _ => True
def kindOf : FV → Bool
  | .num _ => true
  | .txt _ => false
theorem fv_back (v z : FV) (hk : kindOf v = kindOf z) (hv : Mid v) (c : UInt8) (r : List UInt8) (hc : numC c = false) : fvJ z (fvL v ++ c :: r, false) = (v, c :: r, false) := by
  cases v with
  | num n =>
    cases z with
    | txt s => cases hk
    | num m =>
      have := num_itoa n hv.1 hv.2 c r hc
      simp only [fvJ, fvL, this]
  | txt s =>
    cases z with
    | num m => cases hk
    | txt q =>
      have := text_quote s.data.toList (c :: r)
      simp only [fvJ, fvL, this]
theorem fld_back (a : Flds) (nm : ByteArray) (v z : FV) (hk : kindOf v = kindOf z) (hv : Mid v) (c : UInt8) (r : List UInt8) (hc : numC c = false) :
    fldJ (a, (if a = [] then [] else [44]) ++ fieldL (nm, v) ++ c :: r, false) (nm, z) = (a ++ [(nm, v)], c :: r, false) := by
  have e : (if a = [] then ((if a = [] then [] else [44]) ++ fieldL (nm, v) ++ c :: r, false) else mustJ [44] ((if a = [] then [] else [44]) ++ fieldL (nm, v) ++ c :: r, false)) = ((fieldL (nm, v) ++ c :: r, false) : JS) := by
    split
    · simp
    · rw [List.append_assoc, must_pre]
  unfold fldJ
  simp only
  rw [e, show fieldL (nm, v) ++ c :: r = (quoteL nm.data.toList ++ [58]) ++ (fvL v ++ c :: r) by simp [fieldL], must_pre, fv_back v z hk hv c r hc]
/-- The rest of an object, from the k-th field on. -/
def restL (first : Bool) : Flds → List UInt8
  | [] => []
  | f :: l => (if first then [] else [44]) ++ fieldL f ++ restL false l
theorem restL_comma : ∀ l : Flds, restL false l = (l.map fieldL).flatMap fun y => 44 :: y
  | [] => rfl
  | f :: l => by simp [restL, restL_comma l]
theorem restL_first (l : Flds) : restL true l = commaL (l.map fieldL) := by
  cases l with
  | nil => rfl
  | cons f l => simp [restL, restL_comma, commaL]
theorem rest_head (l : Flds) (r : List UInt8) : ∃ c q, restL false l ++ 125 :: r = c :: q ∧ numC c = false := by
  cases l with
  | nil => exact ⟨125, r, rfl, rfl⟩
  | cons f l => exact ⟨44, _, rfl, rfl⟩
theorem flds_back : ∀ (zs : Flds) (a : Flds) (fs : Flds) (r : List UInt8), fs.length = zs.length → (∀ (i : Nat) (f z : ByteArray × FV), fs[i]? = some f → zs[i]? = some z → f.1 = z.1 ∧ kindOf f.2 = kindOf z.2 ∧ Mid f.2) →
    zs.foldl fldJ (a, restL a.isEmpty fs ++ 125 :: r, false) = (a ++ fs, 125 :: r, false)
  | [], a, fs, r, hl, _ => by
    have : fs = [] := List.length_eq_zero_iff.1 hl
    subst this
    simp [restL]
  | (nm, z) :: zs, a, fs, r, hl, h => by
    obtain ⟨⟨nm', v⟩, fs', rfl⟩ : ∃ f fs', fs = f :: fs' := by
      cases fs with
      | nil => cases hl
      | cons f fs' => exact ⟨f, fs', rfl⟩
    obtain ⟨h1, h2, h3⟩ := h 0 _ _ rfl rfl
    simp only at h1 h2 h3
    subst h1
    obtain ⟨c, q, hcq, hc⟩ := rest_head fs' r
    rw [List.foldl_cons]
    have e : restL a.isEmpty ((nm', v) :: fs') ++ 125 :: r = (if a = [] then [] else [44]) ++ fieldL (nm', v) ++ c :: q := by
      rw [← hcq, restL]
      cases a <;> simp
    rw [e, fld_back a nm' v z h2 h3 c q hc, ← hcq]
    have ih := flds_back zs (a ++ [(nm', v)]) fs' r (by simpa using hl) (fun i f z hf hz => h (i + 1) f z hf hz)
    rw [show (a ++ [(nm', v)]).isEmpty = false by simp] at ih
    rw [ih]
    simp
theorem obj_back (zs fs : Flds) (r : List UInt8) (hl : fs.length = zs.length) (h : ∀ (i : Nat) (f z : ByteArray × FV), fs[i]? = some f → zs[i]? = some z → f.1 = z.1 ∧ kindOf f.2 = kindOf z.2 ∧ Mid f.2) : objJ zs (objL fs ++ r, false) = (fs, r, false) := by
  unfold objJ fldsJ
  rw [show objL fs ++ r = [123] ++ (restL true fs ++ 125 :: r) by simp [objL, restL_first], must_pre, show restL true fs = restL ([] : Flds).isEmpty fs from rfl, flds_back zs [] fs r hl h]
  simp only [List.nil_append]
  rw [show (125 :: r : List UInt8) = [125] ++ r from rfl, must_pre]
/-! Rows. -/
def restR (first : Bool) : List Flds → List UInt8
  | [] => []
  | f :: l => (if first then [] else [44]) ++ objL f ++ restR false l
theorem restR_comma : ∀ l : List Flds, restR false l = (l.map objL).flatMap fun y => 44 :: y
  | [] => rfl
  | f :: l => by simp [restR, restR_comma l]
theorem restR_first (l : List Flds) : restR true l = commaL (l.map objL) := by
  cases l with
  | nil => rfl
  | cons f l => simp [restR, restR_comma, commaL]
def FitsZ (zs fs : Flds) : Prop := fs.length = zs.length ∧ ∀ (i : Nat) (f z : ByteArray × FV), fs[i]? = some f → zs[i]? = some z → f.1 = z.1 ∧ kindOf f.2 = kindOf z.2 ∧ Mid f.2
theorem el_back (zs : Flds) : ∀ (l : List Flds) (n : Nat) (a : List Flds) (r : List UInt8), (restR a.isEmpty l ++ 93 :: r).length < n → (∀ f ∈ l, FitsZ zs f) → elRun zs n (a, restR a.isEmpty l ++ 93 :: r, false) = (a ++ l, r, false)
  | [], n, a, r, h, _ => by
    obtain ⟨m, rfl⟩ : ∃ m, n = m + 1 := ⟨n - 1, by omega⟩
    simp [elRun, restR, hasPrefix, List.isPrefixOf]
  | f :: l, n, a, r, h, hf => by
    obtain ⟨m, rfl⟩ : ∃ m, n = m + 1 := ⟨n - 1, by omega⟩
    have hz := hf f (List.mem_cons_self)
    have hne : hasPrefix (restR a.isEmpty (f :: l) ++ 93 :: r) [93] = false := by
      cases a <;> simp [restR, objL, hasPrefix, List.isPrefixOf]
    have e : (if a = [] then (restR a.isEmpty (f :: l) ++ 93 :: r, false) else mustJ [44] (restR a.isEmpty (f :: l) ++ 93 :: r, false)) = ((objL f ++ (restR false l ++ 93 :: r), false) : JS) := by
      cases a with
      | nil => simp [restR]
      | cons x a =>
        rw [if_neg (by simp), show restR (x :: a).isEmpty (f :: l) ++ 93 :: r = [44] ++ (objL f ++ (restR false l ++ 93 :: r)) by simp [restR], must_pre]
    rw [elRun]
    simp only
    rw [if_neg (by simp), hne, if_neg (by simp), e, obj_back zs f _ hz.1 hz.2]
    have ih := el_back zs l m (a ++ [f]) r (by
      rw [show (a ++ [f]).isEmpty = false by simp]
      have hp : 1 ≤ (objL f).length := by simp [objL]
      simp only [restR, List.length_append, List.length_cons] at h ⊢
      omega) (fun g hg => hf g (List.mem_cons_of_mem _ hg))
    rw [show (a ++ [f]).isEmpty = false by simp] at ih
    simp only
    rw [ih]
    simp
theorem els_back (name : ByteArray) (zs : Flds) (l : List Flds) (r : List UInt8) (h : ∀ f ∈ l, FitsZ zs f) : elsJ name zs (arrL name (l.map objL) ++ r, false) = (l, r, false) := by
  have e : mustJ ([44] ++ quoteL name.data.toList ++ [58, 91]) (arrL name (l.map objL) ++ r, false) = (restR true l ++ 93 :: r, false) := by
    rw [show arrL name (l.map objL) ++ r = ([44] ++ quoteL name.data.toList ++ [58, 91]) ++ (restR true l ++ 93 :: r) by simp [arrL, restR_first], must_pre]
  unfold elsJ
  rw [e]
  have := el_back zs l ((restR true l ++ 93 :: r).length + 1) [] r (Nat.lt_succ_self _) h
  rw [show restR ([] : List Flds).isEmpty l = restR true l from rfl] at this
  exact this
/-- All numbers of the state are of some 18 digits at most. -/
structure MidS (st : StateD) : Prop where
  r : Mid (.num st.rev)
  j : ∀ x ∈ st.jobs, Mid (.num x.prio) ∧ Mid (.num x.need) ∧ Mid (.num x.tries)
  n : ∀ x ∈ st.nodes, Mid (.num x.room)
  l : ∀ x ∈ st.leases, Mid (.num x.till)
theorem fits5 {z1 z2 z3 z4 z5 f1 f2 f3 f4 f5 : ByteArray × FV} (h1 : f1.1 = z1.1 ∧ kindOf f1.2 = kindOf z1.2 ∧ Mid f1.2) (h2 : f2.1 = z2.1 ∧ kindOf f2.2 = kindOf z2.2 ∧ Mid f2.2) (h3 : f3.1 = z3.1 ∧ kindOf f3.2 = kindOf z3.2 ∧ Mid f3.2) (h4 : f4.1 = z4.1 ∧ kindOf f4.2 = kindOf z4.2 ∧ Mid f4.2) (h5 : f5.1 = z5.1 ∧ kindOf f5.2 = kindOf z5.2 ∧ Mid f5.2) : FitsZ [z1, z2, z3, z4, z5] [f1, f2, f3, f4, f5] := by
  refine ⟨rfl, fun i f z hf hz => ?_⟩
  match i with
  | 0 => injection hf with hf; injection hz with hz; subst hf; subst hz; exact h1
  | 1 => injection hf with hf; injection hz with hz; subst hf; subst hz; exact h2
  | 2 => injection hf with hf; injection hz with hz; subst hf; subst hz; exact h3
  | 3 => injection hf with hf; injection hz with hz; subst hf; subst hz; exact h4
  | 4 => injection hf with hf; injection hz with hz; subst hf; subst hz; exact h5
  | n + 5 => cases hf
theorem fits3 {z1 z2 z3 f1 f2 f3 : ByteArray × FV} (h1 : f1.1 = z1.1 ∧ kindOf f1.2 = kindOf z1.2 ∧ Mid f1.2) (h2 : f2.1 = z2.1 ∧ kindOf f2.2 = kindOf z2.2 ∧ Mid f2.2) (h3 : f3.1 = z3.1 ∧ kindOf f3.2 = kindOf z3.2 ∧ Mid f3.2) : FitsZ [z1, z2, z3] [f1, f2, f3] := by
  refine ⟨rfl, fun i f z hf hz => ?_⟩
  match i with
  | 0 => injection hf with hf; injection hz with hz; subst hf; subst hz; exact h1
  | 1 => injection hf with hf; injection hz with hz; subst hf; subst hz; exact h2
  | 2 => injection hf with hf; injection hz with hz; subst hf; subst hz; exact h3
  | n + 3 => cases hf
theorem map_id_of {α : Type} {f : α → Flds} {g : Flds → α} (h : ∀ x, g (f x) = x) (l : List α) : (l.map f).map g = l := by
  rw [List.map_map]
  exact (List.map_congr_left (fun x _ => h x)).trans (List.map_id l)
/-- WHAT IS PRINTED IS READ. -/
theorem parse_back (st : StateD) (h : MidS st) : parseS (printL st) = (st, [], false) := by
  have e : printL st = [123, 34, 114, 101, 118, 34, 58] ++ (itoa st.rev ++ (arrL jnJobs ((st.jobs.map jobFs).map objL) ++ (arrL jnNodes ((st.nodes.map nodeFs).map objL) ++ (arrL jnLeases ((st.leases.map leaseFs).map objL) ++ [125])))) := by
    simp [printL, jnJobs, jnNodes, jnLeases, List.map_map, Function.comp_def]
  obtain ⟨q, hq⟩ : ∃ q, arrL jnJobs ((st.jobs.map jobFs).map objL) ++ (arrL jnNodes ((st.nodes.map nodeFs).map objL) ++ (arrL jnLeases ((st.leases.map leaseFs).map objL) ++ [125])) = 44 :: q := ⟨_, rfl⟩
  have e1 := num_itoa st.rev h.r.1 h.r.2 44 q rfl
  rw [← hq] at e1
  unfold parseS
  simp only [e, must_pre, e1]
  rw [els_back jnJobs jobZ (st.jobs.map jobFs) _ (fun f hf => by
    obtain ⟨x, hx, rfl⟩ := List.mem_map.1 hf
    obtain ⟨h1, h2, h3⟩ := h.j x hx
    exact fits5 ⟨rfl, rfl, trivial⟩ ⟨rfl, rfl, h1⟩ ⟨rfl, rfl, h2⟩ ⟨rfl, rfl, h3⟩ ⟨rfl, rfl, trivial⟩)]
  simp only
  rw [els_back jnNodes nodeZ (st.nodes.map nodeFs) _ (fun f hf => by
    obtain ⟨x, hx, rfl⟩ := List.mem_map.1 hf
    exact fits3 ⟨rfl, rfl, trivial⟩ ⟨rfl, rfl, h.n x hx⟩ ⟨rfl, rfl, trivial⟩)]
  simp only
  rw [els_back jnLeases leaseZ (st.leases.map leaseFs) _ (fun f hf => by
    obtain ⟨x, hx, rfl⟩ := List.mem_map.1 hf
    exact fits3 ⟨rfl, rfl, trivial⟩ ⟨rfl, rfl, trivial⟩ ⟨rfl, rfl, h.l x hx⟩)]
  simp only
  have em : mustJ [125] ([125], false) = ([], false) := must_pre [125] []
  rw [em, map_id_of (fun x => rfl), map_id_of (fun x => rfl), map_id_of (fun x => rfl)]
/-! How long what is left is. -/
theorem trim_len (l p : List UInt8) : (trimPrefix l p).length ≤ l.length := by
  unfold trimPrefix; split
  · rw [List.length_drop]; omega
  · exact Nat.le_refl _
theorem trim_less {l p : List UInt8} (h : hasPrefix l p = true) (hp : 0 < p.length) : (trimPrefix l p).length < l.length := by
  unfold trimPrefix
  rw [if_pos h, List.length_drop]
  have : p.length ≤ l.length := (List.isPrefixOf_iff_prefix.1 h).length_le
  omega
theorem must_len (p : List UInt8) (σ : JS) : (mustJ p σ).1.length ≤ σ.1.length := by
  unfold mustJ; split
  · exact Nat.le_refl _
  · exact trim_len _ _
theorem must_less {p : List UInt8} {σ : JS} (h : (mustJ p σ).2 = false) (hp : 0 < p.length) : (mustJ p σ).1.length < σ.1.length := by
  unfold mustJ at h ⊢
  split
  · rename_i h1; rw [if_pos h1] at h; cases h
  · rename_i h1
    rw [if_neg h1] at h
    exact trim_less (by simpa using h) hp
theorem must_bad {p : List UInt8} {σ : JS} (h : σ.2 = true) : (mustJ p σ).2 = true := by unfold mustJ; rw [if_pos h]
theorem num_len (σ : JS) : (numEnd σ).2.1.length ≤ σ.1.length := by
  have : (σ.1.dropWhile numC).length ≤ σ.1.length := (List.dropWhile_suffix _).length_le
  unfold numEnd
  split <;> exact this
theorem num_bad {σ : JS} (h : σ.2 = true) : (numEnd σ).2.2 = true := by
  unfold numEnd
  split <;> simp [h]
theorem txStep_len {acc l : List UInt8} (hl : l ≠ []) : (txStep acc l).2.1.length < l.length := by
  have h0 : 0 < l.length := List.length_pos_iff.2 hl
  unfold txStep
  rw [if_neg hl]
  split
  · split
    · simp only [List.length_drop]; omega
    · split <;> (simp only [List.length_drop]; omega)
  · split
    · split
      · exact h0
      · rename_i d r hd
        have := congrArg List.length hd
        rw [List.length_drop, List.length_cons] at this
        simp only
        omega
    · simp only [List.length_drop]; omega
theorem txStep_nil (acc : List UInt8) : txStep acc [] = (acc, [], true) := by unfold txStep; rw [if_pos rfl]
theorem txRun_len : ∀ (n : Nat) (a : List UInt8 × JS), (txRun n a).2.1.length ≤ a.2.1.length
  | 0, a => Nat.le_refl _
  | n + 1, a => by
    rw [txRun]
    split
    · exact Nat.le_refl _
    · split
      · simp only [List.length_drop]; omega
      · refine Nat.le_trans (txRun_len n _) ?_
        by_cases hl : a.2.1 = []
        · rw [hl, txStep_nil]; exact Nat.le_refl _
        · exact Nat.le_of_lt (txStep_len hl)
theorem txRun_bad (n : Nat) {a : List UInt8 × JS} (h : a.2.2 = true) : txRun n a = (a.1, a.2.1, true) := by
  cases n with
  | zero => rfl
  | succ n => rw [txRun, if_pos h]
theorem text_len (σ : JS) : (textJ σ).2.1.length ≤ σ.1.length := by
  unfold textJ
  exact Nat.le_trans (txRun_len _ _) (must_len _ _)
theorem text_bad {σ : JS} (h : σ.2 = true) : (textJ σ).2.2 = true := by
  unfold textJ
  rw [txRun_bad _ (must_bad h)]
theorem fv_len (v : FV) (σ : JS) : (fvJ v σ).2.1.length ≤ σ.1.length := by
  cases v with
  | num n => exact num_len σ
  | txt s => exact text_len σ
theorem fv_bad {v : FV} {σ : JS} (h : σ.2 = true) : (fvJ v σ).2.2 = true := by
  cases v with
  | num n => exact num_bad h
  | txt s => exact text_bad h
theorem fld_len (a : Flds × JS) (f : ByteArray × FV) : (fldJ a f).2.1.length ≤ a.2.1.length := by
  unfold fldJ
  refine Nat.le_trans (fv_len _ _) (Nat.le_trans (must_len _ _) ?_)
  split
  · exact Nat.le_refl _
  · exact must_len _ _
theorem fld_bad {a : Flds × JS} {f : ByteArray × FV} (h : a.2.2 = true) : (fldJ a f).2.2 = true := by
  unfold fldJ
  refine fv_bad (must_bad ?_)
  split
  · exact h
  · exact must_bad h
theorem flds_len : ∀ (fs : Flds) (a : Flds × JS), (fs.foldl fldJ a).2.1.length ≤ a.2.1.length ∧ (a.2.2 = true → (fs.foldl fldJ a).2.2 = true)
  | [], a => ⟨Nat.le_refl _, id⟩
  | f :: fs, a => by
    have h := flds_len fs (fldJ a f)
    exact ⟨Nat.le_trans h.1 (fld_len a f), fun hb => h.2 (fld_bad hb)⟩
theorem obj_less {fs : Flds} {σ : JS} (h : (objJ fs σ).2.2 = false) : (objJ fs σ).2.1.length < σ.1.length := by
  unfold objJ at h ⊢
  unfold fldsJ at h ⊢
  simp only at h ⊢
  have h1 := flds_len fs ([], mustJ [123] σ)
  have h2 := must_less h (by simp)
  have h3 : (mustJ [123] σ).1.length ≤ σ.1.length := must_len _ _
  have := h1.1
  simp only at this
  omega
theorem obj_len (fs : Flds) (σ : JS) : (objJ fs σ).2.1.length ≤ σ.1.length := by
  unfold objJ fldsJ
  have h1 := (flds_len fs ([], mustJ [123] σ)).1
  have h3 : (mustJ [123] σ).1.length ≤ σ.1.length := must_len _ _
  have h2 := must_len [125] (fs.foldl fldJ ([], mustJ [123] σ)).2
  simp only at *
  omega
theorem el_bad (fs : Flds) (n : Nat) {a : List Flds × JS} (h : a.2.2 = true) : elRun fs n a = (a.1, a.2.1, true) := by
  cases n with
  | zero => rfl
  | succ n => rw [elRun, if_pos h]
end Go.Proofs.YtcodhhabfacnjaaGreatDoor
