/- Of the proof of a statement: PlJr. -/
import Derived.Test.YtcodhhabfacnjaaGreatDoorSPlJp
set_option linter.unusedVariables false
set_option linter.unusedSimpArgs false
/- What the reference's reader of JSON gives: plain. -/
namespace Go.Proofs.YtcodhhabfacnjaaGreatDoor
open Go.Lib (hasPrefix trimPrefix itoa decDigits)
def hasR (p s : ByteArray) : Bool := hasPrefix s.data.toList p.data.toList
def skipS (p s : ByteArray) : ByteArray := if hasR p s then s.extract p.size s.size else s
def mustR (p s : ByteArray) : RR Unit := if hasR p s then .ok () (s.extract p.size s.size) else .bad 4
def commaR (i : Nat) (s : ByteArray) : RR Unit := if 0 < i then mustR ⟨#[44]⟩ s else .ok () s
def digC? (c : UInt8) : Bool := decide (48 ≤ c) && decide (c ≤ 57)
def valD (l : List UInt8) : Nat := l.foldl (fun n c => 10 * n + (c.toNat - 48)) 0
def digL (s : ByteArray) : List UInt8 := (s.data.toList.takeWhile digC?).take 18
def digR1 (sg : Int) (s : ByteArray) : RR Int := if digL s = [] then .bad 4 else .ok (sg * (valD (digL s) : Int)) (s.extract (digL s).length s.size)
def digR (s : ByteArray) : RR Int := if hasR ⟨#[45]⟩ s then digR1 (-1) (s.extract 1 s.size) else digR1 1 s
def lowR (l : List UInt8) : Option Nat := (List.range 32).find? fun c => hasPrefix l (quoteB (UInt8.ofNat c))
def qRun : Nat → ByteArray → ByteArray → RR ByteArray
  | 0, _, _ => .bad 4
  | n + 1, acc, s => if hasR ⟨#[34]⟩ s then .ok acc (s.extract 1 s.size)
    else if hasR ⟨#[92, 34]⟩ s then qRun n (acc ++ ⟨#[34]⟩) (s.extract 2 s.size)
    else if hasR ⟨#[92, 92]⟩ s then qRun n (acc ++ ⟨#[92]⟩) (s.extract 2 s.size)
    else match lowR s.data.toList with
      | some c => qRun n (acc ++ ⟨#[UInt8.ofNat c]⟩) (s.extract 6 s.size)
      | none => if s.data.toList = [] ∨ s.data.toList.head? = some 92 then .bad 4 else qRun n (acc ++ s.extract 0 1) (s.extract 1 s.size)
def quotR (s : ByteArray) : RR ByteArray := (mustR ⟨#[34]⟩ s).bind fun _ s => qRun (s.size + 1) ⟨#[]⟩ s
def untilR {α : Type} (p : ByteArray → RR α) : Nat → List α → ByteArray → RR (List α)
  | 0, _, _ => .bad 4
  | n + 1, acc, s => if hasR ⟨#[93]⟩ s then .ok acc (s.extract 1 s.size) else (commaR acc.length s).bind fun _ s => (p s).bind fun a s => untilR p n (acc ++ [a]) s
/-- {"name": · ,"prio": · ,"need": · ,"tries": · ,"tag": -/
def kName : ByteArray := ⟨#[123, 34, 110, 97, 109, 101, 34, 58]⟩
def kPrio : ByteArray := ⟨#[44, 34, 112, 114, 105, 111, 34, 58]⟩
def kNeed : ByteArray := ⟨#[44, 34, 110, 101, 101, 100, 34, 58]⟩
def kTries : ByteArray := ⟨#[44, 34, 116, 114, 105, 101, 115, 34, 58]⟩
def kTag : ByteArray := ⟨#[44, 34, 116, 97, 103, 34, 58]⟩
def kRoom : ByteArray := ⟨#[44, 34, 114, 111, 111, 109, 34, 58]⟩
def kZone : ByteArray := ⟨#[44, 34, 122, 111, 110, 101, 34, 58]⟩
def kJob : ByteArray := ⟨#[123, 34, 106, 111, 98, 34, 58]⟩
def kNode : ByteArray := ⟨#[44, 34, 110, 111, 100, 101, 34, 58]⟩
def kTill : ByteArray := ⟨#[44, 34, 117, 110, 116, 105, 108, 34, 58]⟩
def kEnd : ByteArray := ⟨#[125]⟩
def kRev : ByteArray := ⟨#[123, 34, 114, 101, 118, 34, 58]⟩
def kJobs : ByteArray := ⟨#[44, 34, 106, 111, 98, 115, 34, 58, 91]⟩
def kNodes : ByteArray := ⟨#[44, 34, 110, 111, 100, 101, 115, 34, 58, 91]⟩
def kLeases : ByteArray := ⟨#[44, 34, 108, 101, 97, 115, 101, 115, 34, 58, 91]⟩
def jobR (s : ByteArray) : RR JobD :=
  (mustR kName s).bind fun _ s => (quotR s).bind fun name s => (mustR kPrio s).bind fun _ s => (digR s).bind fun prio s => (mustR kNeed s).bind fun _ s => (digR s).bind fun need s =>
    (mustR kTries s).bind fun _ s => (digR s).bind fun tries s => (mustR kTag s).bind fun _ s => (quotR s).bind fun tag s => (mustR kEnd s).bind fun _ s => .ok ⟨name, prio, need, tries, tag⟩ s
def nodeR (s : ByteArray) : RR NodeD :=
  (mustR kName s).bind fun _ s => (quotR s).bind fun name s => (mustR kRoom s).bind fun _ s => (digR s).bind fun room s => (mustR kZone s).bind fun _ s => (quotR s).bind fun zone s =>
    (mustR kEnd s).bind fun _ s => .ok ⟨name, room, zone⟩ s
def leaseR (s : ByteArray) : RR LeaseD :=
  (mustR kJob s).bind fun _ s => (quotR s).bind fun job s => (mustR kNode s).bind fun _ s => (quotR s).bind fun node s => (mustR kTill s).bind fun _ s => (digR s).bind fun till s =>
    (mustR kEnd s).bind fun _ s => .ok ⟨job, node, till⟩ s
def elsR {α : Type} (p : ByteArray → RR α) (s : ByteArray) : RR (List α) := untilR p (s.size + 1) [] s
def stateR (s : ByteArray) : RR StateD :=
  (mustR kRev s).bind fun _ s => (digR s).bind fun rev s => (mustR kJobs s).bind fun _ s => (elsR jobR s).bind fun j s => (mustR kNodes s).bind fun _ s => (elsR nodeR s).bind fun n s =>
    (mustR kLeases s).bind fun _ s => (elsR leaseR s).bind fun l s => (mustR kEnd s).bind fun _ s => .ok ⟨rev, j, n, l⟩ s
/-! What is printed is read. -/
theorem hasR_app (p : ByteArray) (r : List UInt8) : hasR p (BA (p.data.toList ++ r)) = true := by unfold hasR; rw [BA_list]; exact hasPrefix_app _ _
theorem mustR_pre (p : ByteArray) (r : List UInt8) : mustR p (BA (p.data.toList ++ r)) = .ok () (BA r) := by
  unfold mustR
  rw [hasR_app, if_pos rfl, cut_BA, ← data_len p, List.drop_left]
theorem hasR_no {p : ByteArray} {l : List UInt8} (h : hasPrefix l p.data.toList = false) : hasR p (BA l) = false := h
theorem hasR_yes {p : ByteArray} {l : List UInt8} (h : hasPrefix l p.data.toList = true) : hasR p (BA l) = true := h
theorem low_apart : ∀ c j : Fin 32, (quoteB (UInt8.ofNat j.val)).isPrefixOf (quoteB (UInt8.ofNat c.val)) = decide (j = c) := by decide +kernel
theorem low_len : ∀ c : Fin 32, (quoteB (UInt8.ofNat c.val)).length = 6 := by decide +kernel
theorem pre_app {a b r : List UInt8} (h : a.length = b.length) : a.isPrefixOf (b ++ r) = a.isPrefixOf b := by
  rw [Bool.eq_iff_iff, List.isPrefixOf_iff_prefix, List.isPrefixOf_iff_prefix]
  constructor
  · intro hp
    rw [List.prefix_iff_eq_take] at hp ⊢
    rw [hp]
    rw [List.take_append_of_le_length (by omega)]
    simp
  · exact fun hp => hp.trans (List.prefix_append _ _)
theorem lowR_quote (c : Nat) (h : c < 32) (r : List UInt8) : lowR (quoteB (UInt8.ofNat c) ++ r) = some c := by
  unfold lowR
  rw [List.find?_range_eq_some]
  have hl := low_len ⟨c, h⟩
  refine ⟨hasPrefix_app _ _, List.mem_range.2 h, fun j hj => ?_⟩
  have h1 := low_apart ⟨c, h⟩ ⟨j, by omega⟩
  have h2 := low_len ⟨j, by omega⟩
  simp only at h1 h2 hl
  unfold hasPrefix
  rw [pre_app (h2.trans hl.symm), h1]
  simp
  omega
theorem lowR_none {c : UInt8} (h1 : c ≠ 92) (r : List UInt8) : lowR (c :: r) = none := by
  unfold lowR
  rw [List.find?_range_eq_none]
  intro i hi
  have : quoteB (UInt8.ofNat i) = [92, 117, 48, 48, hexB ((UInt8.ofNat i).toNat / 16), hexB ((UInt8.ofNat i).toNat % 16)] := quoteB_low (by rw [UInt8.toNat_ofNat']; omega)
  rw [this]
  simp [hasPrefix, List.isPrefixOf, Ne.symm h1]
theorem BA_app (a b : List UInt8) : BA a ++ BA b = BA (a ++ b) := by
  rw [← BA_data (BA a ++ BA b)]
  simp [BA, ByteArray.data_append]
theorem BA_take (l : List UInt8) (k : Nat) (h : k ≤ l.length) : (BA l).extract 0 k = BA (l.take k) := by
  rw [← BA_data ((BA l).extract 0 k)]
  congr 1
  rw [ByteArray.data_extract, Array.toList_extract, List.extract_eq_take_drop]
  simp [BA]
theorem qRun_quote : ∀ (s : List UInt8) (n : Nat) (acc r : List UInt8), (s.flatMap quoteB ++ 34 :: r).length < n → qRun n (BA acc) (BA (s.flatMap quoteB ++ 34 :: r)) = .ok (BA (acc ++ s)) (BA r)
  | [], n, acc, r, h => by
    obtain ⟨m, rfl⟩ : ∃ m, n = m + 1 := ⟨n - 1, by omega⟩
    rw [qRun, hasR_yes (by simp [hasPrefix, List.isPrefixOf]), if_pos rfl, cut_BA]
    simp
  | c :: s, n, acc, r, h => by
    obtain ⟨m, rfl⟩ : ∃ m, n = m + 1 := ⟨n - 1, by omega⟩
    have hp := quoteB_pos c
    have ih : ∀ acc, qRun m (BA acc) (BA (s.flatMap quoteB ++ 34 :: r)) = .ok (BA (acc ++ s)) (BA r) := fun acc => qRun_quote s m acc r (by rw [List.flatMap_cons, List.append_assoc, List.length_append] at h; omega)
    rw [List.flatMap_cons, List.append_assoc]
    generalize hq : s.flatMap quoteB ++ 34 :: r = q at ih
    have hfin : BA (acc ++ [c] ++ s) = BA (acc ++ c :: s) := by simp
    by_cases h1 : c.toNat = 34 ∨ c.toNat = 92
    · rw [quoteB_esc h1, qRun, hasR_no (by simp [hasPrefix, List.isPrefixOf]), if_neg (by simp)]
      rcases h1 with h1 | h1
      · have : c = 34 := UInt8.toNat_inj.1 h1
        subst this
        rw [hasR_yes (by simp [hasPrefix, List.isPrefixOf]), if_pos rfl, cut_BA, show (⟨#[34]⟩ : ByteArray) = BA [34] from rfl, BA_app]
        have := ih (acc ++ [34])
        rw [hfin] at this
        exact this
      · have : c = 92 := UInt8.toNat_inj.1 h1
        subst this
        rw [hasR_no (by simp [hasPrefix, List.isPrefixOf]), if_neg (by simp), hasR_yes (by simp [hasPrefix, List.isPrefixOf]), if_pos rfl, cut_BA, show (⟨#[92]⟩ : ByteArray) = BA [92] from rfl, BA_app]
        have := ih (acc ++ [92])
        rw [hfin] at this
        exact this
    · have h3 : c.toNat ≠ 34 := fun h => h1 (.inl h)
      have h4 : c.toNat ≠ 92 := fun h => h1 (.inr h)
      have e3 : ¬ (34 : UInt8) = c := by rintro rfl; exact h3 rfl
      have e4 : ¬ (92 : UInt8) = c := by rintro rfl; exact h4 rfl
      by_cases h2 : c.toNat < 32
      · have hc : UInt8.ofNat c.toNat = c := UInt8.ofNat_toNat
        have hlow := lowR_quote c.toNat h2 q
        rw [hc] at hlow
        have hl := low_len ⟨c.toNat, h2⟩
        simp only [hc] at hl
        rw [qRun]
        have a1 : hasR ⟨#[34]⟩ (BA (quoteB c ++ q)) = false := hasR_no (by rw [quoteB_low h2]; simp [hasPrefix, List.isPrefixOf])
        have a2 : hasR ⟨#[92, 34]⟩ (BA (quoteB c ++ q)) = false := hasR_no (by rw [quoteB_low h2]; simp [hasPrefix, List.isPrefixOf])
        have a3 : hasR ⟨#[92, 92]⟩ (BA (quoteB c ++ q)) = false := hasR_no (by rw [quoteB_low h2]; simp [hasPrefix, List.isPrefixOf])
        rw [a1, a2, a3, if_neg (by simp), if_neg (by simp), if_neg (by simp), BA_list, hlow]
        simp only
        rw [hc, cut_BA, show (⟨#[c]⟩ : ByteArray) = BA [c] from rfl, BA_app, ← hl, List.drop_left]
        have := ih (acc ++ [c])
        rw [hfin] at this
        exact this
      · rw [quoteB_plain h3 h4 h2, qRun, hasR_no (by simp [hasPrefix, List.isPrefixOf, e3]), if_neg (by simp), hasR_no (by simp [hasPrefix, List.isPrefixOf, e4]), if_neg (by simp), hasR_no (by simp [hasPrefix, List.isPrefixOf, e4]), if_neg (by simp), BA_list, List.singleton_append, lowR_none (Ne.symm e4)]
        simp only
        rw [if_neg (by simp [Ne.symm e4]), cut_BA, BA_take _ _ (by simp), BA_app]
        have := ih (acc ++ [c])
        rw [hfin] at this
        exact this
theorem quotR_quote (s r : List UInt8) : quotR (BA (quoteL s ++ r)) = .ok (BA s) (BA r) := by
  have e1 : quoteL s ++ r = (⟨#[34]⟩ : ByteArray).data.toList ++ (s.flatMap quoteB ++ 34 :: r) := by simp [quoteL, quoteP]
  unfold quotR
  rw [e1, mustR_pre, RR.bind_ok]
  have := qRun_quote s ((BA (s.flatMap quoteB ++ 34 :: r)).size + 1) [] r (by rw [BA_size]; exact Nat.lt_succ_self _)
  rw [show (⟨#[]⟩ : ByteArray) = BA [] from rfl, this, List.nil_append]
theorem valD_snoc (l : List UInt8) (c : UInt8) : valD (l ++ [c]) = 10 * valD l + (c.toNat - 48) := by simp [valD, List.foldl_append]
theorem valD_dec (u : Nat) : valD (decDigits u) = u := by
  induction u using Nat.strongRecOn with
  | ind u ih =>
    rw [decDigits_cut]
    split
    · rename_i h
      show 10 * 0 + ((UInt8.ofNat (48 + u)).toNat - 48) = u
      rw [digC h]; omega
    · rename_i h
      rw [valD_snoc, ih (u / 10) (by omega), digC (by omega)]
      omega
theorem digC?_dig {c : UInt8} (h : 48 ≤ c.toNat ∧ c.toNat ≤ 57) : digC? c = true := by
  unfold digC?
  have h1 : (48 : UInt8) ≤ c := UInt8.le_iff_toNat_le.2 h.1
  have h2 : c ≤ 57 := UInt8.le_iff_toNat_le.2 h.2
  simp [h1, h2]
theorem dec_len18 {u : Nat} (h : u < 1000000000000000000) : (decDigits u).length ≤ 18 := by
  rw [Go.Lib.decDigits_length]
  rcases Nat.lt_or_ge 18 (Go.Lib.nDigits u) with h1 | h1
  · exfalso
    have hq : ∀ (k u : Nat), k < Go.Lib.nDigits u → 10 ^ k ≤ u ∨ k = 0 := by
      intro k
      induction k with
      | zero => intro u _; exact .inr rfl
      | succ k ih =>
        intro u hk
        by_cases hu : u < 10
        · rw [Go.Lib.nDigits_small hu] at hk; omega
        · rw [Go.Lib.nDigits_big hu] at hk
          rcases ih (u / 10) (by omega) with h2 | h2
          · left
            rw [Nat.pow_succ]
            have := Nat.div_mul_le_self u 10
            exact Nat.le_trans (Nat.mul_le_mul_right 10 h2) this
          · left; subst h2; simp; omega
    rcases hq 18 u h1 with h2 | h2
    · omega
    · omega
  · exact h1
theorem digL_dec (u : Nat) (h : u < 1000000000000000000) (c : UInt8) (r : List UInt8) (hc : digC? c = false) : digL (BA (decDigits u ++ c :: r)) = decDigits u := by
  unfold digL
  rw [BA_list, (takeWhile_app (decDigits u) c r (fun x hx => digC?_dig (dec_digit u x hx)) hc).1, List.take_of_length_le (dec_len18 h)]
theorem digR1_dec (sg : Int) (u : Nat) (h : u < 1000000000000000000) (c : UInt8) (r : List UInt8) (hc : digC? c = false) : digR1 sg (BA (decDigits u ++ c :: r)) = .ok (sg * (u : Int)) (BA (c :: r)) := by
  unfold digR1
  rw [digL_dec u h c r hc, if_neg (dec_ne u), cut_BA, List.drop_left, valD_dec]
theorem digR_itoa (n : Int) (h0 : -1000000000000000000 < n) (h1 : n < 1000000000000000000) (c : UInt8) (r : List UInt8) (hc : digC? c = false) : digR (BA (itoa n ++ c :: r)) = .ok n (BA (c :: r)) := by
  unfold itoa
  split
  · rename_i hn
    unfold digR
    rw [hasR_yes (by simp [hasPrefix, List.isPrefixOf]), if_pos rfl, cut_BA]
    simp only [List.cons_append, List.drop_succ_cons, List.drop_zero]
    rw [digR1_dec _ _ (by omega) c r hc]
    congr 1; omega
  · rename_i hn
    obtain ⟨d, q, hdq⟩ := List.exists_cons_of_ne_nil (dec_ne n.toNat)
    have hd := dec_digit n.toNat d (by rw [hdq]; simp)
    have hd45 : ¬ (45 : UInt8) = d := by rintro rfl; exact absurd hd.1 (by decide)
    unfold digR
    rw [hasR_no (by rw [hdq]; simp [hasPrefix, List.isPrefixOf, hd45]), if_neg (by simp), digR1_dec _ _ (by omega) c r hc]
    congr 1; omega
/-! Objects. -/
theorem digR_itoaK (n : Int) (h : Mid (.num n)) (k : ByteArray) (c : UInt8) (q r : List UInt8) (hk : k.data.toList = c :: q) (hc : digC? c = false) : digR (BA (itoa n ++ (k.data.toList ++ r))) = .ok n (BA (k.data.toList ++ r)) := by
  rw [hk]
  exact digR_itoa n h.1 h.2 c (q ++ r) hc
theorem jobR_back (x : JobD) (h1 : Mid (.num x.prio)) (h2 : Mid (.num x.need)) (h3 : Mid (.num x.tries)) (r : List UInt8) : jobR (BA (objL (jobFs x) ++ r)) = .ok x (BA r) := by
  have e : objL (jobFs x) ++ r = kName.data.toList ++ (quoteL x.name.data.toList ++ (kPrio.data.toList ++ (itoa x.prio ++ (kNeed.data.toList ++ (itoa x.need ++ (kTries.data.toList ++ (itoa x.tries ++ (kTag.data.toList ++ (quoteL x.tag.data.toList ++ (kEnd.data.toList ++ r)))))))))) := by
    have e1 : quoteL [110, 97, 109, 101] = [34, 110, 97, 109, 101, 34] := by decide
    have e2 : quoteL [112, 114, 105, 111] = [34, 112, 114, 105, 111, 34] := by decide
    have e3 : quoteL [110, 101, 101, 100] = [34, 110, 101, 101, 100, 34] := by decide
    have e4 : quoteL [116, 114, 105, 101, 115] = [34, 116, 114, 105, 101, 115, 34] := by decide
    have e5 : quoteL [116, 97, 103] = [34, 116, 97, 103, 34] := by decide
    simp [objL, jobFs, fieldL, fvL, commaL, e1, e2, e3, e4, e5, kName, kPrio, kNeed, kTries, kTag, kEnd]
  rw [e]
  unfold jobR
  rw [mustR_pre, RR.bind_ok, quotR_quote, RR.bind_ok, mustR_pre, RR.bind_ok, digR_itoaK _ h1 kNeed 44 _ _ rfl rfl, RR.bind_ok, mustR_pre, RR.bind_ok, digR_itoaK _ h2 kTries 44 _ _ rfl rfl, RR.bind_ok, mustR_pre, RR.bind_ok,
    digR_itoaK _ h3 kTag 44 _ _ rfl rfl, RR.bind_ok, mustR_pre, RR.bind_ok, quotR_quote, RR.bind_ok, mustR_pre, RR.bind_ok]
  rfl
theorem nodeR_back (x : NodeD) (h1 : Mid (.num x.room)) (r : List UInt8) : nodeR (BA (objL (nodeFs x) ++ r)) = .ok x (BA r) := by
  have e : objL (nodeFs x) ++ r = kName.data.toList ++ (quoteL x.name.data.toList ++ (kRoom.data.toList ++ (itoa x.room ++ (kZone.data.toList ++ (quoteL x.zone.data.toList ++ (kEnd.data.toList ++ r)))))) := by
    have e1 : quoteL [110, 97, 109, 101] = [34, 110, 97, 109, 101, 34] := by decide
    have e2 : quoteL [114, 111, 111, 109] = [34, 114, 111, 111, 109, 34] := by decide
    have e3 : quoteL [122, 111, 110, 101] = [34, 122, 111, 110, 101, 34] := by decide
    simp [objL, nodeFs, fieldL, fvL, commaL, e1, e2, e3, kName, kRoom, kZone, kEnd]
  rw [e]
  unfold nodeR
  rw [mustR_pre, RR.bind_ok, quotR_quote, RR.bind_ok, mustR_pre, RR.bind_ok, digR_itoaK _ h1 kZone 44 _ _ rfl rfl, RR.bind_ok, mustR_pre, RR.bind_ok, quotR_quote, RR.bind_ok, mustR_pre, RR.bind_ok]
  rfl
theorem leaseR_back (x : LeaseD) (h1 : Mid (.num x.till)) (r : List UInt8) : leaseR (BA (objL (leaseFs x) ++ r)) = .ok x (BA r) := by
  have e : objL (leaseFs x) ++ r = kJob.data.toList ++ (quoteL x.job.data.toList ++ (kNode.data.toList ++ (quoteL x.node.data.toList ++ (kTill.data.toList ++ (itoa x.till ++ (kEnd.data.toList ++ r)))))) := by
    have e1 : quoteL [106, 111, 98] = [34, 106, 111, 98, 34] := by decide
    have e2 : quoteL [110, 111, 100, 101] = [34, 110, 111, 100, 101, 34] := by decide
    have e3 : quoteL [117, 110, 116, 105, 108] = [34, 117, 110, 116, 105, 108, 34] := by decide
    simp [objL, leaseFs, fieldL, fvL, commaL, e1, e2, e3, kJob, kNode, kTill, kEnd]
  rw [e]
  unfold leaseR
  rw [mustR_pre, RR.bind_ok, quotR_quote, RR.bind_ok, mustR_pre, RR.bind_ok, quotR_quote, RR.bind_ok, mustR_pre, RR.bind_ok, digR_itoaK _ h1 kEnd 125 _ _ rfl rfl, RR.bind_ok, mustR_pre, RR.bind_ok]
  rfl
/-! Rows. -/
def restE {α : Type} (F : α → List UInt8) (first : Bool) : List α → List UInt8
  | [] => []
  | f :: l => (if first then [] else [44]) ++ F f ++ restE F false l
theorem restE_comma {α : Type} (F : α → List UInt8) : ∀ l : List α, restE F false l = (l.map F).flatMap fun y => 44 :: y
  | [] => rfl
  | f :: l => by simp [restE, restE_comma F l]
theorem restE_first {α : Type} (F : α → List UInt8) (l : List α) : restE F true l = commaL (l.map F) := by
  cases l with
  | nil => rfl
  | cons f l => simp [restE, restE_comma, commaL]
theorem until_back {α : Type} (p : ByteArray → RR α) (F : α → List UInt8) (hF : ∀ a, ∃ q, F a = 123 :: q) : ∀ (l : List α) (n : Nat) (a : List α) (r : List UInt8), (restE F a.isEmpty l ++ 93 :: r).length < n → (∀ x ∈ l, ∀ r, p (BA (F x ++ r)) = .ok x (BA r)) →
    untilR p n a (BA (restE F a.isEmpty l ++ 93 :: r)) = .ok (a ++ l) (BA r)
  | [], n, a, r, h, _ => by
    obtain ⟨m, rfl⟩ : ∃ m, n = m + 1 := ⟨n - 1, by omega⟩
    rw [untilR, hasR_yes (by simp [restE, hasPrefix, List.isPrefixOf]), if_pos rfl, cut_BA]
    simp [restE]
  | f :: l, n, a, r, h, hp => by
    obtain ⟨m, rfl⟩ : ∃ m, n = m + 1 := ⟨n - 1, by omega⟩
    obtain ⟨q, hq⟩ := hF f
    have hz := hp f (List.mem_cons_self) (restE F false l ++ 93 :: r)
    have hne : hasR ⟨#[93]⟩ (BA (restE F a.isEmpty (f :: l) ++ 93 :: r)) = false := hasR_no (by
      cases a <;> simp [restE, hq, hasPrefix, List.isPrefixOf])
    have e : commaR a.length (BA (restE F a.isEmpty (f :: l) ++ 93 :: r)) = .ok () (BA (F f ++ (restE F false l ++ 93 :: r))) := by
      cases a with
      | nil => simp [restE, commaR]
      | cons x a =>
        unfold commaR
        rw [if_pos (by simp), show restE F (x :: a).isEmpty (f :: l) ++ 93 :: r = (⟨#[44]⟩ : ByteArray).data.toList ++ (F f ++ (restE F false l ++ 93 :: r)) by simp [restE], mustR_pre]
    rw [untilR, hne, if_neg (by simp), e, RR.bind_ok, hz, RR.bind_ok]
    have ih := until_back p F hF l m (a ++ [f]) r (by
      rw [show (a ++ [f]).isEmpty = false by simp]
      have hl : 1 ≤ (F f).length := by rw [hq]; simp
      simp only [restE, List.length_append, List.length_cons] at h ⊢
      omega) (fun g hg => hp g (List.mem_cons_of_mem _ hg))
    rw [show (a ++ [f]).isEmpty = false by simp] at ih
    rw [ih]
    simp
theorem elsR_back {α : Type} (p : ByteArray → RR α) (F : α → List UInt8) (hF : ∀ a, ∃ q, F a = 123 :: q) (l : List α) (r : List UInt8) (hp : ∀ x ∈ l, ∀ r, p (BA (F x ++ r)) = .ok x (BA r)) : elsR p (BA (commaL (l.map F) ++ 93 :: r)) = .ok l (BA r) := by
  unfold elsR
  rw [← restE_first]
  have := until_back p F hF l ((BA (restE F true l ++ 93 :: r)).size + 1) [] r (by rw [BA_size]; exact Nat.lt_succ_self _) hp
  rw [show restE F ([] : List α).isEmpty l = restE F true l from rfl] at this
  exact this
/-- WHAT IS PRINTED IS READ. -/
theorem stateR_back (st : StateD) (h : MidS st) : stateR (BA (printL st)) = .ok st (BA []) := by
  have e : printL st = kRev.data.toList ++ (itoa st.rev ++ (kJobs.data.toList ++ (commaL (st.jobs.map fun x => objL (jobFs x)) ++ 93 :: (kNodes.data.toList ++ (commaL (st.nodes.map fun x => objL (nodeFs x)) ++ 93 :: (kLeases.data.toList ++ (commaL (st.leases.map fun x => objL (leaseFs x)) ++ 93 :: (kEnd.data.toList ++ [])))))))) := by
    have e1 : quoteL [106, 111, 98, 115] = [34, 106, 111, 98, 115, 34] := by decide
    have e2 : quoteL [110, 111, 100, 101, 115] = [34, 110, 111, 100, 101, 115, 34] := by decide
    have e3 : quoteL [108, 101, 97, 115, 101, 115] = [34, 108, 101, 97, 115, 101, 115, 34] := by decide
    simp [printL, arrL, e1, e2, e3, kRev, kJobs, kNodes, kLeases, kEnd]
  rw [e]
  unfold stateR
  rw [mustR_pre, RR.bind_ok, digR_itoaK _ h.r kJobs 44 _ _ rfl rfl, RR.bind_ok, mustR_pre, RR.bind_ok,
    elsR_back jobR (fun x => objL (jobFs x)) (fun _ => ⟨_, rfl⟩) st.jobs _ (fun x hx r => jobR_back x (h.j x hx).1 (h.j x hx).2.1 (h.j x hx).2.2 r), RR.bind_ok, mustR_pre, RR.bind_ok,
    elsR_back nodeR (fun x => objL (nodeFs x)) (fun _ => ⟨_, rfl⟩) st.nodes _ (fun x hx r => nodeR_back x (h.n x hx) r), RR.bind_ok, mustR_pre, RR.bind_ok,
    elsR_back leaseR (fun x => objL (leaseFs x)) (fun _ => ⟨_, rfl⟩) st.leases _ (fun x hx r => leaseR_back x (h.l x hx) r), RR.bind_ok, mustR_pre, RR.bind_ok]
/-! What is left is no longer. -/
def Shr {α : Type} (N : Nat) (x : RR α) : Prop := ∀ a r, x = .ok a r → r.size ≤ N
theorem cut_size (s : ByteArray) (k : Nat) : (s.extract k s.size).size = s.size - k := by rw [ByteArray.size_extract]; omega
theorem mustR_shr (p s : ByteArray) : Shr s.size (mustR p s) := by
  intro a r h
  unfold mustR at h
  split at h
  · injection h with h1 h2; subst h2; rw [cut_size]; omega
  · cases h
theorem mustR_less {p s r : ByteArray} {u : Unit} (h : mustR p s = .ok u r) : r.size + p.size = s.size := by
  unfold mustR at h
  split at h
  · rename_i hp
    injection h with h1 h2; subst h2; rw [cut_size]
    have := (List.isPrefixOf_iff_prefix.1 hp).length_le
    rw [data_len, data_len] at this
    omega
  · cases h
theorem Shr.bind {α β : Type} {N : Nat} {x : RR α} {f : α → ByteArray → RR β} (h : Shr N x) (hf : ∀ a r, Shr r.size (f a r)) : Shr N (x.bind f) := by
  intro b r hb
  cases x with
  | bad e => cases hb
  | ok a s => exact Nat.le_trans (hf a s b r hb) (h a s rfl)
theorem Shr.ok {α : Type} (a : α) (r : ByteArray) : Shr r.size (.ok a r) := fun b q h => by injection h with h1 h2; subst h2; exact Nat.le_refl _
theorem digR1_shr (sg : Int) (s : ByteArray) : Shr s.size (digR1 sg s) := by
  intro a r h
  unfold digR1 at h
  split at h
  · cases h
  · injection h with h1 h2; subst h2; rw [cut_size]; omega
theorem digR_shr (s : ByteArray) : Shr s.size (digR s) := by
  intro a r h
  unfold digR at h
  split at h
  · have := digR1_shr _ _ a r h
    rw [cut_size] at this; omega
  · exact digR1_shr _ _ a r h
theorem qRun_shr : ∀ (n : Nat) (acc s : ByteArray), Shr s.size (qRun n acc s)
  | 0, _, _ => fun _ _ h => by cases h
  | n + 1, acc, s => by
    have hc : ∀ k acc, Shr s.size (qRun n acc (s.extract k s.size)) := fun k acc a r h => by
      have := qRun_shr n acc _ a r h
      rw [cut_size] at this; omega
    intro a r h
    rw [qRun] at h
    split at h
    · injection h with h1 h2; subst h2; rw [cut_size]; omega
    · split at h
      · exact hc _ _ a r h
      · split at h
        · exact hc _ _ a r h
        · split at h
          · exact hc _ _ a r h
          · split at h
            · cases h
            · exact hc _ _ a r h
theorem quotR_shr (s : ByteArray) : Shr s.size (quotR s) := (mustR_shr _ _).bind fun _ _ => qRun_shr _ _ _
/-! Values: what they may be. -/
theorem valD_take (l : List UInt8) : ∀ k, k ≤ l.length → k ≤ 18 → (∀ c ∈ l.take k, digC? c = true) → valD (l.take k) < 10 ^ k
  | 0, _, _, _ => by simp [valD]
  | k + 1, h, h18, hd => by
    have hk : k < l.length := by omega
    have e : l.take (k + 1) = l.take k ++ [l[k]] := (List.take_append_getElem hk).symm
    have ih := valD_take l k (by omega) (by omega) (fun c hc => hd c (by rw [e]; exact List.mem_append_left _ hc))
    have hc := hd l[k] (by rw [e]; exact List.mem_append_right _ (List.mem_singleton.2 rfl))
    rw [e, valD_snoc, Nat.pow_succ]
    unfold digC? at hc
    simp only [Bool.and_eq_true, decide_eq_true_eq] at hc
    have h1 := UInt8.le_iff_toNat_le.1 hc.2
    have h2 : (57 : UInt8).toNat = 57 := rfl
    omega
end Go.Proofs.YtcodhhabfacnjaaGreatDoor
