/- Of the proof of a statement: Dig, Js, ObjL. -/
import Derived.Test.YtcodhhabfacnjaaGreatDoorSQuoteA
set_option linter.unusedVariables false
set_option linter.unusedSimpArgs false
/- The walk of the reference's Digits. -/
namespace Go.Proofs.YtcodhhabfacnjaaGreatDoor
open Go.RowKit
theorem dec_small {u : Nat} (h : u < 10) : Lib.decDigits u = [UInt8.ofNat (48 + u)] := by rw [Lib.decDigits, dif_pos h]
theorem dec_step {u : Nat} (h : ¬ u < 10) : Lib.decDigits u = Lib.decDigits (u / 10) ++ [UInt8.ofNat (48 + u % 10)] := by rw [Lib.decDigits, dif_neg h]
theorem dec_len : ∀ (f u : Nat), u < 10 ^ f → 0 < f → (Lib.decDigits u).length ≤ f
  | 0, _, _, h => absurd h (by omega)
  | f + 1, u, hu, _ => by
    by_cases h : u < 10
    · rw [dec_small h]; simp
    · rw [dec_step h]
      have h1 : u / 10 < 10 ^ f := by rw [Nat.pow_succ, Nat.mul_comm] at hu; exact Nat.div_lt_of_lt_mul hu
      have h2 : 0 < f := by
        rcases Nat.eq_zero_or_pos f with h' | h'
        · subst h'; simp at hu; omega
        · exact h'
      have := dec_len f (u / 10) h1 h2
      simp; omega
def DgPost (n : Int) (w : World) (e : Ending) (w' : World) : Prop := e = .returned (.string ⟨(Lib.itoa n).toArray⟩) ∧ Below w.heap.size w w'
set_option maxRecDepth 100000 in
theorem dig_pos : ∀ (f : Nat) (n : Int) (w : World), 0 ≤ n → n ≤ 9223372036854775807 → n.toNat < 10 ^ f → 0 < f →
    Calls Tryz.prog 41 #[.int .i64 n] w fun e w' => e = .returned (.string ⟨(Lib.decDigits n.toNat).toArray⟩) ∧ Below w.heap.size w w'
  | 0, _, _, _, _, _, h => absurd h (by omega)
  | f + 1, n, w, h0, h1, hf, _ => by
    have d1 : decide (n < 0) = false := decide_eq_false (by omega)
    by_cases hlt : n < 10
    · have hn := Lib.hid (dec_small (u := n.toNat) (by omega))
      have d2 : decide (n < 10) = true := decide_eq_true hlt
      clear hf
      go_enter Tryz.func41, Tryz.ntmps41
      go_wp2_with fail
      refine (chr_any (48 + n) _ (by omega) (by omega)).mono ?_
      rintro e w' ⟨rfl, hb⟩
      go_wp2
      go_ret
      exact ⟨ret_str (by rw [hn.out, show (48 + n).toNat = 48 + n.toNat by omega]), hb⟩
    · have hn := Lib.hid (dec_step (u := n.toNat) (by omega))
      have d2 : decide (n < 10) = false := decide_eq_false hlt
      have ih := Lib.hid (dig_pos f (n / 10))
      have hf' := Lib.hid (show (n / 10).toNat < 10 ^ f from by
        rw [Nat.pow_succ, Nat.mul_comm] at hf
        rw [show (n / 10).toNat = n.toNat / 10 from by omega]
        exact Nat.div_lt_of_lt_mul hf)
      have hf0 := Lib.hid (show 0 < f from by
        rcases Nat.eq_zero_or_pos f with h | h
        · subst h; simp at hf; omega
        · exact h)
      have hln := dec_len 19 (n / 10).toNat (by have : (10 : Nat) ^ 19 = 10000000000000000000 := by decide
                                                omega) (by decide)
      clear hf
      go_enter Tryz.func41, Tryz.ntmps41
      go_wp2_with fail
      refine Calls.mono (ih.out _ (by omega) (by omega) hf'.out hf0.out) ?_
      rintro e w1 ⟨rfl, hb1⟩
      go_wp2_with fail
      refine Calls.mono (chr_any (48 + n % 10) _ (by omega) (by omega)) ?_
      rintro e w2 ⟨rfl, hb2⟩
      have hb := hb1.trans (hb2.mono hb1.size)
      clear hb1 hb2
      have hsz : (⟨(Lib.decDigits (n / 10).toNat).toArray⟩ : ByteArray).size ≤ 19 := by show (Lib.decDigits (n / 10).toNat).toArray.size ≤ 19; simpa using hln
      go_wp2
      go_ret
      refine ⟨ret_str ?_, hb⟩
      rw [hn.out, show (48 + n % 10).toNat = 48 + n.toNat % 10 from by omega, show (n / 10).toNat = n.toNat / 10 from by omega, ByteArray.mk_append_mk]
      try simp
set_option maxRecDepth 100000 in
theorem dig_any (n : Int) (w : World) (h0 : -9223372036854775807 ≤ n) (h1 : n ≤ 9223372036854775807) : Calls Tryz.prog 41 #[.int .i64 n] w (DgPost n w) := by
  have hp : (10 : Nat) ^ 19 = 10000000000000000000 := by decide
  by_cases hn : n < 0
  · have d1 : decide (n < 0) = true := decide_eq_true hn
    have H := Lib.hid (dig_pos 19 (-n) w (by omega) (by omega) (by omega) (by decide))
    have hln := dec_len 19 (-n).toNat (by omega) (by decide)
    have Hi := Lib.hid (show Lib.itoa n = 45 :: Lib.decDigits (-n).toNat by unfold Lib.itoa; rw [if_pos hn, show n.natAbs = (-n).toNat by omega])
    unfold DgPost
    go_enter Tryz.func41, Tryz.ntmps41
    go_wp2_with fail
    refine Calls.mono H.out ?_
    rintro e w1 ⟨rfl, hb1⟩
    go_wp2
    go_ret
    refine ⟨ret_str ?_, hb1⟩
    rw [Hi.out, ByteArray.mk_append_mk]
    simp
  · have H := dig_pos 19 n w (by omega) h1 (by omega) (by decide)
    unfold DgPost
    rw [show Lib.itoa n = Lib.decDigits n.toNat by unfold Lib.itoa; rw [if_neg hn]]
    exact H
theorem itoa_len (n : Int) (h0 : -9223372036854775808 ≤ n) (h1 : n ≤ 9223372036854775807) : (Lib.itoa n).length ≤ 20 := by
  have hp : (10 : Nat) ^ 19 = 10000000000000000000 := by decide
  unfold Lib.itoa
  split
  · have := dec_len 19 n.natAbs (by omega) (by decide)
    simp; omega
  · have := dec_len 19 n.toNat (by omega) (by decide)
    omega
end Go.Proofs.YtcodhhabfacnjaaGreatDoor
/- What the printer appends: a text, a number. -/
namespace Go.Proofs.YtcodhhabfacnjaaGreatDoor
open Go.RowKit
/-- Bytes go behind those of the call's own row; all other blocks stand. -/
def JPost (B : Nat) (l : List UInt8) (w : World) (e : Ending) (w' : World) : Prop :=
  ∃ A m c, e = .returned (.slice A m c) ∧ w'.ownsRow B 5 1 (.slice A m c) m (bytesV l) ∧ Below B w w' ∧ Lib.OthersKept 5 none w w'
theorem kept_grew {B : Nat} {w w' : World} {A A' : Option Addr} {m m' c c' : Nat} {xs : List Value} (ho : w.ownsRow B 5 1 (.slice A m c) m xs) (hg : Grew w w' (.slice A m c) (.slice A' m' c')) : Lib.OthersKept 5 none w w' := by
  refine (Lib.OthersKept.refl _ _ _).grown hg.grown fun g hgb => ?_
  rcases ho.2 with ⟨h1, h2⟩ | ⟨q, cap, cur, hv, hq, hgq, r⟩
  · rw [h1] at hgb; cases hgb
  · rw [hv] at hgb
    have : q = g := by simpa [Value.ownBlock] using hgb
    subst this
    exact ⟨_, _, hgq⟩
theorem own_formB {B n : Nat} {w : World} {v : Value} {xs : List Value} (ho : w.ownsRow B 5 1 v n xs) : ∃ A c, v = .slice A n c := by
  rcases ho.2 with ⟨h1, h2⟩ | ⟨q, cap, cur, hv, hq, hgq, r⟩
  · subst h2; exact ⟨_, _, h1⟩
  · exact ⟨_, _, hv⟩
theorem jint (B : Nat) (A : Option Addr) (m c : Nat) (l : List UInt8) (i : Int) (h0 : -9223372036854775808 ≤ i) (h1 : i ≤ 9223372036854775807) (w : World) (hown : w.ownsRow B 5 1 (.slice A m c) m (bytesV l)) (hBw : B ≤ w.heap.size) (hm : m ≤ 140737488350000)
    (htab : Lib.TabBelow Tryz.prog B w "internal/strconv.uint64pow10" .u64 Lib.pow10Tab) :
    Calls Tryz.prog 33 #[.slice A m c, .int .i64 i, .int .i64 10] w (JPost B (l ++ Lib.itoa i) w) := by
  refine Calls.mono (appendInt_any B m i h0 h1 _ _ w hown hBw (by omega) htab) ?_
  rintro e w' ⟨v', rfl, ho, hb, hk⟩
  obtain ⟨A', c', rfl⟩ := own_formB ho
  refine ⟨A', _, c', rfl, ?_, hb, hk⟩
  rw [bytesV_append]
  exact ho
theorem jquote (B : Nat) (A : Option Addr) (m c : Nat) (l : List UInt8) (s : ByteArray) (w : World) (hown : w.ownsRow B 5 1 (.slice A m c) m (bytesV l)) (hm : m + 6 * s.size + 8 ≤ 140737488355328) (hB : B ≤ w.heap.size) :
    Calls Tryz.prog 46 #[.slice A m c, .string s] w (JPost B (l ++ quoteL s.data.toList) w) := by
  refine Calls.mono (quote_any B A m c l s w hown hm hB) ?_
  rintro e w' ⟨A', m', c', rfl, ho, hg⟩
  exact ⟨A', m', c', rfl, ho, hg.below hB (fun k hk => (hown.lt k hk).1), kept_grew hown hg⟩
end Go.Proofs.YtcodhhabfacnjaaGreatDoor
/- Lengths and steps of what the printer writes: plain. -/
namespace Go.Proofs.YtcodhhabfacnjaaGreatDoor
theorem commaL_len {L : Nat} : ∀ l : List (List UInt8), (∀ x ∈ l, x.length ≤ L) → (commaL l).length ≤ l.length * (L + 1)
  | [], _ => by simp [commaL]
  | x :: l, h => by
    have h1 : ∀ l : List (List UInt8), (∀ y ∈ l, y.length ≤ L) → (l.flatMap fun y => 44 :: y).length ≤ l.length * (L + 1) := by
      intro l
      induction l with
      | nil => intro _; simp
      | cons y l ih =>
        intro h
        have := ih fun z hz => h z (List.mem_cons_of_mem _ hz)
        have hy := h y List.mem_cons_self
        rw [List.flatMap_cons, List.length_append, List.length_cons, List.length_cons, Nat.add_mul]
        omega
    have h2 := h1 l fun y hy => h y (List.mem_cons_of_mem _ hy)
    have hx := h x List.mem_cons_self
    show (x ++ l.flatMap fun y => 44 :: y).length ≤ _
    rw [List.length_append, List.length_cons, Nat.add_mul]
    omega
/-- One more, with its comma. -/
theorem commaL_take {α : Type} (f : α → List UInt8) {l : List α} {k : Nat} {y : α} (h : l[k]? = some y) : commaL ((l.take (k + 1)).map f) = (if k = 0 then [] else commaL ((l.take k).map f) ++ [44]) ++ f y := by
  have hk : k < l.length := (List.getElem?_eq_some_iff.1 h).1
  rw [List.take_add_one, h]
  show commaL ((l.take k ++ [y]).map f) = _
  rw [List.map_append, List.map_singleton, commaL_snoc]
  by_cases h0 : k = 0
  · subst h0; simp
  · rw [if_neg h0, if_neg (by intro e; have := congrArg List.length e; rw [List.length_map, List.length_take, List.length_nil] at this; omega)]
    simp
/-- A field is small. -/
def FvOk (v : FV) : Prop := match v with
  | .num x => -9223372036854775807 ≤ x ∧ x ≤ 9223372036854775807
  | .txt s => s.size ≤ 100
theorem quoteL_len (s : ByteArray) (h : s.size ≤ 100) : (quoteL s.data.toList).length ≤ 602 := by
  have := quoteP_len s.data.toList
  have hs : s.data.toList.length = s.size := by simp
  unfold quoteL
  rw [List.length_append, List.length_singleton]
  omega
theorem fieldL_len (f : ByteArray × FV) (h1 : f.1.size ≤ 100) (h2 : FvOk f.2) : (fieldL f).length ≤ 1210 := by
  have a := quoteL_len f.1 h1
  have b : (fvL f.2).length ≤ 602 := by
    obtain ⟨nm, v⟩ := f
    cases v with
    | num x => have := itoa_len x (by have := h2.1; omega) h2.2; show (Go.Lib.itoa x).length ≤ 602; omega
    | txt s => exact quoteL_len s h2
  unfold fieldL
  rw [List.length_append, List.length_append, List.length_singleton]
  omega
end Go.Proofs.YtcodhhabfacnjaaGreatDoor
