/- Of the proof of a statement: Tabs, Outside, PlQuote. -/
import Derived.Shelf.Unicode.ValidAny
import Derived.Lib.LaidU8T
import Derived.Laws.BitsAllLaws
import Derived.Below
import Derived.Test.YtcodhhabfacnjaaGreatDoorSPush
set_option linter.unusedVariables false
set_option linter.unusedSimpArgs false
/- The contract of utf8.ValidString, laid at this program: numbers only. -/
namespace Go.Proofs.YtcodhhabfacnjaaGreatDoor
open Go.RowKit Go.Shelf Go.Lib
def ren : Ren := {
  f := fun x => match x with
    | 196 => 88
    | 259 => 100
    | n => n
  t := fun x => match x with
    | 0 => 0
    | 3 => 3
    | 4 => 4
    | 5 => 5
    | 9 => 9
    | 12 => 12
    | 46 => 127
    | 53 => 89
    | 119 => 151
    | 138 => 153
    | 139 => 154
    | n => n
  g := fun x => match x with
    | 3 => 2
    | 4 => 3
    | n => n }
theorem laysV : Lays.n196 Tryz.prog ren := {
  mixed := by kernel_rfl
  f196 := Tryz.func88.trans (congrArg some (by kernel_rfl))
  f259 := Tryz.func100.trans (congrArg some (by kernel_rfl))
  t0 := Tryz.underlying0
  a0 := Tryz.isAgg0
  z0 := Tryz.sizeOf0
  v0 := Tryz.zeroValue0
  t3 := Tryz.underlying3
  a3 := Tryz.isAgg3
  z3 := Tryz.sizeOf3
  v3 := Tryz.zeroValue3
  t4 := Tryz.underlying4
  a4 := Tryz.isAgg4
  z4 := Tryz.sizeOf4
  v4 := Tryz.zeroValue4
  t5 := Tryz.underlying5
  a5 := Tryz.isAgg5
  z5 := Tryz.sizeOf5
  v5 := Tryz.zeroValue5
  t9 := Tryz.underlying9
  a9 := Tryz.isAgg9
  z9 := Tryz.sizeOf9
  v9 := Tryz.zeroValue9
  t12 := Tryz.underlying12
  a12 := Tryz.isAgg12
  z12 := Tryz.sizeOf12
  v12 := Tryz.zeroValue12
  t46 := Tryz.underlying127
  a46 := Tryz.isAgg127
  z46 := Tryz.sizeOf127
  v46 := Tryz.zeroValue127
  t53 := Tryz.underlying89
  a53 := Tryz.isAgg89
  z53 := Tryz.sizeOf89
  v53 := Tryz.zeroValue89
  t119 := Tryz.underlying151
  a119 := Tryz.isAgg151
  z119 := Tryz.sizeOf151
  t138 := Tryz.underlying153
  a138 := Tryz.isAgg153
  z138 := Tryz.sizeOf153
  v138 := Tryz.zeroValue153
  t139 := Tryz.underlying154
  a139 := Tryz.isAgg154
  z139 := Tryz.sizeOf154
  v139 := Tryz.zeroValue154
  g3 := by kernel_rfl
  g4 := by kernel_rfl }
/-- The world holds the library's two tables of UTF-8. -/
def Tabs (w : World) : Prop := Utf8Tabs (ren.g 3) (ren.g 4) w
theorem Tabs.below {w w' : World} (h : Tabs w) (hb : Below w.heap.size w w') : Tabs w' := Utf8Tabs_below h hb
theorem tabs_of {w : World} {l : List (String × DataW Unit)} (hL : laidMet Tryz.prog l w) (h1 : ("unicode/utf8.first", firstData) ∈ l) (h2 : ("unicode/utf8.acceptRanges", acceptData) ∈ l) : Tabs w :=
  utf8Tabs_of_readsT (U8Types.of196 laysV) ⟨by kernel_rfl, by kernel_rfl, by kernel_rfl, by kernel_rfl, by kernel_rfl, by kernel_rfl, by kernel_rfl⟩ (laidMet.reads hL h1) (laidMet.reads hL h2)
theorem valid_any (s : ByteArray) (w : World) (hs : s.size ≤ 9223372036854775807) (hT : Tabs w) :
    Calls Tryz.prog 88 #[.string s] w fun e w' => e = .returned (.bool (validD s.data.toList)) ∧ Below w.heap.size w w' :=
  Any.utf8_ValidString laysV s w hs hT
end Go.Proofs.YtcodhhabfacnjaaGreatDoor
/- The walk of the reference's outside. -/
namespace Go.Proofs.YtcodhhabfacnjaaGreatDoor
open Go.RowKit
theorem outside_no (n lo hi : Int) (h1 : lo ≤ n) (h2 : n ≤ hi) (w : World) : Calls Tryz.prog 60 #[.int .i64 n, .int .i64 lo, .int .i64 hi] w fun e w' => e = .returned (.bool false) ∧ w = w' := by
  have e1 : decide (n < lo) = false := decide_eq_false (by omega)
  have e2 : decide (hi < n) = false := decide_eq_false (by omega)
  go_enter Tryz.func60, Tryz.ntmps60
  go_wp2
  go_ret
  exact ⟨rfl, rfl⟩
theorem outside_yes (n lo hi : Int) (h : n < lo ∨ hi < n) (w : World) : Calls Tryz.prog 60 #[.int .i64 n, .int .i64 lo, .int .i64 hi] w fun e w' => e = .returned (.bool true) ∧ w = w' := by
  by_cases h1 : n < lo
  · clear h
    go_enter Tryz.func60, Tryz.ntmps60
    go_wp2
    go_ret
    exact ⟨rfl, rfl⟩
  · have e1 : decide (n < lo) = false := decide_eq_false h1
    have e2 : decide (hi < n) = true := decide_eq_true (by omega)
    clear h
    go_enter Tryz.func60, Tryz.ntmps60
    go_wp2
    go_ret
    exact ⟨rfl, rfl⟩
end Go.Proofs.YtcodhhabfacnjaaGreatDoor
/- A text quoted: plain. -/
namespace Go.Proofs.YtcodhhabfacnjaaGreatDoor
def hexB (n : Nat) : UInt8 := UInt8.ofNat (if n < 10 then 48 + n else 87 + n)
def quoteB (c : UInt8) : List UInt8 := if c = 34 ∨ c = 92 then [92, c] else if c < 32 then [92, 117, 48, 48, hexB (c.toNat / 16), hexB (c.toNat % 16)] else [c]
def quoteP (l : List UInt8) : List UInt8 := 34 :: l.flatMap quoteB
def quoteL (l : List UInt8) : List UInt8 := quoteP l ++ [34]
theorem quoteP_snoc (l : List UInt8) (c : UInt8) : quoteP (l ++ [c]) = quoteP l ++ quoteB c := by simp [quoteP]
theorem quoteB_len (c : UInt8) : (quoteB c).length ≤ 6 := by unfold quoteB; split <;> (try split) <;> simp
theorem quoteP_len : ∀ l : List UInt8, (quoteP l).length ≤ 6 * l.length + 1
  | [] => by simp [quoteP]
  | c :: l => by
    have h1 := quoteP_len l
    have h2 := quoteB_len c
    simp only [quoteP, List.length_cons, List.flatMap_cons, List.length_append] at *
    omega
theorem quoteB_esc {c : UInt8} (h : c.toNat = 34 ∨ c.toNat = 92) : quoteB c = [92, c] := by
  unfold quoteB
  rw [if_pos]
  rcases h with h | h
  · exact .inl (UInt8.toNat_inj.1 h)
  · exact .inr (UInt8.toNat_inj.1 h)
theorem quoteB_low {c : UInt8} (h : c.toNat < 32) : quoteB c = [92, 117, 48, 48, hexB (c.toNat / 16), hexB (c.toNat % 16)] := by
  unfold quoteB
  rw [if_neg, if_pos (UInt8.lt_iff_toNat_lt.2 h)]
  rintro (rfl | rfl) <;> exact absurd h (by decide)
theorem quoteB_plain {c : UInt8} (h1 : c.toNat ≠ 34) (h2 : c.toNat ≠ 92) (h3 : ¬ c.toNat < 32) : quoteB c = [c] := by
  unfold quoteB
  rw [if_neg, if_neg (fun h => h3 (UInt8.lt_iff_toNat_lt.1 h))]
  rintro (rfl | rfl)
  · exact h1 rfl
  · exact h2 rfl
def hexS : ByteArray := ⟨#[48, 49, 50, 51, 52, 53, 54, 55, 56, 57, 97, 98, 99, 100, 101, 102]⟩
theorem hexS_at : ∀ n : Fin 16, (hexS.data.toList[n.val]?).map (·.toNat) = some (hexB n.val).toNat := by decide +kernel
theorem hex_lo (c : Nat) (hc : c < 256) : bits .and .u8 (c : Int) 15 = ((c % 16 : Nat) : Int) := by
  rw [show (15 : Int) = ((15 : Nat) : Int) from rfl, u8_and_nat c 15 hc (by omega), nat_mask4]
end Go.Proofs.YtcodhhabfacnjaaGreatDoor
