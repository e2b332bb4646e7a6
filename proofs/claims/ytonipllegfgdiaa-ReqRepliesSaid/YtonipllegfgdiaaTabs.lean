/- The contract of utf8.ValidString, laid at this program: numbers only. -/
import Derived.Test.YtonipllegfgdiaaBase
import Derived.Shelf.Unicode.ValidAny
import Derived.Lib.LaidU8T
set_option linter.unusedVariables false
set_option linter.unusedSimpArgs false
namespace Go.Proofs.Ytonipllegfgdiaa
open Go.RowKit Go.Shelf Go.Lib
def ren : Ren := {
  f := fun x => match x with
    | 196 => 86
    | 259 => 91
    | n => n
  t := fun x => match x with
    | 0 => 0
    | 3 => 3
    | 4 => 4
    | 5 => 5
    | 9 => 9
    | 12 => 12
    | 46 => 110
    | 53 => 98
    | 119 => 130
    | 138 => 132
    | 139 => 133
    | n => n
  g := fun x => match x with
    | 3 => 0
    | 4 => 1
    | n => n }
theorem laysV : Lays.n196 Try.prog ren := {
  mixed := by kernel_rfl
  f196 := Try.func86.trans (congrArg some (by kernel_rfl))
  f259 := Try.func91.trans (congrArg some (by kernel_rfl))
  t0 := Try.underlying0
  a0 := Try.isAgg0
  z0 := Try.sizeOf0
  v0 := Try.zeroValue0
  t3 := Try.underlying3
  a3 := Try.isAgg3
  z3 := Try.sizeOf3
  v3 := Try.zeroValue3
  t4 := Try.underlying4
  a4 := Try.isAgg4
  z4 := Try.sizeOf4
  v4 := Try.zeroValue4
  t5 := Try.underlying5
  a5 := Try.isAgg5
  z5 := Try.sizeOf5
  v5 := Try.zeroValue5
  t9 := Try.underlying9
  a9 := Try.isAgg9
  z9 := Try.sizeOf9
  v9 := Try.zeroValue9
  t12 := Try.underlying12
  a12 := Try.isAgg12
  z12 := Try.sizeOf12
  v12 := Try.zeroValue12
  t46 := Try.underlying110
  a46 := Try.isAgg110
  z46 := Try.sizeOf110
  v46 := Try.zeroValue110
  t53 := Try.underlying98
  a53 := Try.isAgg98
  z53 := Try.sizeOf98
  v53 := Try.zeroValue98
  t119 := Try.underlying130
  a119 := Try.isAgg130
  z119 := Try.sizeOf130
  t138 := Try.underlying132
  a138 := Try.isAgg132
  z138 := Try.sizeOf132
  v138 := Try.zeroValue132
  t139 := Try.underlying133
  a139 := Try.isAgg133
  z139 := Try.sizeOf133
  v139 := Try.zeroValue133
  g3 := by kernel_rfl
  g4 := by kernel_rfl }
/-- The world holds the library's two tables of UTF-8. -/
def Tabs (w : World) : Prop := Utf8Tabs (ren.g 3) (ren.g 4) w
theorem Tabs.below {w w' : World} (h : Tabs w) (hb : Below w.heap.size w w') : Tabs w' := Utf8Tabs_below h hb
theorem tabs_of {w : World} {l : List (String × DataW Unit)} (hL : laidMet Try.prog l w) (h1 : ("unicode/utf8.first", firstData) ∈ l) (h2 : ("unicode/utf8.acceptRanges", acceptData) ∈ l) : Tabs w :=
  utf8Tabs_of_readsT (U8Types.of196 laysV) ⟨by kernel_rfl, by kernel_rfl, by kernel_rfl, by kernel_rfl, by kernel_rfl, by kernel_rfl, by kernel_rfl⟩ (laidMet.reads hL h1) (laidMet.reads hL h2)
theorem valid_any (s : ByteArray) (w : World) (hs : s.size ≤ 9223372036854775807) (hT : Tabs w) :
    Calls Try.prog 86 #[.string s] w fun e w' => e = .returned (.bool (validD s.data.toList)) ∧ Below w.heap.size w w' :=
  Any.utf8_ValidString laysV s w hs hT
end Go.Proofs.Ytonipllegfgdiaa
