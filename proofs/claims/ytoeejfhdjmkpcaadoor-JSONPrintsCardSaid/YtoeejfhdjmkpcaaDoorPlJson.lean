/- What Print says: plain. -/
import Derived.Test.YtoeejfhdjmkpcaaDoorPlQuote
import Derived.Test.YtoeejfhdjmkpcaaDoorBase
import Derived.Lib.ItoaNum
import Derived.Lib.Join
set_option linter.unusedVariables false
set_option linter.unusedSimpArgs false
namespace Go.Proofs.YtoeejfhdjmkpcaaDoor
/-- The bytes of a word of the text. -/
def ascii (s : String) : List UInt8 := s.toUTF8.data.toList
/-- A field: its name, and a number or a text. -/
inductive FV where
  | num (n : Int)
  | txt (s : ByteArray)
def fvL : FV → List UInt8
  | .num n => Go.Lib.itoa n
  | .txt s => quoteL s.data.toList
def fieldL (f : ByteArray × FV) : List UInt8 := quoteL f.1.data.toList ++ [58] ++ fvL f.2
/-- With a comma between. -/
def commaL : List (List UInt8) → List UInt8
  | [] => []
  | x :: l => x ++ l.flatMap fun y => 44 :: y
def objL (l : List (ByteArray × FV)) : List UInt8 := [123] ++ commaL (l.map fieldL) ++ [125]
def arrL (name : ByteArray) (l : List (List UInt8)) : List UInt8 := [44] ++ quoteL name.data.toList ++ [58, 91] ++ commaL l ++ [93]
theorem commaL_snoc (l : List (List UInt8)) (y : List UInt8) : commaL (l ++ [y]) = if l = [] then y else commaL l ++ 44 :: y := by
  cases l with
  | nil => simp [commaL]
  | cons x l => simp [commaL]
theorem commaL_join (l : List (List UInt8)) : Go.Lib.join l [44] = commaL l := by
  cases l with
  | nil => rfl
  | cons x l =>
    rw [Go.Lib.join_cons]
    show x ++ (l.map fun y => [44] ++ y).flatten = x ++ l.flatMap fun y => 44 :: y
    rw [List.flatMap_def]
    rfl
/-- The three rows. -/
def jobFs (j : JobD) : List (ByteArray × FV) := [(⟨#[110, 97, 109, 101]⟩, .txt j.name), (⟨#[112, 114, 105, 111]⟩, .num j.prio), (⟨#[110, 101, 101, 100]⟩, .num j.need), (⟨#[116, 114, 105, 101, 115]⟩, .num j.tries), (⟨#[116, 97, 103]⟩, .txt j.tag)]
def nodeFs (n : NodeD) : List (ByteArray × FV) := [(⟨#[110, 97, 109, 101]⟩, .txt n.name), (⟨#[114, 111, 111, 109]⟩, .num n.room), (⟨#[122, 111, 110, 101]⟩, .txt n.zone)]
def leaseFs (l : LeaseD) : List (ByteArray × FV) := [(⟨#[106, 111, 98]⟩, .txt l.job), (⟨#[110, 111, 100, 101]⟩, .txt l.node), (⟨#[117, 110, 116, 105, 108]⟩, .num l.till)]
def printL (st : StateD) : List UInt8 := [123, 34, 114, 101, 118, 34, 58] ++ Go.Lib.itoa st.rev ++ arrL ⟨#[106, 111, 98, 115]⟩ (st.jobs.map fun j => objL (jobFs j)) ++ arrL ⟨#[110, 111, 100, 101, 115]⟩ (st.nodes.map fun n => objL (nodeFs n)) ++ arrL ⟨#[108, 101, 97, 115, 101, 115]⟩ (st.leases.map fun l => objL (leaseFs l)) ++ [125]
end Go.Proofs.YtoeejfhdjmkpcaaDoor
