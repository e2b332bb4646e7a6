/- Of the proof of a statement: tags. -/
import Derived.Below
import Derived.Laws.Rows
import Derived.Test.YtimglglgcgpjgaaGreatDoorRows
import Derived.WalkKit
import Derived.Lib.Hide
set_option linter.unusedVariables false
set_option linter.unusedSimpArgs false
set_option maxRecDepth 100000
set_option maxHeartbeats 8000000
namespace Go.Proofs.YtimglglgcgpjgaaGreatDoor
structure Tg (n:Nat) where
instance:CoeOut World Nat:=⟨fun w=>w.heap.size⟩
instance:Coe Int Value:=⟨fun n=>.int .i64 n⟩
instance:Coe Nat Value:=⟨fun n=>.int .i64 (n:Int)⟩
instance:Coe ByteArray Value:=⟨fun s=>.string s⟩
instance:CoeOut (Tg 3) TypeId:=⟨fun _=>85⟩
instance:CoeOut (Tg 4) TypeId:=⟨fun _=>70⟩
instance:CoeOut (Tg 5) TypeId:=⟨fun _=>66⟩
instance:CoeOut (Tg 6) FuncId:=⟨fun _=>104⟩
instance:CoeOut (Tg 7) FuncId:=⟨fun _=>107⟩
instance:CoeOut (Tg 8) FuncId:=⟨fun _=>111⟩
instance:CoeOut (Tg 9) Int:=⟨fun _=>1⟩
instance:CoeOut (Tg 10) Nat:=⟨fun _=>1⟩
instance:CoeOut (Tg 11) Int:=⟨fun _=>2⟩
instance:CoeOut (Tg 12) Nat:=⟨fun _=>2⟩
instance:CoeOut (Tg 13) Nat:=⟨fun _=>5⟩
instance:CoeOut (Tg 14) TypeId:=⟨fun _=>22⟩
instance:CoeOut (Tg 15) Nat:=⟨fun _=>3⟩
instance:CoeOut (Tg 16) TypeId:=⟨fun _=>23⟩
instance:CoeOut (Tg 17) TypeId:=⟨fun _=>24⟩
instance:CoeOut (Tg 18) FuncId:=⟨fun _=>129⟩
instance:CoeOut (Tg 20) FuncId:=⟨fun _=>132⟩
instance:CoeOut (Tg 22) FuncId:=⟨fun _=>135⟩
instance:CoeOut (Tg 24) Int:=⟨fun _=>5⟩
instance:CoeOut (Tg 25) Int:=⟨fun _=>3⟩
instance:CoeOut (Tg 26) Int:=⟨fun _=>4⟩
instance:CoeOut (Tg 27) Int:=⟨fun _=>6⟩
instance:CoeOut (Tg 28) Int:=⟨fun _=>7⟩
instance:CoeOut (Tg 29) Nat:=⟨fun _=>6⟩
instance:CoeOut (Tg 30) Nat:=⟨fun _=>7⟩
instance:CoeOut (Tg 31) Nat:=⟨fun _=>8⟩
instance:CoeOut (Tg 32) Nat:=⟨fun _=>9⟩
instance:CoeOut (Tg 33) Nat:=⟨fun _=>10⟩
instance:CoeOut (Tg 34) Nat:=⟨fun _=>11⟩
instance:CoeOut (Tg 35) Nat:=⟨fun _=>12⟩
instance:CoeOut (Tg 36) Nat:=⟨fun _=>13⟩
instance:CoeOut (Tg 37) FuncId:=⟨fun _=>146⟩
instance:CoeOut (Tg 38) FuncId:=⟨fun _=>148⟩
instance:CoeOut (Tg 39) Nat:=⟨fun _=>61⟩
instance:CoeOut (Tg 40) Nat:=⟨fun _=>62⟩
instance:CoeOut (Tg 41) Nat:=⟨fun _=>65⟩
instance:CoeOut (Tg 42) Nat:=⟨fun _=>66⟩
instance:CoeOut (Tg 43) Nat:=⟨fun _=>68⟩
instance:CoeOut (Tg 44) Nat:=⟨fun _=>69⟩
instance:CoeOut (Tg 45) Nat:=⟨fun _=>64⟩
instance:CoeOut (Tg 46) Nat:=⟨fun _=>77⟩
instance:CoeOut (Tg 47) Nat:=⟨fun _=>76⟩
instance:CoeOut (Tg 48) Nat:=⟨fun _=>85⟩
instance:CoeOut (Tg 49) Nat:=⟨fun _=>86⟩
instance:CoeOut (Tg 50) Nat:=⟨fun _=>89⟩
instance:CoeOut (Tg 51) Nat:=⟨fun _=>90⟩
instance:CoeOut (Tg 52) Nat:=⟨fun _=>92⟩
instance:CoeOut (Tg 53) Nat:=⟨fun _=>93⟩
instance:CoeOut (Tg 54) Nat:=⟨fun _=>88⟩
instance:CoeOut (Tg 55) Nat:=⟨fun _=>101⟩
instance:CoeOut (Tg 56) Nat:=⟨fun _=>100⟩
instance:CoeOut (Tg 57) Nat:=⟨fun _=>115⟩
instance:CoeOut (Tg 58) Nat:=⟨fun _=>116⟩
instance:CoeOut (Tg 59) Nat:=⟨fun _=>119⟩
instance:CoeOut (Tg 60) Nat:=⟨fun _=>120⟩
instance:CoeOut (Tg 61) Nat:=⟨fun _=>122⟩
instance:CoeOut (Tg 62) Nat:=⟨fun _=>123⟩
instance:CoeOut (Tg 63) Nat:=⟨fun _=>118⟩
instance:CoeOut (Tg 64) Nat:=⟨fun _=>131⟩
instance:CoeOut (Tg 65) Nat:=⟨fun _=>130⟩
instance:CoeOut (Tg 66) Nat:=⟨fun _=>55⟩
instance:CoeOut (Tg 67) Nat:=⟨fun _=>54⟩
instance:CoeOut (Tg 68) Nat:=⟨fun _=>75⟩
instance:CoeOut (Tg 69) Nat:=⟨fun _=>74⟩
instance:CoeOut (Tg 70) Nat:=⟨fun _=>163⟩
instance:CoeOut (Tg 71) Nat:=⟨fun _=>162⟩
instance:CoeOut (Tg 72) Nat:=⟨fun _=>181⟩
instance:CoeOut (Tg 73) Nat:=⟨fun _=>183⟩
instance:CoeOut (Tg 74) Nat:=⟨fun _=>0⟩
instance:CoeOut (Tg 75) Nat:=⟨fun _=>22⟩
instance:CoeOut (Tg 76) Nat:=⟨fun _=>23⟩
instance:CoeOut (Tg 77) Nat:=⟨fun _=>4⟩
instance:CoeOut (Tg 78) TypeId:=⟨fun _=>176⟩
instance:CoeOut (Tg 79) TypeId:=⟨fun _=>178⟩
instance:CoeOut (Tg 80) TypeId:=⟨fun _=>185⟩
instance:CoeOut (Tg 81) FuncId:=⟨fun _=>101⟩
instance:CoeOut (Tg 82) FuncId:=⟨fun _=>110⟩
instance:CoeOut (Tg 83) Nat:=⟨fun _=>19⟩
instance:CoeOut (Tg 84) Nat:=⟨fun _=>27⟩
instance:CoeOut (Tg 85) Nat:=⟨fun _=>46⟩
instance:CoeOut (Tg 86) Int:=⟨fun _=>8⟩
instance:CoeOut (Tg 87) Int:=⟨fun _=>9⟩
instance:CoeOut (Tg 88) Int:=⟨fun _=>0⟩
open Go.RowKit
structure Pπ (b i:Nat) where
def π (b i:Nat):Pπ b i:=⟨⟩
instance {b i}:CoeOut (Pπ b i) Value:=⟨fun _=>.pointer (some ⟨b,i,none⟩)⟩
structure Pζ (w:World) (b i:Nat) (v:Value) where
def ζ (w:World) (b i:Nat) (v:Value):Pζ w b i v:=⟨⟩
instance {w b i v}:CoeSort (Pζ w b i v) Prop:=⟨fun _=>w.cell? ⟨b,i,none⟩=some v⟩
instance {w b i v}:CoeOut (Pζ w b i v) Prop:=⟨fun _=>w.cell? ⟨b,i,none⟩=some v⟩
structure Pκ (w:World) (b i:Nat) where
def κ (w:World) (b i:Nat):Pκ w b i:=⟨⟩
instance {w b i}:CoeSort (Pκ w b i) Prop:=⟨fun _=>w.frozen? ⟨b,i,none⟩=false⟩
instance {w b i}:CoeOut (Pκ w b i) Prop:=⟨fun _=>w.frozen? ⟨b,i,none⟩=false⟩
structure PsX (w:World) (b i:Nat) (v:Value) where
def sX (w:World) (b i:Nat) (v:Value):PsX w b i v:=⟨⟩
instance {w b i v}:CoeOut (PsX w b i v) World:=⟨fun _=>w.setCell ⟨b,i,none⟩ v⟩
structure Pχ (w:World) (c:Array Value) (t:TypeId) where
def χ (w:World) (c:Array Value) (t:TypeId):Pχ w c t:=⟨⟩
instance {w c t}:CoeOut (Pχ w c t) World:=⟨fun _=>w.alloc (.cells c t)⟩
structure Pψ (f:FuncId) (a:Array Value) (w:World) (R:Ending->World->Prop) where
def ψ (f:FuncId) (a:Array Value) (w:World) (R:Ending->World->Prop):Pψ f a w R:=⟨⟩
instance {f a w R}:CoeSort (Pψ f a w R) Prop:=⟨fun _=>Calls Tryz.prog f a w R⟩
instance {f a w R}:CoeOut (Pψ f a w R) Prop:=⟨fun _=>Calls Tryz.prog f a w R⟩
def φ (p:Prop):Prop:=p
theorem ω {p:Prop} (h:p):φ p:=h
theorem φ.z {p:Prop} (h:φ p):p:=h
theorem lJ {n:Nat}:n<=n:=.refl
theorem θ {B:Nat} {w:World}:Below B w w:=Below.refl B w
theorem gO {α:Type} {l:List α} {i:Nat} (h:i<l.length):l[i]? = some l[i]:=List.getElem?_eq_getElem h
theorem n5 (w:World) (o:Obj):(w.alloc o).heap[w.heap.size]? = some o:=heap_alloc_new w o
theorem t8 {p:Prop} [Decidable p] (h:p):decide p=true:=decide_eq_true h
theorem fK {p:Prop} [Decidable p] (h:¬p):decide p=false:=decide_eq_false h
theorem eY {α:Type} [BEq α] [LawfulBEq α] {a b:α} (h:a≠b):(a==b)=false:=beq_false_of_ne h
theorem u7 {n m k:Nat} (h:n<m) (j:m<=k):n<k:=Nat.lt_of_lt_of_le h j
theorem v6 {n m k:Nat} (h:n<=m) (j:m<=k):n<=k:=Nat.le_trans h j
theorem m8 {α:Type} {l:List α} {i:Nat} {a:α} (h:l[i]? = some a):a ∈ l:=List.mem_of_getElem? h
end Go.Proofs.YtimglglgcgpjgaaGreatDoor
