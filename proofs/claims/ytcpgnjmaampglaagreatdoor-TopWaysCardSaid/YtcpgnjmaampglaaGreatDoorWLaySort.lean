/- Of the proof of a statement: Recs, Tabs, Chk, LaySort. -/
import Derived.Deep.AppendLies
import Derived.Shelf.Unicode.ValidAny
import Derived.Lib.LaidU8T
import Derived.Shelf.SlSortCmp.WholeK
import Derived.Shelf.SlGeneric
import Derived.Ground.SlsfProg
import Derived.Test.YtcpgnjmaampglaaGreatDoorProg
import Derived.Test.YtcpgnjmaampglaaGreatDoorWPlChk
set_option linter.unusedVariables false
set_option linter.unusedSimpArgs false
set_option maxRecDepth 100000
set_option maxHeartbeats 8000000
/- Rows of records: lists of elements of several cells each. -/
namespace Go.Proofs.YtcpgnjmaampglaaGreatDoor
open Go.Lib (hid)
open Go.RowKit
def au {α:Type} (enc:α→List Value) (l:List α):List Value:=l.flatMap enc
section
variable {α:Type} {enc:α→List Value} {sz:Nat}
theorem dK (l k:List α):au enc (l ++ k)=au enc l ++ au enc k:=List.flatMap_append
theorem kO (a:α):au enc [a]=enc a:=by simp [au]
theorem iW (h:∀ a,(enc a).length=sz):∀ l:List α,(au enc l).length=l.length*sz
 | []=>by simp [au]
 | a :: l=>by
  have:=iW h l
  unfold au at this ⊢
  rw [List.flatMap_cons,List.length_append,this,h,List.length_cons,Nat.add_mul]; omega
theorem oT (h:∀ a,(enc a).length=sz):∀ (l:List α) (i j:Nat) (a:α),l[i]? = some a→j<sz→(au enc l)[i*sz+j]? = (enc a)[j]?
 | [],i,j,a,hi,_=>by simp at hi
 | b :: l,0,j,a,hi,hj=>by
  simp only [List.getElem?_cons_zero,Option.some.injEq] at hi
  subst hi
  unfold au
  rw [List.flatMap_cons,Nat.zero_mul,Nat.zero_add,List.getElem?_append_left (by rw [h]; exact hj)]
 | b :: l,i+1,j,a,hi,hj=>by
  have:=oT h l i j a (by simpa using hi) hj
  unfold au at this ⊢
  rw [List.flatMap_cons,List.getElem?_append_right (by rw [h,Nat.add_mul]; omega),h,show (i+1)*sz+j - sz=i*sz+j from by rw [Nat.add_mul]; omega]
  exact this
theorem aQ.dF {w:World} {B n:Nat} {A:Option Addr} {l:List α} (hz:∀ a,(enc a).length=sz) (h:aQ w B sz A n (au enc l)) (hl:l.length=n) {i:Nat} {a:α} (hi:l[i]? = some a) :
 ∃ b off,A=some ⟨b,off,none⟩∧b<B∧∀ j u,(enc a)[j]? = some u→w.cell? ⟨b,off+i*sz+j,none⟩=some u:=by
 have hin:i<n:=by
  rw [← hl]
  rcases Nat.lt_or_ge i l.length with h1 | h1
  · exact h1
  · rw [List.getElem?_eq_none h1] at hi; cases hi
 obtain⟨b,off,e,hB,hr⟩:=h.at_ (by omega)
 refine⟨b,off,e,hB,fun j u hu=>?_⟩
 rw [Nat.add_assoc]
 refine hr _ _ ?_
 have hj:j<sz:=by
  rw [← hz a]
  rcases Nat.lt_or_ge j (enc a).length with h1 | h1
  · exact h1
  · rw [List.getElem?_eq_none h1] at hu; cases hu
 rw [oT hz l i j a hi hj]; exact hu
end
theorem cD {w:World} {base:Nat} {e:TypeId} {sz n c:Nat} {A:Option Addr} {xs:List Value} (h:w.ownsRow base e sz (.slice A n c) n xs):aQ w w.heap.size sz A n xs:=
 ⟨h.1,fun hn=>by
  obtain⟨g,cap,hv,hb,hg⟩:=h.form hn
  injection hv with hA _ hc
  subst hA; subst hc
  refine⟨g,0,rfl,hg,fun j u hu=>?_⟩
  have hj:j<n*sz:=by
   rw [← h.1]
   rcases Nat.lt_or_ge j xs.length with h1 | h1
   · exact h1
   · rw [List.getElem?_eq_none h1] at hu; cases hu
  rw [Nat.zero_add,h.cellAt j hj]; exact hu⟩
section
variable {P:Program} {w:World} {ops:Array Oper} {rest:List Oper} {o:Oper} {a:Act} {Q:Exit→Act→World→Prop}
theorem fu {α:Type} (enc:α→List Value) (hgd:o.guard=none) (s x:Operand) (t e:TypeId) (z:Value) (sz bytes:Nat) (ho:o.op = .call { callee:=.builtin .append,args:=#[s,x],argTypes:=#[t,t] })
 (ht:P.underlying t=some (.slice e)) (hinfo:(P.info? e).map (fun i=>(i.zero,i.size,i.bytes))=some (some z,sz,bytes)) (hzs:z.cells.size=sz) (hsz:0<sz)
 (henc:∀ a,(enc a).length=sz) (h1:∀ a,∀ u ∈ enc a,u.oneCell'=true)
 (base:Nat) (A:Option Addr) (m c:Nat) (l:List α) (hs:a.eval s = .slice A m c) (hown:w.ownsRow base e sz (.slice A m c) m (au enc l))
 (cs:Array Value) (b:α) (hu:cs.toList=enc b) (g:Nat) (hg:w.heap.size=g) (hx:a.eval x = .slice (some ⟨g,0,none⟩) 1 1) (hm:(m+1)*bytes≤140737488355328) (h63:m+1≤maxLen) (hbase:base≤w.heap.size)
 (h:∀ A' c' w',w'.ownsRow base e sz (.slice A' (m+1) c') (m+1) (au enc (l ++ [b]))→dE w w' (.slice A m c) (.slice A' (m+1) c')→wpList P ops Q rest (a.put o.dst (.slice A' (m+1) c')) w') :
 wpList P ops Q (o :: rest) a (w.alloc (.cells cs e)):=by
 subst hg
 obtain⟨i0,hi,hz0,hz1,hz2⟩:=info_parts hinfo
 have hcs:cs.size=1*sz:=by rw [← Array.length_toList,hu,henc,Nat.one_mul]
 refine xB hgd s x t ho base e i0 z sz bytes ht hi hz0 hz1 hz2 hzs hsz _ m _ hs hown cs 1 (by omega) hx hcs (fun u hu'=>?_) h63 hm hbase (fun v' w' o' g' b' _=>?_)
 · rw [hu] at hu'
   exact h1 _ _ hu'
 · have e1:au enc l ++ cs.toList=au enc (l ++ [b]):=by rw [hu,dK,kO]
   rw [e1] at o'
   obtain⟨g,cap,hv,_⟩:=o'.form (by omega)
   subst hv
   exact h _ _ _ o' ⟨g',b'⟩
end
end Go.Proofs.YtcpgnjmaampglaaGreatDoor
/- The contract of utf8.ValidString, laid at this program: numbers only. -/
namespace Go.Proofs.YtcpgnjmaampglaaGreatDoor
open Go.Lib (hid)
open Go.RowKit Go.Shelf Go.Lib
def ren:Ren:={
 f:=fun x=>match x with
  | 196=>173
  | 259=>215
  | n=>n
 t:=fun x=>match x with
  | 0=>0
  | 3=>3
  | 4=>4
  | 5=>5
  | 9=>9
  | 12=>12
  | 46=>233
  | 53=>146
  | 119=>327
  | 138=>329
  | 139=>330
  | n=>n
 g:=fun x=>match x with
  | 3=>0
  | 4=>1
  | n=>n }
theorem O5:Lays.n196 Tryz.prog ren:={
 mixed:=by kernel_rfl
 f196:=Tryz.func173.trans (congrArg some (by kernel_rfl))
 f259:=Tryz.func215.trans (congrArg some (by kernel_rfl))
 t0:=Tryz.underlying0
 a0:=Tryz.isAgg0
 z0:=Tryz.sizeOf0
 v0:=Tryz.zeroValue0
 t3:=Tryz.underlying3
 a3:=Tryz.isAgg3
 z3:=Tryz.sizeOf3
 v3:=Tryz.zeroValue3
 t4:=Tryz.underlying4
 a4:=Tryz.isAgg4
 z4:=Tryz.sizeOf4
 v4:=Tryz.zeroValue4
 t5:=Tryz.underlying5
 a5:=Tryz.isAgg5
 z5:=Tryz.sizeOf5
 v5:=Tryz.zeroValue5
 t9:=Tryz.underlying9
 a9:=Tryz.isAgg9
 z9:=Tryz.sizeOf9
 v9:=Tryz.zeroValue9
 t12:=Tryz.underlying12
 a12:=Tryz.isAgg12
 z12:=Tryz.sizeOf12
 v12:=Tryz.zeroValue12
 t46:=Tryz.underlying233
 a46:=Tryz.isAgg233
 z46:=Tryz.sizeOf233
 v46:=Tryz.zeroValue233
 t53:=Tryz.underlying146
 a53:=Tryz.isAgg146
 z53:=Tryz.sizeOf146
 v53:=Tryz.zeroValue146
 t119:=Tryz.underlying327
 a119:=Tryz.isAgg327
 z119:=Tryz.sizeOf327
 t138:=Tryz.underlying329
 a138:=Tryz.isAgg329
 z138:=Tryz.sizeOf329
 v138:=Tryz.zeroValue329
 t139:=Tryz.underlying330
 a139:=Tryz.isAgg330
 z139:=Tryz.sizeOf330
 v139:=Tryz.zeroValue330
 g3:=by kernel_rfl
 g4:=by kernel_rfl }
def Tabs (w:World):Prop:=Utf8Tabs (ren.g 3) (ren.g 4) w
theorem Tabs.below {w w':World} (h:Tabs w) (hb:Below w.heap.size w w'):Tabs w':=Utf8Tabs_below h hb
theorem NZ {w : World} {l : List (String × DataW Unit)} (hL : laidMet Tryz.prog l w) (h1 : ("unicode/utf8.first", firstData) ∈ l) (h2 : ("unicode/utf8.acceptRanges", acceptData) ∈ l) : Tabs w :=
 utf8Tabs_of_readsT (U8Types.of196 O5) ⟨by kernel_rfl,by kernel_rfl,by kernel_rfl,by kernel_rfl,by kernel_rfl,by kernel_rfl,by kernel_rfl⟩ (laidMet.reads hL h1) (laidMet.reads hL h2)
theorem vD (s:ByteArray) (w:World) (hs:s.size≤9223372036854775807) (hT:Tabs w) :
 Calls Tryz.prog 173 #[.string s] w fun e w'=>e = .returned (.bool (validD s.data.toList))∧Below w.heap.size w w':=
 Any.utf8_ValidString O5 s w hs hT
end Go.Proofs.YtcpgnjmaampglaaGreatDoor
/- The walks of the checks of one row, in the program. -/
namespace Go.Proofs.YtcpgnjmaampglaaGreatDoor
open Go.Lib (hid)
open Go.RowKit
open Go.Lib (validD)
theorem tA (s:ByteArray) (w:World) (hs:s.size≤9223372036854775807) (hT:Tabs w):Calls Tryz.prog 131 #[.string s] w fun e w'=>e = .returned (.bool (iZ s))∧Below w.heap.size w w':=by
 by_cases h:s.size≤16
 · rw [Ex h]
   have hV:=hid (vD s w hs hT)
   generalize validD s.data.toList=b at hV ⊢
   go_enter Tryz.func131,Tryz.ntmps131
   go_wp2_with fail
   refine Calls.mono hV.out ?_
   rintro e w1 ⟨rfl,hb⟩
   go_wp2
   go_ret
   exact⟨rfl,hb⟩
 · rw [sJ h]
   go_enter Tryz.func131,Tryz.ntmps131
   go_wp2
   go_ret
   exact⟨rfl,Below.refl _ _⟩
theorem mV (s:ByteArray) (w:World) (hs:s.size≤9223372036854775807) (hT:Tabs w):Calls Tryz.prog 130 #[.string s] w fun e w'=>e = .returned (.bool (cK s))∧Below w.heap.size w w':=by
 by_cases h:s.size=0
 · rw [CO h]
   obtain rfl:=qY h
   go_enter Tryz.func130,Tryz.ntmps130
   go_wp2
   go_ret
   exact⟨rfl,Below.refl _ _⟩
 · rw [Ey h]
   have hV:=hid (tA s w hs hT)
   have e1:=kZ h
   have e2:=o9 h
   generalize iZ s=b at hV ⊢
   go_enter Tryz.func130,Tryz.ntmps130
   go_wp2_with fail
   refine Calls.mono hV.out ?_
   rintro e w1 ⟨rfl,hb⟩
   go_wp2
   go_ret
   exact⟨rfl,hb⟩
theorem Ez (n lo hi:Int) (h1:lo≤n) (h2:n≤hi) (w:World):Calls Tryz.prog 79 #[.int .i64 n,.int .i64 lo,.int .i64 hi] w fun e w'=>e = .returned (.bool true)∧w=w':=by
 have e2:decide (n≤hi)=true:=decide_eq_true h2
 go_enter Tryz.func79,Tryz.ntmps79
 go_wp2
 go_ret
 exact⟨rfl,rfl⟩
theorem Gt (n lo hi:Int) (h:n<lo∨hi<n) (w:World):Calls Tryz.prog 79 #[.int .i64 n,.int .i64 lo,.int .i64 hi] w fun e w'=>e = .returned (.bool false)∧w=w':=by
 by_cases h1:lo≤n
 · have h2:hi<n:=by omega
   have e2:decide (n≤hi)=false:=decide_eq_false (by omega)
   clear h
   go_enter Tryz.func79,Tryz.ntmps79
   go_wp2
   go_ret
   exact⟨rfl,rfl⟩
 · have e1:decide (lo≤n)=false:=decide_eq_false h1
   clear h
   go_enter Tryz.func79,Tryz.ntmps79
   go_wp2
   go_ret
   exact⟨rfl,rfl⟩
theorem iP (n lo hi:Int) (w:World):Calls Tryz.prog 79 #[.int .i64 n,.int .i64 lo,.int .i64 hi] w fun e w'=>e = .returned (.bool (ranged n lo hi))∧w=w':=by
 cases h:ranged n lo hi
 · exact Gt n lo hi (mW.1 h) w
 · exact Ez n lo hi (aZ.1 h).1 (aZ.1 h).2 w
theorem uD (j:aB) (w:World) (h1:j.name.size≤9223372036854775807) (h2:j.tag.size≤9223372036854775807) (hT:Tabs w) :
 Calls Tryz.prog 81 #[.agg (aH j).toArray] w fun e w'=>e = .returned (.int .i64 (eZ j))∧Below w.heap.size w w':=by
 obtain⟨E,hE⟩:∃ E,eZ j=E:=⟨_,rfl⟩
 rw [hE]
 have HE:=hid hE
 clear hE
 obtain⟨name,prio,need,tries,tag⟩:=j
 unfold aH
 simp only at h1 h2 ⊢
 have hb0:Below w.heap.size w (w.alloc (.cells #[.string name,.int .i64 prio,.int .i64 need,.int .i64 tries,.string tag] 59)):=(Below.refl _ _).alloc (Nat.le_refl _) _
 have hT0:=hT.below hb0
 have hN:=hid (mV name _ h1 hT0)
 have HT:=hid hT0
 have HB:=hid hb0
 clear hT0 hb0 hT
 go_enter Tryz.func81,Tryz.ntmps81
 go_wp2_with fail
 refine Calls.mono hN.out ?_
 rintro e w1 ⟨rfl,hb1⟩
 have y1:w1.cell? ⟨w.heap.size,1,none⟩=some (.int .i64 prio):=by rw [(eH hb1).1 _ _ (by simp)]; simp [go_sem]
 have y2:w1.cell? ⟨w.heap.size,2,none⟩=some (.int .i64 need):=by rw [(eH hb1).1 _ _ (by simp)]; simp [go_sem]
 have y3:w1.cell? ⟨w.heap.size,3,none⟩=some (.int .i64 tries):=by rw [(eH hb1).1 _ _ (by simp)]; simp [go_sem]
 have y4:w1.cell? ⟨w.heap.size,4,none⟩=some (.string tag):=by rw [(eH hb1).1 _ _ (by simp)]; simp [go_sem]
 have HB1:=hid (HB.out.trans (hb1.mono HB.out.size))
 have HT1:=hid (HT.out.below hb1)
 have hsz:w.heap.size<w1.heap.size:=by have:=hb1.size; simp at this; omega
 clear hb1 HB HT hN
 cases hn:cK name
 · go_wp2
   go_ret
   exact⟨bU (by rw [← HE.out]; simp [eZ,hn]),HB1.out⟩
 go_wp2_with fail
 refine Calls.mono (tA tag w1 h2 HT1.out) ?_
 rintro e w2 ⟨rfl,hb2⟩
 replace y1:=((eH hb2).1 _ _ hsz).trans y1
 replace y2:=((eH hb2).1 _ _ hsz).trans y2
 replace y3:=((eH hb2).1 _ _ hsz).trans y3
 have HB2:=hid (HB1.out.trans (hb2.mono HB1.out.size))
 clear y4 hb2 HB1 HT1 hsz
 cases ht:iZ tag
 · go_wp2
   go_ret
   exact⟨bU (by rw [← HE.out]; simp [eZ,hn,ht]),HB2.out⟩
 go_wp2_with fail
 refine Calls.mono (iP _ _ _ _) ?_
 rintro e w3 ⟨rfl,rfl⟩
 cases hr1:ranged prio (-1000) 1000
 · go_wp2
   go_ret
   exact⟨bU (by rw [← HE.out]; simp [eZ,hn,ht,hr1]),HB2.out⟩
 go_wp2_with fail
 refine Calls.mono (iP _ _ _ _) ?_
 rintro e w3 ⟨rfl,rfl⟩
 cases hr2:ranged need 0 1000000
 · go_wp2
   go_ret
   exact⟨bU (by rw [← HE.out]; simp [eZ,hn,ht,hr1,hr2]),HB2.out⟩
 go_wp2_with fail
 refine Calls.mono (iP _ _ _ _) ?_
 rintro e w3 ⟨rfl,rfl⟩
 cases hr3:ranged tries 0 100
 · go_wp2
   go_ret
   exact⟨bU (by rw [← HE.out]; simp [eZ,hn,ht,hr1,hr2,hr3]),HB2.out⟩
 · go_wp2
   go_ret
   exact⟨bU (by rw [← HE.out]; simp [eZ,hn,ht,hr1,hr2,hr3]),HB2.out⟩
theorem Bb (n:av) (w:World) (h1:n.name.size≤9223372036854775807) (h2:n.zone.size≤9223372036854775807) (hT:Tabs w) :
 Calls Tryz.prog 83 #[.agg (aI n).toArray] w fun e w'=>e = .returned (.int .i64 (eV n))∧Below w.heap.size w w':=by
 obtain⟨E,hE⟩:∃ E,eV n=E:=⟨_,rfl⟩
 rw [hE]
 have HE:=hid hE
 clear hE
 obtain⟨name,room,zone⟩:=n
 unfold aI
 simp only at h1 h2 ⊢
 have hb0:Below w.heap.size w (w.alloc (.cells #[.string name,.int .i64 room,.string zone] 61)):=(Below.refl _ _).alloc (Nat.le_refl _) _
 have hT0:=hT.below hb0
 have hN:=hid (mV name _ h1 hT0)
 have HT:=hid hT0
 have HB:=hid hb0
 clear hT0 hb0 hT
 go_enter Tryz.func83,Tryz.ntmps83
 go_wp2_with fail
 refine Calls.mono hN.out ?_
 rintro e w1 ⟨rfl,hb1⟩
 have y1:w1.cell? ⟨w.heap.size,1,none⟩=some (.int .i64 room):=by rw [(eH hb1).1 _ _ (by simp)]; simp [go_sem]
 have y2:w1.cell? ⟨w.heap.size,2,none⟩=some (.string zone):=by rw [(eH hb1).1 _ _ (by simp)]; simp [go_sem]
 have HB1:=hid (HB.out.trans (hb1.mono HB.out.size))
 have HT1:=hid (HT.out.below hb1)
 have hsz:w.heap.size<w1.heap.size:=by have:=hb1.size; simp at this; omega
 clear hb1 HB HT hN
 cases hn:cK name
 · go_wp2
   go_ret
   exact⟨bU (by rw [← HE.out]; simp [eV,hn]),HB1.out⟩
 go_wp2_with fail
 refine Calls.mono (tA zone w1 h2 HT1.out) ?_
 rintro e w2 ⟨rfl,hb2⟩
 replace y1:=((eH hb2).1 _ _ hsz).trans y1
 have HB2:=hid (HB1.out.trans (hb2.mono HB1.out.size))
 clear y2 hb2 HB1 HT1 hsz
 cases ht:iZ zone
 · go_wp2
   go_ret
   exact⟨bU (by rw [← HE.out]; simp [eV,hn,ht]),HB2.out⟩
 go_wp2_with fail
 refine Calls.mono (iP _ _ _ _) ?_
 rintro e w3 ⟨rfl,rfl⟩
 cases hr1:ranged room 0 1000000
 · go_wp2
   go_ret
   exact⟨bU (by rw [← HE.out]; simp [eV,hn,ht,hr1]),HB2.out⟩
 · go_wp2
   go_ret
   exact⟨bU (by rw [← HE.out]; simp [eV,hn,ht,hr1]),HB2.out⟩
end Go.Proofs.YtcpgnjmaampglaaGreatDoor
/- Contracts of the library laid at this program, in plain words (written by the kit's lay-plain.mjs). -/
namespace Go.Proofs
open Go.Shelf
def zV:Go.Shelf.Ren:=⟨fun | 6=>151 | 15=>189 | 14=>188 | 28=>229 | 29=>230 | 20=>221 | 21=>222 | 22=>223 | 23=>224 | 24=>225 | 25=>226 | 26=>227 | 27=>228 | 46=>265 | 47=>266 | 48=>267 | 49=>268 | 50=>269 | 57=>290 | n=>n,fun | 22=>22 | 24=>59 | 25=>199 | 3=>3 | 39=>233 | 0=>0 | 53=>231 | 55=>146 | 4=>4 | 46=>337 | 45=>336 | 50=>341 | 5=>5 | 9=>9 | 66=>373 | 70=>178 | 76=>391 | 77=>392 | n=>n,fun | n=>n⟩
theorem yE:Go.Proofs.SlLaysF0.n6 Tryz.prog zV:={
 mixed:=by kernel_rfl
 f6:=⟨Tryz.f151.name,by decide,Tryz.func151.trans (congrArg some (by kernel_rfl))⟩
 f14:=⟨Tryz.f188.name,by decide,Tryz.func188.trans (congrArg some (by kernel_rfl))⟩
 f15:=Tryz.func189.trans (congrArg some (by kernel_rfl))
 f20:=⟨Tryz.f221.name,by decide,Tryz.func221.trans (congrArg some (by kernel_rfl))⟩
 f21:=⟨Tryz.f222.name,by decide,Tryz.func222.trans (congrArg some (by kernel_rfl))⟩
 f22:=⟨Tryz.f223.name,by decide,Tryz.func223.trans (congrArg some (by kernel_rfl))⟩
 f23:=⟨Tryz.f224.name,by decide,Tryz.func224.trans (congrArg some (by kernel_rfl))⟩
 f24:=⟨Tryz.f225.name,by decide,Tryz.func225.trans (congrArg some (by kernel_rfl))⟩
 f25:=⟨Tryz.f226.name,by decide,Tryz.func226.trans (congrArg some (by kernel_rfl))⟩
 f26:=⟨Tryz.f227.name,by decide,Tryz.func227.trans (congrArg some (by kernel_rfl))⟩
 f27:=⟨Tryz.f228.name,by decide,Tryz.func228.trans (congrArg some (by kernel_rfl))⟩
 f28:=Tryz.func229.trans (congrArg some (by kernel_rfl))
 f29:=Tryz.func230.trans (congrArg some (by kernel_rfl))
 f46:=⟨Tryz.f265.name,by decide,Tryz.func265.trans (congrArg some (by kernel_rfl))⟩
 f47:=Tryz.func266.trans (congrArg some (by kernel_rfl))
 f48:=Tryz.func267.trans (congrArg some (by kernel_rfl))
 f49:=⟨Tryz.f268.name,by decide,Tryz.func268.trans (congrArg some (by kernel_rfl))⟩
 f50:=⟨Tryz.f269.name,by decide,Tryz.func269.trans (congrArg some (by kernel_rfl))⟩
 f57:=⟨Tryz.f290.name,by decide,Tryz.func290.trans (congrArg some (by kernel_rfl))⟩
 t0:=Tryz.underlying0
 a0:=Tryz.isAgg0
 z0:=Tryz.sizeOf0
 v0:=Tryz.zeroValue0
 t3:=Tryz.underlying3
 a3:=Tryz.isAgg3
 z3:=Tryz.sizeOf3
 v3:=Tryz.zeroValue3
 t4:=Tryz.underlying4
 a4:=Tryz.isAgg4
 z4:=Tryz.sizeOf4
 v4:=Tryz.zeroValue4
 t5:=Tryz.underlying5
 a5:=Tryz.isAgg5
 z5:=Tryz.sizeOf5
 v5:=Tryz.zeroValue5
 t9:=Tryz.underlying9
 a9:=Tryz.isAgg9
 z9:=Tryz.sizeOf9
 v9:=Tryz.zeroValue9
 t22:=Tryz.underlying22
 a22:=Tryz.isAgg22
 z22:=Tryz.sizeOf22
 v22:=Tryz.zeroValue22
 t25:=Tryz.underlying199
 a25:=Tryz.isAgg199
 z25:=Tryz.sizeOf199
 v25:=Tryz.zeroValue199
 t39:=Tryz.underlying233
 a39:=Tryz.isAgg233
 z39:=Tryz.sizeOf233
 v39:=Tryz.zeroValue233
 t45:=Tryz.underlying336
 a45:=Tryz.isAgg336
 z45:=Tryz.sizeOf336
 v45:=Tryz.zeroValue336
 t46:=Tryz.underlying337
 a46:=Tryz.isAgg337
 z46:=Tryz.sizeOf337
 v46:=Tryz.zeroValue337
 t50:=Tryz.underlying341
 a50:=Tryz.isAgg341
 z50:=Tryz.sizeOf341
 v50:=Tryz.zeroValue341
 t53:=Tryz.underlying231
 a53:=Tryz.isAgg231
 z53:=Tryz.sizeOf231
 v53:=Tryz.zeroValue231
 t55:=Tryz.underlying146
 a55:=Tryz.isAgg146
 z55:=Tryz.sizeOf146
 v55:=Tryz.zeroValue146
 t66:=Tryz.underlying373
 a66:=Tryz.isAgg373
 z66:=Tryz.sizeOf373
 v66:=Tryz.zeroValue373
 t70:=Tryz.underlying178
 a70:=Tryz.isAgg178
 z70:=Tryz.sizeOf178
 v70:=Tryz.zeroValue178
 t76:=Tryz.underlying391
 a76:=Tryz.isAgg391
 z76:=Tryz.sizeOf391
 v76:=Tryz.zeroValue391
 t77:=Tryz.underlying392
 a77:=Tryz.isAgg392
 z77:=Tryz.sizeOf392
 v77:=Tryz.zeroValue392 }
def xS:Go.Shelf.Ren:=⟨fun | 6=>155 | 15=>189 | 14=>191 | 28=>229 | 29=>230 | 20=>231 | 21=>232 | 22=>233 | 23=>234 | 24=>235 | 25=>236 | 26=>237 | 27=>238 | 46=>270 | 47=>266 | 48=>267 | 49=>271 | 50=>272 | 57=>291 | n=>n,fun | 22=>23 | 24=>61 | 25=>205 | 3=>3 | 39=>233 | 0=>0 | 53=>231 | 55=>146 | 4=>4 | 46=>337 | 45=>336 | 50=>341 | 5=>5 | 9=>9 | 66=>373 | 70=>178 | 76=>391 | 77=>392 | n=>n,fun | n=>n⟩
theorem wT:Go.Proofs.SlLaysF0.n6 Tryz.prog xS:={
 mixed:=by kernel_rfl
 f6:=⟨Tryz.f155.name,by decide,Tryz.func155.trans (congrArg some (by kernel_rfl))⟩
 f14:=⟨Tryz.f191.name,by decide,Tryz.func191.trans (congrArg some (by kernel_rfl))⟩
 f15:=Tryz.func189.trans (congrArg some (by kernel_rfl))
 f20:=⟨Tryz.f231.name,by decide,Tryz.func231.trans (congrArg some (by kernel_rfl))⟩
 f21:=⟨Tryz.f232.name,by decide,Tryz.func232.trans (congrArg some (by kernel_rfl))⟩
 f22:=⟨Tryz.f233.name,by decide,Tryz.func233.trans (congrArg some (by kernel_rfl))⟩
 f23:=⟨Tryz.f234.name,by decide,Tryz.func234.trans (congrArg some (by kernel_rfl))⟩
 f24:=⟨Tryz.f235.name,by decide,Tryz.func235.trans (congrArg some (by kernel_rfl))⟩
 f25:=⟨Tryz.f236.name,by decide,Tryz.func236.trans (congrArg some (by kernel_rfl))⟩
 f26:=⟨Tryz.f237.name,by decide,Tryz.func237.trans (congrArg some (by kernel_rfl))⟩
 f27:=⟨Tryz.f238.name,by decide,Tryz.func238.trans (congrArg some (by kernel_rfl))⟩
 f28:=Tryz.func229.trans (congrArg some (by kernel_rfl))
 f29:=Tryz.func230.trans (congrArg some (by kernel_rfl))
 f46:=⟨Tryz.f270.name,by decide,Tryz.func270.trans (congrArg some (by kernel_rfl))⟩
 f47:=Tryz.func266.trans (congrArg some (by kernel_rfl))
 f48:=Tryz.func267.trans (congrArg some (by kernel_rfl))
 f49:=⟨Tryz.f271.name,by decide,Tryz.func271.trans (congrArg some (by kernel_rfl))⟩
 f50:=⟨Tryz.f272.name,by decide,Tryz.func272.trans (congrArg some (by kernel_rfl))⟩
 f57:=⟨Tryz.f291.name,by decide,Tryz.func291.trans (congrArg some (by kernel_rfl))⟩
 t0:=Tryz.underlying0
 a0:=Tryz.isAgg0
 z0:=Tryz.sizeOf0
 v0:=Tryz.zeroValue0
 t3:=Tryz.underlying3
 a3:=Tryz.isAgg3
 z3:=Tryz.sizeOf3
 v3:=Tryz.zeroValue3
 t4:=Tryz.underlying4
 a4:=Tryz.isAgg4
 z4:=Tryz.sizeOf4
 v4:=Tryz.zeroValue4
 t5:=Tryz.underlying5
 a5:=Tryz.isAgg5
 z5:=Tryz.sizeOf5
 v5:=Tryz.zeroValue5
 t9:=Tryz.underlying9
 a9:=Tryz.isAgg9
 z9:=Tryz.sizeOf9
 v9:=Tryz.zeroValue9
 t22:=Tryz.underlying23
 a22:=Tryz.isAgg23
 z22:=Tryz.sizeOf23
 v22:=Tryz.zeroValue23
 t25:=Tryz.underlying205
 a25:=Tryz.isAgg205
 z25:=Tryz.sizeOf205
 v25:=Tryz.zeroValue205
 t39:=Tryz.underlying233
 a39:=Tryz.isAgg233
 z39:=Tryz.sizeOf233
 v39:=Tryz.zeroValue233
 t45:=Tryz.underlying336
 a45:=Tryz.isAgg336
 z45:=Tryz.sizeOf336
 v45:=Tryz.zeroValue336
 t46:=Tryz.underlying337
 a46:=Tryz.isAgg337
 z46:=Tryz.sizeOf337
 v46:=Tryz.zeroValue337
 t50:=Tryz.underlying341
 a50:=Tryz.isAgg341
 z50:=Tryz.sizeOf341
 v50:=Tryz.zeroValue341
 t53:=Tryz.underlying231
 a53:=Tryz.isAgg231
 z53:=Tryz.sizeOf231
 v53:=Tryz.zeroValue231
 t55:=Tryz.underlying146
 a55:=Tryz.isAgg146
 z55:=Tryz.sizeOf146
 v55:=Tryz.zeroValue146
 t66:=Tryz.underlying373
 a66:=Tryz.isAgg373
 z66:=Tryz.sizeOf373
 v66:=Tryz.zeroValue373
 t70:=Tryz.underlying178
 a70:=Tryz.isAgg178
 z70:=Tryz.sizeOf178
 v70:=Tryz.zeroValue178
 t76:=Tryz.underlying391
 a76:=Tryz.isAgg391
 z76:=Tryz.sizeOf391
 v76:=Tryz.zeroValue391
 t77:=Tryz.underlying392
 a77:=Tryz.isAgg392
 z77:=Tryz.sizeOf392
 v77:=Tryz.zeroValue392 }
def wD:Go.Shelf.Ren:=⟨fun | 6=>158 | 15=>189 | 14=>193 | 28=>229 | 29=>230 | 20=>239 | 21=>240 | 22=>241 | 23=>242 | 24=>243 | 25=>244 | 26=>245 | 27=>246 | 46=>273 | 47=>266 | 48=>267 | 49=>274 | 50=>275 | 57=>292 | n=>n,fun | 22=>24 | 24=>63 | 25=>212 | 3=>3 | 39=>233 | 0=>0 | 53=>231 | 55=>146 | 4=>4 | 46=>337 | 45=>336 | 50=>341 | 5=>5 | 9=>9 | 66=>373 | 70=>178 | 76=>391 | 77=>392 | n=>n,fun | n=>n⟩
theorem tM:Go.Proofs.SlLaysF0.n6 Tryz.prog wD:={
 mixed:=by kernel_rfl
 f6:=⟨Tryz.f158.name,by decide,Tryz.func158.trans (congrArg some (by kernel_rfl))⟩
 f14:=⟨Tryz.f193.name,by decide,Tryz.func193.trans (congrArg some (by kernel_rfl))⟩
 f15:=Tryz.func189.trans (congrArg some (by kernel_rfl))
 f20:=⟨Tryz.f239.name,by decide,Tryz.func239.trans (congrArg some (by kernel_rfl))⟩
 f21:=⟨Tryz.f240.name,by decide,Tryz.func240.trans (congrArg some (by kernel_rfl))⟩
 f22:=⟨Tryz.f241.name,by decide,Tryz.func241.trans (congrArg some (by kernel_rfl))⟩
 f23:=⟨Tryz.f242.name,by decide,Tryz.func242.trans (congrArg some (by kernel_rfl))⟩
 f24:=⟨Tryz.f243.name,by decide,Tryz.func243.trans (congrArg some (by kernel_rfl))⟩
 f25:=⟨Tryz.f244.name,by decide,Tryz.func244.trans (congrArg some (by kernel_rfl))⟩
 f26:=⟨Tryz.f245.name,by decide,Tryz.func245.trans (congrArg some (by kernel_rfl))⟩
 f27:=⟨Tryz.f246.name,by decide,Tryz.func246.trans (congrArg some (by kernel_rfl))⟩
 f28:=Tryz.func229.trans (congrArg some (by kernel_rfl))
 f29:=Tryz.func230.trans (congrArg some (by kernel_rfl))
 f46:=⟨Tryz.f273.name,by decide,Tryz.func273.trans (congrArg some (by kernel_rfl))⟩
 f47:=Tryz.func266.trans (congrArg some (by kernel_rfl))
 f48:=Tryz.func267.trans (congrArg some (by kernel_rfl))
 f49:=⟨Tryz.f274.name,by decide,Tryz.func274.trans (congrArg some (by kernel_rfl))⟩
 f50:=⟨Tryz.f275.name,by decide,Tryz.func275.trans (congrArg some (by kernel_rfl))⟩
 f57:=⟨Tryz.f292.name,by decide,Tryz.func292.trans (congrArg some (by kernel_rfl))⟩
 t0:=Tryz.underlying0
 a0:=Tryz.isAgg0
 z0:=Tryz.sizeOf0
 v0:=Tryz.zeroValue0
 t3:=Tryz.underlying3
 a3:=Tryz.isAgg3
 z3:=Tryz.sizeOf3
 v3:=Tryz.zeroValue3
 t4:=Tryz.underlying4
 a4:=Tryz.isAgg4
 z4:=Tryz.sizeOf4
 v4:=Tryz.zeroValue4
 t5:=Tryz.underlying5
 a5:=Tryz.isAgg5
 z5:=Tryz.sizeOf5
 v5:=Tryz.zeroValue5
 t9:=Tryz.underlying9
 a9:=Tryz.isAgg9
 z9:=Tryz.sizeOf9
 v9:=Tryz.zeroValue9
 t22:=Tryz.underlying24
 a22:=Tryz.isAgg24
 z22:=Tryz.sizeOf24
 v22:=Tryz.zeroValue24
 t25:=Tryz.underlying212
 a25:=Tryz.isAgg212
 z25:=Tryz.sizeOf212
 v25:=Tryz.zeroValue212
 t39:=Tryz.underlying233
 a39:=Tryz.isAgg233
 z39:=Tryz.sizeOf233
 v39:=Tryz.zeroValue233
 t45:=Tryz.underlying336
 a45:=Tryz.isAgg336
 z45:=Tryz.sizeOf336
 v45:=Tryz.zeroValue336
 t46:=Tryz.underlying337
 a46:=Tryz.isAgg337
 z46:=Tryz.sizeOf337
 v46:=Tryz.zeroValue337
 t50:=Tryz.underlying341
 a50:=Tryz.isAgg341
 z50:=Tryz.sizeOf341
 v50:=Tryz.zeroValue341
 t53:=Tryz.underlying231
 a53:=Tryz.isAgg231
 z53:=Tryz.sizeOf231
 v53:=Tryz.zeroValue231
 t55:=Tryz.underlying146
 a55:=Tryz.isAgg146
 z55:=Tryz.sizeOf146
 v55:=Tryz.zeroValue146
 t66:=Tryz.underlying373
 a66:=Tryz.isAgg373
 z66:=Tryz.sizeOf373
 v66:=Tryz.zeroValue373
 t70:=Tryz.underlying178
 a70:=Tryz.isAgg178
 z70:=Tryz.sizeOf178
 v70:=Tryz.zeroValue178
 t76:=Tryz.underlying391
 a76:=Tryz.isAgg391
 z76:=Tryz.sizeOf391
 v76:=Tryz.zeroValue391
 t77:=Tryz.underlying392
 a77:=Tryz.isAgg392
 z77:=Tryz.sizeOf392
 v77:=Tryz.zeroValue392 }
end Go.Proofs
