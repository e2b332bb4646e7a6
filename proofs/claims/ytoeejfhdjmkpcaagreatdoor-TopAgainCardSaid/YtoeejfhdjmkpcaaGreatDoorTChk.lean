/- Of the proof of a statement: PlRx, PlWDec, Chk, PlJp, PlJr. -/
import Derived.Lib.AtoiAll
import Derived.Lib.AtoiAllCases
import Derived.Lib.Small
import Derived.Lib.ItoaNum
import Derived.Lib.Join
import Derived.Test.YtoeejfhdjmkpcaaGreatDoorTPlRows
set_option linter.unusedVariables false
set_option linter.unusedSimpArgs false
set_option maxRecDepth 100000
set_option maxHeartbeats 8000000
/- What a reader of bytes gives: plain. -/
namespace Go.Proofs.YtoeejfhdjmkpcaaGreatDoor
open Go.Lib (hid)
inductive RR (α:Type) where
 | ok (a:α) (r:ByteArray)
 | bad (e:Nat)
def RR.bind {α β:Type} (x:RR α) (f:α→ByteArray→RR β):RR β:=match x with
 | .ok a r=>f a r
 | .bad e=>.bad e
theorem RR.bind_ok {α β:Type} (a:α) (r:ByteArray) (f:α→ByteArray→RR β):(RR.ok a r).bind f=f a r:=rfl
theorem RR.fJ {α β:Type} (e:Nat) (f:α→ByteArray→RR β):(RR.bad e:RR α).bind f = .bad e:=rfl
def RR.st {α:Type} (x:RR α):RR Unit:=x.bind fun _ r=>.ok () r
def RR.Good {α:Type} (N:Nat) (x:RR α):Prop:=match x with
 | .ok _ r=>r.size≤N
 | .bad e=>e≠0∧e≤10
theorem RR.Good.bind {α β:Type} {N:Nat} {x:RR α} {f:α→ByteArray→RR β} (h:x.Good N) (hf:∀ a r,r.size≤N→(f a r).Good N):(x.bind f).Good N:=by
 cases x with
 | ok a r=>exact hf a r h
 | bad e=>exact h
theorem RR.Good.st {α:Type} {N:Nat} {x:RR α} (h:x.Good N):x.st.Good N:=h.bind fun _ _ hr=>hr
def dH (s:ByteArray):RR Nat:=if (rdNum s).2.2=0 then (if 4611686018427387904<(rdNum s).1 then .bad 2 else .ok (rdNum s).1 (s.extract (rdNum s).2.1 s.size)) else .bad (rdNum s).2.2
def eF (s:ByteArray):RR ByteArray:=if (kE s).2.2=0 then .ok (kE s).1 (s.extract (kE s).2.1 s.size) else .bad (kE s).2.2
theorem wO {s:ByteArray} {a k:Nat} (h:rdNum s=(a,k,0)) (hl:¬ 4611686018427387904<a):dH s = .ok a (s.extract k s.size):=by unfold dH; rw [h]; simp only; rw [if_pos trivial,if_neg hl]
theorem sZ {s:ByteArray} {a k:Nat} (h:rdNum s=(a,k,0)) (hl:4611686018427387904<a):dH s = .bad 2:=by unfold dH; rw [h]; simp only; rw [if_pos trivial,if_pos hl]
theorem yj {s:ByteArray} {a k e:Nat} (h:rdNum s=(a,k,e)) (he:e≠0):dH s = .bad e:=by unfold dH; rw [h]; simp only; rw [if_neg he]
theorem tq {s t:ByteArray} {k:Nat} (h:kE s=(t,k,0)):eF s = .ok t (s.extract k s.size):=by unfold eF; rw [h]; simp only; rw [if_pos trivial]
theorem vH {s t:ByteArray} {k e:Nat} (h:kE s=(t,k,e)) (he:e≠0):eF s = .bad e:=by unfold eF; rw [h]; simp only; rw [if_neg he]
theorem oF {s:ByteArray} {k N:Nat} (h:s.size≤N):(s.extract k s.size).size≤N:=by
 rw [ByteArray.size_extract]; omega
theorem vI {s:ByteArray} {N:Nat} (h:s.size≤N):(dH s).Good N:=by
 rcases hr:rdNum s with ⟨a,k,e⟩
 have hf:=iH hr
 by_cases he:e=0
 · subst he
   by_cases hl:4611686018427387904<a
   · rw [sZ hr hl]; exact⟨by decide,by decide⟩
   · rw [wO hr hl]; exact oF h
 · rw [yj hr he]; exact⟨he,by omega⟩
theorem FG {s r:ByteArray} {a:Nat} (h:dH s = .ok a r):a≤4611686018427387904:=by
 unfold dH at h
 split at h
 · split at h
   · cases h
   · injection h with h1 h2; omega
 · cases h
theorem tu {s t:ByteArray} {k e:Nat} (h:kE s=(t,k,e)):e≤10∧t.size≤16∧(e=0→k≤s.size):=by
 rcases hr:rdNum s with ⟨a,n,e'⟩
 have hf:=iH hr
 by_cases he:e'=0
 · subst he
   by_cases h1:16<a
   · rw [tA hr h1] at h; injection h with h2 h3; injection h3 with h4 h5; subst h2; subst h5
     exact⟨by omega,by decide,fun hh=>absurd hh (by decide)⟩
   · by_cases h2:s.size<n+a
     · rw [tB hr h1 h2] at h; injection h with h2 h3; injection h3 with h4 h5; subst h2; subst h5
       exact⟨by omega,by decide,fun hh=>absurd hh (by decide)⟩
     · cases hv:Lib.validD (s.extract n (n+a)).data.toList
       · rw [vJ hr h1 h2 hv] at h; injection h with h2 h3; injection h3 with h4 h5; subst h2; subst h5
         exact⟨by omega,by decide,fun hh=>absurd hh (by decide)⟩
       · rw [wP hr h1 h2 hv] at h; injection h with h2' h3; injection h3 with h4 h5; subst h2'; subst h5; subst h4
         exact⟨by omega,by rw [ByteArray.size_extract]; omega,fun _=>by omega⟩
 · rw [yt hr he] at h; injection h with h2 h3; injection h3 with h4 h5; subst h2; subst h5
   exact⟨by omega,by decide,fun hh=>absurd hh he⟩
theorem Aa {s:ByteArray} {N:Nat} (h:s.size≤N):(eF s).Good N:=by
 rcases hr:kE s with ⟨a,k,e⟩
 have hf:=tu hr
 by_cases he:e=0
 · subst he
   rw [tq hr]; exact oF h
 · rw [vH hr he]; exact⟨he,hf.1⟩
def iZ {α:Type} (res:RR α) (Z:α→Prop) (a:α):Prop:=match res with
 | .ok b _=>a=b
 | .bad _=>Z a
def mP (v:Int) (s:ByteArray):RR aD:=
 (eF s).bind fun name s=>(dH s).bind fun p s=>(dH s).bind fun need s=>
  (if 1<v then dH s else .ok 0 s).bind fun tries s=>(if 2<v then eF s else .ok ⟨#[]⟩ s).bind fun tag s=>.ok ⟨name,iT p,need,tries,tag⟩ s
end Go.Proofs.YtoeejfhdjmkpcaaGreatDoor
/- What Decode of a state says: plain. -/
namespace Go.Proofs.YtoeejfhdjmkpcaaGreatDoor
open Go.Lib (hid)
def gW:ah:=⟨0,[],[],[]⟩
def Du (σ:RR Unit):Nat:=match σ with
 | .ok _ s=>if s.size=0 then 0 else 4
 | .bad x=>x
theorem Ab {s:ByteArray} (h:s.size≠0):s.toList.isEmpty=false:=by
 have:=sL h
 cases hl:s.toList with
 | nil=>rw [hl] at this; exact absurd this (by decide)
 | cons a l=>rfl
end Go.Proofs.YtoeejfhdjmkpcaaGreatDoor
/- The walks of the checks of one row, in the program. -/
namespace Go.Proofs.YtoeejfhdjmkpcaaGreatDoor
open Go.Lib (hid)
open Go.RowKit
open Go.Lib (validD)
theorem oN (s:ByteArray) (w:World) (hs:s.size≤9223372036854775807) (hT:Tabs w):Calls Tryz.prog 257 #[.string s] w fun e w'=>e = .returned (.bool (gU s))∧Below w.heap.size w w':=by
 by_cases h:s.size≤16
 · rw [yu h]
   have hV:=hid (qQ s w hs hT)
   generalize validD s.data.toList=b at hV ⊢
   go_enter Tryz.func257,Tryz.ntmps257
   go_wp2_with fail
   refine Calls.mono hV.out ?_
   rintro e w1 ⟨rfl,hb⟩
   go_wp2
   go_ret
   exact⟨rfl,hb⟩
 · rw [oO h]
   go_enter Tryz.func257,Tryz.ntmps257
   go_wp2
   go_ret
   exact⟨rfl,Below.refl _ _⟩
theorem eW (s:ByteArray) (w:World) (hs:s.size≤9223372036854775807) (hT:Tabs w):Calls Tryz.prog 256 #[.string s] w fun e w'=>e = .returned (.bool (bQ s))∧Below w.heap.size w w':=by
 by_cases h:s.size=0
 · rw [wQ h]
   obtain rfl:=yw h
   go_enter Tryz.func256,Tryz.ntmps256
   go_wp2
   go_ret
   exact⟨rfl,Below.refl _ _⟩
 · rw [yx h]
   have hV:=hid (oN s w hs hT)
   have e1:=sL h
   have e2:=vK h
   generalize gU s=b at hV ⊢
   go_enter Tryz.func256,Tryz.ntmps256
   go_wp2_with fail
   refine Calls.mono hV.out ?_
   rintro e w1 ⟨rfl,hb⟩
   go_wp2
   go_ret
   exact⟨rfl,hb⟩
theorem yA (n lo hi:Int) (h1:lo≤n) (h2:n≤hi) (w:World):Calls Tryz.prog 234 #[.int .i64 n,.int .i64 lo,.int .i64 hi] w fun e w'=>e = .returned (.bool true)∧w=w':=by
 have e2:decide (n≤hi)=true:=decide_eq_true h2
 go_enter Tryz.func234,Tryz.ntmps234
 go_wp2
 go_ret
 exact⟨rfl,rfl⟩
theorem Ac (n lo hi:Int) (h:n<lo∨hi<n) (w:World):Calls Tryz.prog 234 #[.int .i64 n,.int .i64 lo,.int .i64 hi] w fun e w'=>e = .returned (.bool false)∧w=w':=by
 by_cases h1:lo≤n
 · have h2:hi<n:=by omega
   have e2:decide (n≤hi)=false:=decide_eq_false (by omega)
   clear h
   go_enter Tryz.func234,Tryz.ntmps234
   go_wp2
   go_ret
   exact⟨rfl,rfl⟩
 · have e1:decide (lo≤n)=false:=decide_eq_false h1
   clear h
   go_enter Tryz.func234,Tryz.ntmps234
   go_wp2
   go_ret
   exact⟨rfl,rfl⟩
theorem iK (n lo hi:Int) (w:World):Calls Tryz.prog 234 #[.int .i64 n,.int .i64 lo,.int .i64 hi] w fun e w'=>e = .returned (.bool (ranged n lo hi))∧w=w':=by
 cases h:ranged n lo hi
 · exact Ac n lo hi (gK.1 h) w
 · exact yA n lo hi (bB.1 h).1 (bB.1 h).2 w
theorem pO (j:aD) (w:World) (h1:j.name.size≤9223372036854775807) (h2:j.tag.size≤9223372036854775807) (hT:Tabs w) :
 Calls Tryz.prog 156 #[.agg (aL j).toArray] w fun e w'=>e = .returned (.int .i64 (fF j))∧Below w.heap.size w w':=by
 obtain⟨E,hE⟩:∃ E,fF j=E:=⟨_,rfl⟩
 rw [hE]
 have HE:=hid hE
 clear hE
 obtain⟨name,prio,need,tries,tag⟩:=j
 unfold aL
 simp only at h1 h2 ⊢
 have hb0:Below w.heap.size w (w.alloc (.cells #[.string name,.int .i64 prio,.int .i64 need,.int .i64 tries,.string tag] 34)):=(Below.refl _ _).alloc (Nat.le_refl _) _
 have hT0:=hT.below hb0
 have hN:=hid (eW name _ h1 hT0)
 have HT:=hid hT0
 have HB:=hid hb0
 clear hT0 hb0 hT
 go_enter Tryz.func156,Tryz.ntmps156
 go_wp2_with fail
 refine Calls.mono hN.out ?_
 rintro e w1 ⟨rfl,hb1⟩
 have y1:w1.cell? ⟨w.heap.size,1,none⟩=some (.int .i64 prio):=by rw [(dD hb1).1 _ _ (by simp)]; simp [go_sem]
 have y2:w1.cell? ⟨w.heap.size,2,none⟩=some (.int .i64 need):=by rw [(dD hb1).1 _ _ (by simp)]; simp [go_sem]
 have y3:w1.cell? ⟨w.heap.size,3,none⟩=some (.int .i64 tries):=by rw [(dD hb1).1 _ _ (by simp)]; simp [go_sem]
 have y4:w1.cell? ⟨w.heap.size,4,none⟩=some (.string tag):=by rw [(dD hb1).1 _ _ (by simp)]; simp [go_sem]
 have HB1:=hid (HB.out.trans (hb1.mono HB.out.size))
 have HT1:=hid (HT.out.below hb1)
 have hsz:w.heap.size<w1.heap.size:=by have:=hb1.size; simp at this; omega
 clear hb1 HB HT hN
 cases hn:bQ name
 · go_wp2
   go_ret
   exact⟨bg (by rw [← HE.out]; simp [fF,hn]),HB1.out⟩
 go_wp2_with fail
 refine Calls.mono (oN tag w1 h2 HT1.out) ?_
 rintro e w2 ⟨rfl,hb2⟩
 replace y1:=((dD hb2).1 _ _ hsz).trans y1
 replace y2:=((dD hb2).1 _ _ hsz).trans y2
 replace y3:=((dD hb2).1 _ _ hsz).trans y3
 have HB2:=hid (HB1.out.trans (hb2.mono HB1.out.size))
 clear y4 hb2 HB1 HT1 hsz
 cases ht:gU tag
 · go_wp2
   go_ret
   exact⟨bg (by rw [← HE.out]; simp [fF,hn,ht]),HB2.out⟩
 go_wp2_with fail
 refine Calls.mono (iK _ _ _ _) ?_
 rintro e w3 ⟨rfl,rfl⟩
 cases hr1:ranged prio (-1000) 1000
 · go_wp2
   go_ret
   exact⟨bg (by rw [← HE.out]; simp [fF,hn,ht,hr1]),HB2.out⟩
 go_wp2_with fail
 refine Calls.mono (iK _ _ _ _) ?_
 rintro e w3 ⟨rfl,rfl⟩
 cases hr2:ranged need 0 1000000
 · go_wp2
   go_ret
   exact⟨bg (by rw [← HE.out]; simp [fF,hn,ht,hr1,hr2]),HB2.out⟩
 go_wp2_with fail
 refine Calls.mono (iK _ _ _ _) ?_
 rintro e w3 ⟨rfl,rfl⟩
 cases hr3:ranged tries 0 100
 · go_wp2
   go_ret
   exact⟨bg (by rw [← HE.out]; simp [fF,hn,ht,hr1,hr2,hr3]),HB2.out⟩
 · go_wp2
   go_ret
   exact⟨bg (by rw [← HE.out]; simp [fF,hn,ht,hr1,hr2,hr3]),HB2.out⟩
theorem oG (n:aA) (w:World) (h1:n.name.size≤9223372036854775807) (h2:n.zone.size≤9223372036854775807) (hT:Tabs w) :
 Calls Tryz.prog 158 #[.agg (aC n).toArray] w fun e w'=>e = .returned (.int .i64 (eP n))∧Below w.heap.size w w':=by
 obtain⟨E,hE⟩:∃ E,eP n=E:=⟨_,rfl⟩
 rw [hE]
 have HE:=hid hE
 clear hE
 obtain⟨name,room,zone⟩:=n
 unfold aC
 simp only at h1 h2 ⊢
 have hb0:Below w.heap.size w (w.alloc (.cells #[.string name,.int .i64 room,.string zone] 36)):=(Below.refl _ _).alloc (Nat.le_refl _) _
 have hT0:=hT.below hb0
 have hN:=hid (eW name _ h1 hT0)
 have HT:=hid hT0
 have HB:=hid hb0
 clear hT0 hb0 hT
 go_enter Tryz.func158,Tryz.ntmps158
 go_wp2_with fail
 refine Calls.mono hN.out ?_
 rintro e w1 ⟨rfl,hb1⟩
 have y1:w1.cell? ⟨w.heap.size,1,none⟩=some (.int .i64 room):=by rw [(dD hb1).1 _ _ (by simp)]; simp [go_sem]
 have y2:w1.cell? ⟨w.heap.size,2,none⟩=some (.string zone):=by rw [(dD hb1).1 _ _ (by simp)]; simp [go_sem]
 have HB1:=hid (HB.out.trans (hb1.mono HB.out.size))
 have HT1:=hid (HT.out.below hb1)
 have hsz:w.heap.size<w1.heap.size:=by have:=hb1.size; simp at this; omega
 clear hb1 HB HT hN
 cases hn:bQ name
 · go_wp2
   go_ret
   exact⟨bg (by rw [← HE.out]; simp [eP,hn]),HB1.out⟩
 go_wp2_with fail
 refine Calls.mono (oN zone w1 h2 HT1.out) ?_
 rintro e w2 ⟨rfl,hb2⟩
 replace y1:=((dD hb2).1 _ _ hsz).trans y1
 have HB2:=hid (HB1.out.trans (hb2.mono HB1.out.size))
 clear y2 hb2 HB1 HT1 hsz
 cases ht:gU zone
 · go_wp2
   go_ret
   exact⟨bg (by rw [← HE.out]; simp [eP,hn,ht]),HB2.out⟩
 go_wp2_with fail
 refine Calls.mono (iK _ _ _ _) ?_
 rintro e w3 ⟨rfl,rfl⟩
 cases hr1:ranged room 0 1000000
 · go_wp2
   go_ret
   exact⟨bg (by rw [← HE.out]; simp [eP,hn,ht,hr1]),HB2.out⟩
 · go_wp2
   go_ret
   exact⟨bg (by rw [← HE.out]; simp [eP,hn,ht,hr1]),HB2.out⟩
end Go.Proofs.YtoeejfhdjmkpcaaGreatDoor
/- What the program's reader of JSON gives: plain. -/
namespace Go.Proofs.YtoeejfhdjmkpcaaGreatDoor
open Go.Lib (hid)
open Go.Lib (hasPrefix trimPrefix itoa atoiAll atoiSat decDigits)
def BA (l:List UInt8):ByteArray:=⟨l.toArray⟩
theorem wR (s:ByteArray):BA s.data.toList=s:=rfl
theorem jr (l:List UInt8):(BA l).data.toList=l:=rfl
theorem jQ (l:List UInt8):(BA l).size=l.length:=by show l.toArray.size=l.length; simp
theorem mQ (s:ByteArray):s.data.toList.length=s.size:=by rw [Array.length_toList]; rfl
theorem Dv (s:ByteArray) (k:Nat):(s.extract k s.size).data.toList=s.data.toList.drop k:=by
 rw [ByteArray.data_extract,Array.toList_extract,List.extract_eq_take_drop,List.take_of_length_le]
 rw [List.length_drop,mQ]
 exact Nat.le_refl _
theorem wK (l:List UInt8) (k:Nat):(BA l).extract k (BA l).size=BA (l.drop k):=by
 have h:=Dv (BA l) k
 rw [jr] at h
 rw [← wR ((BA l).extract k (BA l).size),h]
/-! What is printed is read. -/
/-! Numbers. -/
/-! Objects. -/
/-! Rows. -/
/-! How long what is left is. -/
end Go.Proofs.YtoeejfhdjmkpcaaGreatDoor
/- What the reference's reader of JSON gives: plain. -/
namespace Go.Proofs.YtoeejfhdjmkpcaaGreatDoor
open Go.Lib (hid)
open Go.Lib (hasPrefix trimPrefix itoa decDigits)
/-! What is printed is read. -/
theorem Fy (l:List UInt8) (k:Nat) (h:k≤l.length):(BA l).extract 0 k=BA (l.take k):=by
 rw [← wR ((BA l).extract 0 k)]
 congr 1
 rw [ByteArray.data_extract,Array.toList_extract,List.extract_eq_take_drop]
 simp [BA]
/-! Objects. -/
/-! Rows. -/
/-! What is left is no longer. -/
/-! Values: what they may be. -/
end Go.Proofs.YtoeejfhdjmkpcaaGreatDoor
