/- Of the proof of a statement: At, PlDDec, PlFrame, PlDec, WJob, WPut, PlJson, RBytes, RRows, Dig, Js, ObjL. -/
import Derived.Deep.QuietTactic
import Derived.BigQuiet
import Derived.Lib.ValidLaws
import Derived.Lib.ItoaNum
import Derived.Lib.Join
import Derived.Lib.QuietBelow
import Derived.Test.YtcpgnjmaampglaaGreatDoorWRowsP
import Derived.Test.YtcpgnjmaampglaaGreatDoorWRq
set_option linter.unusedVariables false
set_option linter.unusedSimpArgs false
set_option maxRecDepth 100000
set_option maxHeartbeats 8000000
/- The walks of JobAt and NodeAt. -/
namespace Go.Proofs.YtcpgnjmaampglaaGreatDoor
open Go.Lib (hid)
open Go.RowKit
section
variable {α:Type} {p:α→Bool} {l:List α} {k:Nat} {x:α}
theorem BU (h:l[k]? = some x):l.take (k+1)=l.take k ++ [x]:=by
 obtain⟨hlt,rfl⟩:=List.getElem?_eq_some_iff.1 h
 exact (List.take_append_getElem hlt).symm
theorem Lh (h0:(l.take k).find? p=none) (h:l[k]? = some x) (hp:p x=true):l.find? p=some x:=by
 have e:l=l.take k ++ x :: l.drop (k+1):=by rw [← drop_cons h,List.take_append_drop]
 rw [e,List.find?_append,h0,List.find?_cons,hp]; rfl
theorem Jj (h0:(l.take k).find? p=none) (h:l[k]? = some x) (hp:p x=false):(l.take (k+1)).find? p=none:=by
 rw [BU h,List.find?_append,h0,List.find?_cons,hp]; rfl
theorem Li (h0:(l.take k).find? p=none) (h:l.length≤k):l.find? p=none:=by rwa [List.take_of_length_le h] at h0
end
theorem zn (s:ByteArray):(s.toList == s.toList)=true:=beq_iff_eq.2 rfl
theorem DV {s t:ByteArray} (h:s≠t):(s.toList == t.toList)=false:=by
 rw [beq_eq_false_iff_ne,ByteArray.toList_eq,ByteArray.toList_eq]
 exact fun e=>h (ByteArray.ext (Array.toList_inj.1 e))
theorem Cu (a b:ByteArray):(a.toList == b.toList)=decide (a=b):=by
 by_cases h:a=b
 · subst h; rw [zn,decide_eq_true rfl]
 · rw [DV h,decide_eq_false h]
def nO:aK:=⟨0,0,[],[],[],[],[],[]⟩
def oP (l:List UInt8):List UInt8:=[UInt8.ofNat (jV l / 16777216),UInt8.ofNat (jV l / 65536),UInt8.ofNat (jV l / 256),UInt8.ofNat (jV l)]
theorem Jc (l:List UInt8):jV l<4294967296:=by unfold jV; omega
def oQ (v k:Nat) (p:List UInt8):List UInt8:=[66,75,UInt8.ofNat v,UInt8.ofNat k] ++ bg p.length ++ p
def gB (v k:Nat) (p:List UInt8):List UInt8:=oQ v k p ++ oP (oQ v k p)
theorem K9 (v k:Nat) (p:List UInt8):(oQ v k p).length≤p.length+15:=by
 have:=dP p.length
 simp [oQ]; omega
def aP (s:ByteArray) (i:Nat):Nat:=(s.data.toList.getD i 0).toNat
theorem vQ {s:ByteArray} {i:Nat} (h:i<s.size):aP s i=s[i].toNat:=by
 unfold aP
 rw [List.getD_eq_getElem?_getD,List.getElem?_eq_getElem (by simpa using h)]
 rfl
theorem Jb (s:ByteArray) (i:Nat):aP s i<256:=(s.data.toList.getD i 0).toNat_lt
def jU (s:ByteArray):Nat:=
 if 0<s.size∧aP s 0≠66 then 4
 else if 1<s.size∧aP s 1≠75 then 4
 else if 2<s.size∧(aP s 2<1∨3<aP s 2) then 1
 else if 3<s.size∧(aP s 3<1∨4<aP s 3) then 1
 else if s.size<4 then 3 else 0
structure kL (s:ByteArray) (k:Nat):Prop where
 h0:0<k→0<s.size∧aP s 0=66
 h1:1<k→1<s.size∧aP s 1=75
 h2:2<k→2<s.size∧1≤aP s 2∧aP s 2≤3
 h3:3<k→3<s.size∧1≤aP s 3∧aP s 3≤4
theorem kL.zero (s:ByteArray):kL s 0:=⟨fun h=>absurd h (by omega),fun h=>absurd h (by omega),fun h=>absurd h (by omega),fun h=>absurd h (by omega)⟩
section
variable {s:ByteArray}
theorem PF (h:0<s.size) (hb:aP s 0≠66):jU s=4:=by unfold jU; rw [if_pos ⟨h,hb⟩]
theorem PG (ht:kL s 1) (h:1<s.size) (hb:aP s 1≠75):jU s=4:=by
 have:=ht.h0 (by omega)
 unfold jU; rw [if_neg (by omega),if_pos ⟨h,hb⟩]
theorem PH (ht:kL s 2) (h:2<s.size) (hb:aP s 2<1∨3<aP s 2):jU s=1:=by
 have:=ht.h0 (by omega)
 have:=ht.h1 (by omega)
 unfold jU; rw [if_neg (by omega),if_neg (by omega),if_pos ⟨h,hb⟩]
theorem PI (ht:kL s 3) (h:3<s.size) (hb:aP s 3<1∨4<aP s 3):jU s=1:=by
 have:=ht.h0 (by omega)
 have:=ht.h1 (by omega)
 have:=ht.h2 (by omega)
 unfold jU; rw [if_neg (by omega),if_neg (by omega),if_neg (by omega),if_pos ⟨h,hb⟩]
theorem FD {k:Nat} (ht:kL s k) (hk:s.size≤k) (h:s.size<4):jU s=3:=by
 have a0:=ht.h0
 have a1:=ht.h1
 have a2:=ht.h2
 have a3:=ht.h3
 unfold jU
 rw [if_neg (by omega),if_neg (by omega),if_neg (by omega),if_neg (by omega),if_pos h]
theorem Nw (ht:kL s 4):jU s=0∧4≤s.size:=by
 have a0:=ht.h0 (by omega)
 have a1:=ht.h1 (by omega)
 have a2:=ht.h2 (by omega)
 have a3:=ht.h3 (by omega)
 unfold jU
 rw [if_neg (by omega),if_neg (by omega),if_neg (by omega),if_neg (by omega),if_neg (by omega)]
 exact⟨rfl,by omega⟩
end
structure bL where
 ver:Nat
 kind:Nat
 pay:ByteArray
def bL.zero:bL:=⟨0,0,⟨#[]⟩⟩
def eK (s:ByteArray):bL × Nat × Nat:=
 if jU s=0 then
  match rdNum (s.extract 4 s.size) with
  | (n,k,e)=>
   if e=0 then
    if 6000<n then (.zero,0,2)
    else if s.size<8+k+n then (.zero,0,3)
    else if (s.extract (4+k+n) (8+k+n)).data.toList=oP (s.extract 0 (4+k+n)).data.toList then (⟨aP s 2,aP s 3,s.extract (4+k) (4+k+n)⟩,8+k+n,0)
    else (.zero,0,5)
   else (.zero,0,e)
 else (.zero,0,jU s)
section
variable {s:ByteArray} {n k e:Nat}
theorem I9 {c:Nat} (h:jU s=c) (hc:c≠0):eK s=(.zero,0,c):=by subst h; unfold eK; rw [if_neg hc]
theorem K8 (h:jU s=0) (hr:rdNum (s.extract 4 s.size)=(n,k,e)) (he:e≠0):eK s=(.zero,0,e):=by unfold eK; rw [if_pos h,hr]; simp only; rw [if_neg he]
theorem FE (h:jU s=0) (hr:rdNum (s.extract 4 s.size)=(n,k,0)) (hn:6000<n):eK s=(.zero,0,2):=by unfold eK; rw [if_pos h,hr]; simp only; rw [if_pos trivial,if_pos hn]
theorem FF (h:jU s=0) (hr:rdNum (s.extract 4 s.size)=(n,k,0)) (hn:¬ 6000<n) (hs:s.size<8+k+n):eK s=(.zero,0,3):=by unfold eK; rw [if_pos h,hr]; simp only; rw [if_pos trivial,if_neg hn,if_pos hs]
theorem K7 (h:jU s=0) (hr:rdNum (s.extract 4 s.size)=(n,k,0)) (hn:¬ 6000<n) (hs:¬ s.size<8+k+n) (hm:¬ (s.extract (4+k+n) (8+k+n)).data.toList=oP (s.extract 0 (4+k+n)).data.toList):eK s=(.zero,0,5):=by unfold eK; rw [if_pos h,hr]; simp only; rw [if_pos trivial,if_neg hn,if_neg hs,if_neg hm]
theorem DO (h:jU s=0) (hr:rdNum (s.extract 4 s.size)=(n,k,0)) (hn:¬ 6000<n) (hs:¬ s.size<8+k+n) (hm:(s.extract (4+k+n) (8+k+n)).data.toList=oP (s.extract 0 (4+k+n)).data.toList):eK s=(⟨aP s 2,aP s 3,s.extract (4+k) (4+k+n)⟩,8+k+n,0):=by unfold eK; rw [if_pos h,hr]; simp only; rw [if_pos trivial,if_neg hn,if_neg hs,if_pos hm]
end
def gA (s:ByteArray):List UInt8:=(tQ s).1.data.toList
theorem eJ (s:ByteArray):(gA s).length≤17:=by
 have hts:(tQ s).1.size≤17:=by
  unfold tQ
  split
  · show (0:Nat)≤17; omega
  · split
    · rw [ByteArray.size_append]; show 1+s.size≤17; omega
    · show (0:Nat)≤17; omega
 unfold gA
 rw [Array.length_toList]
 exact hts
theorem dD (n:Nat):(bg n).length≤17:=by have:=dP n; omega
theorem Tabs.base {w w':World} {B:Nat} (h:Tabs w) (h3:ren.g 3<B) (h4:ren.g 4<B) (hb:Below B w w'):Tabs w':=
 ⟨fun c hc=>(hb.cell h3).trans (h.1 c hc),fun i hi=>⟨(hb.cell h4).trans (h.2 i hi).1,(hb.cell h4).trans (h.2 i hi).2⟩⟩
structure eL (w:World) (base g:Nat) (l:List UInt8):Prop where
 at_:q8 w base g l
 tabs:Tabs w
 g3:ren.g 3<base
 g4:ren.g 4<base
 size:base≤w.heap.size
theorem eL.next {w w':World} {base g:Nat} {l l':List UInt8} (h:eL w base g l) (ha:q8 w' base g l') (hk:cM base g w w'):eL w' base g l':=
 ⟨ha,h.tabs.base h.g3 h.g4 (hk.below ha.1 h.size),h.g3,h.g4,Nat.le_trans h.size hk.size⟩
theorem eL.below {w w':World} {base g:Nat} {l:List UInt8} (h:eL w base g l) (hb:Below w.heap.size w w'):eL w' base g l:=
 h.next (h.at_.below hb) (cM.of_below hb)
def fH (base g:Nat) (l:List UInt8) (w:World) (e:Ending) (w':World):Prop:=e = .returned (.tuple #[])∧eL w' base g l∧cM base g w w'
theorem oh (base g:Nat) (l:List UInt8) (s:ByteArray) (w:World) (hs:s.size≤9223372036854775807) (h:eL w base g l) (hl:l.length≤100000000) :
 Calls Tryz.prog 123 #[.pointer (some ⟨g,0,none⟩),.string s] w (fH base g (l ++ gA s) w):=by
 refine Calls.mono (JP base g l s w hs h.tabs h.at_ hl h.size) ?_
 rintro e w' ⟨he,ha,hk⟩
 exact⟨he,h.next ha hk,hk⟩
theorem mT (base g:Nat) (l:List UInt8) (n:Int) (w:World) (hs:0≤n∧n≤9223372036854775807) (h:eL w base g l) (hl:l.length≤100000000) :
 Calls Tryz.prog 62 #[.pointer (some ⟨g,0,none⟩),.int .i64 n] w (fH base g (l ++ bg n.toNat) w):=by
 refine Calls.mono (Ac base g l n w hs.1 hs.2 h.at_ hl) ?_
 rintro e w' ⟨he,ha,hk⟩
 exact⟨he,h.next ha hk,hk⟩
theorem Ad (base g:Nat) (l:List UInt8) (n:Int) (w:World) (hs : -9223372036854775808≤n∧n≤9223372036854775807) (h:eL w base g l) (hl:l.length≤100000000) :
 Calls Tryz.prog 124 #[.pointer (some ⟨g,0,none⟩),.int .i64 n] w (fH base g (l ++ bg (pq n).toNat) w):=by
 refine Calls.mono (EH base g l n w hs.1 hs.2 h.at_ hl h.size) ?_
 rintro e w' ⟨he,ha,hk⟩
 exact⟨he,h.next ha hk,hk⟩
structure WGo (w0 w:World) (base g:Nat) (l:List UInt8) (n:Nat) (t:TypeId) (cs:Array Value) (N:Nat):Prop where
 ok:eL w base g l
 keep:cM base g w0 w
 blk:Blk w n t cs
 ht:t ≠ 5
 ne:n≠g
 len:l.length≤N
theorem WGo.next {w0 w w':World} {base g n N:Nat} {l k:List UInt8} {t:TypeId} {cs:Array Value} (h:WGo w0 w base g l n t cs N) (ha:eL w' base g (l ++ k)) (hk:cM base g w w') (hkl:k.length≤17):WGo w0 w' base g (l ++ k) n t cs (N+17):=
 ⟨ha,h.keep.trans hk,hk.blk h.blk h.ht h.ne,h.ht,h.ne,by have:=h.len; rw [List.length_append]; omega⟩
theorem WGo.start {w:World} {base g:Nat} {l:List UInt8} (h:eL w base g l) (t:TypeId) (cs:Array Value) (ht:t ≠ 5):WGo w (w.alloc (.cells cs t)) base g l w.heap.size t cs l.length:=
 have hb:Below w.heap.size w (w.alloc (.cells cs t)):=(Below.refl _ _).alloc (Nat.le_refl _) _
 ⟨h.below hb,cM.of_below hb,by show (w.heap.push (.cells cs t))[w.heap.size]? = _; simp,ht,Nat.ne_of_gt h.at_.lt,Nat.le_refl _⟩
def eC (j:aB) (v:Int):List UInt8:=gA j.name ++ bg (pq j.prio).toNat ++ bg j.need.toNat ++ (if 1<v then bg j.tries.toNat else []) ++ (if 2<v then gA j.tag else [])
def cZ (n:av) (v:Int):List UInt8:=gA n.name ++ bg n.room.toNat ++ (if 1<v then gA n.zone else [])
def eQ (l:ak):List UInt8:=gA l.job ++ gA l.node ++ bg l.till.toNat
structure xQ (j:aB):Prop where
 name:j.name.size≤9223372036854775807
 prio : -9223372036854775808≤j.prio∧j.prio≤9223372036854775807
 need:0≤j.need∧j.need≤9223372036854775807
 tries:0≤j.tries∧j.tries≤9223372036854775807
 tag:j.tag.size≤9223372036854775807
structure sB (n:av):Prop where
 name:n.name.size≤9223372036854775807
 room:0≤n.room∧n.room≤9223372036854775807
 zone:n.zone.size≤9223372036854775807
structure Ae (l:ak):Prop where
 job:l.job.size≤9223372036854775807
 node:l.node.size≤9223372036854775807
 till:0≤l.till∧l.till≤9223372036854775807
theorem oI (j:aB) (v:Int):(eC j v).length≤85:=by
 have h1:=eJ j.name
 have h2:=dD (pq j.prio).toNat
 have h3:=dD j.need.toNat
 have h4:=dD j.tries.toNat
 have h5:=eJ j.tag
 unfold eC
 split <;> split <;> simp only [List.length_append,List.length_nil] <;> omega
theorem oJ (n:av) (v:Int):(cZ n v).length≤85:=by
 have h1:=eJ n.name
 have h3:=dD n.room.toNat
 have h5:=eJ n.zone
 unfold cZ
 split <;> simp only [List.length_append,List.length_nil] <;> omega
theorem pL (l:ak):(eQ l).length≤85:=by
 have h1:=eJ l.job
 have h3:=dD l.till.toNat
 have h5:=eJ l.node
 unfold eQ
 simp only [List.length_append] <;> omega
theorem Qk (base g:Nat) (l:List UInt8) (x:aB) (v:Int) (w:World) (h1:¬ 1<v) (h2:¬ 2<v) (hx:xQ x) (h:eL w base g l) (hl:l.length≤90000000) :
 Calls Tryz.prog 65 #[.pointer (some ⟨g,0,none⟩),.agg (aH x).toArray,.int .i64 v] w (fH base g (l ++ eC x v) w):=by
 have d1:decide (1<v)=false:=decide_eq_false h1
 have d2:decide (2<v)=false:=decide_eq_false h2
 have Hx:=hid hx
 obtain⟨name,prio,need,tries,tag⟩:=x
 have bJ:=hid (show l ++ eC ⟨name,prio,need,tries,tag⟩ v=l ++ gA name ++ bg (pq prio).toNat ++ bg (need).toNat from by simp [eC,h1,h2])
 unfold aH
 have H0:=hid (WGo.start h 59 #[.string name,.int .i64 prio,.int .i64 need,.int .i64 tries,.string tag] (by decide))
 clear h hx h1 h2
 go_enter Tryz.func65,Tryz.ntmps65
 go_wp2_with fail
 refine Calls.mono (oh base g _ name _ Hx.out.name H0.out.ok (by have:=H0.out.len; omega)) ?_
 rintro e w1 ⟨rfl,ok1,k1⟩
 have H1:=hid (H0.out.next ok1 k1 (eJ _))
 have y1:w1.cell? ⟨w.heap.size,1,none⟩=some (.int .i64 prio):=H1.out.blk.cell 1
 have y2:w1.cell? ⟨w.heap.size,2,none⟩=some (.int .i64 need):=H1.out.blk.cell 2
 clear ok1 k1 H0
 go_wp2_with fail
 refine Calls.mono (Ad base g _ prio _ Hx.out.prio H1.out.ok (by have:=H1.out.len; omega)) ?_
 rintro e w2 ⟨rfl,ok2,k2⟩
 have H2:=hid (H1.out.next ok2 k2 (dD _))
 clear y1 y2
 have y2:w2.cell? ⟨w.heap.size,2,none⟩=some (.int .i64 need):=H2.out.blk.cell 2
 clear ok2 k2 H1
 go_wp2_with fail
 refine Calls.mono (mT base g _ need _ Hx.out.need H2.out.ok (by have:=H2.out.len; omega)) ?_
 rintro e w3 ⟨rfl,ok3,k3⟩
 have H3:=hid (H2.out.next ok3 k3 (dD _))
 clear y2
 clear ok3 k3 H2
 go_wp2
 go_end0
 exact⟨rfl,by rw [bJ.out]; exact H3.out.ok,H3.out.keep⟩
theorem Ql (base g:Nat) (l:List UInt8) (x:aB) (v:Int) (w:World) (h1:1<v) (h2:¬ 2<v) (hx:xQ x) (h:eL w base g l) (hl:l.length≤90000000) :
 Calls Tryz.prog 65 #[.pointer (some ⟨g,0,none⟩),.agg (aH x).toArray,.int .i64 v] w (fH base g (l ++ eC x v) w):=by
 have d1:decide (1<v)=true:=decide_eq_true h1
 have d2:decide (2<v)=false:=decide_eq_false h2
 have Hx:=hid hx
 obtain⟨name,prio,need,tries,tag⟩:=x
 have bJ:=hid (show l ++ eC ⟨name,prio,need,tries,tag⟩ v=l ++ gA name ++ bg (pq prio).toNat ++ bg (need).toNat ++ bg (tries).toNat from by simp [eC,h1,h2])
 unfold aH
 have H0:=hid (WGo.start h 59 #[.string name,.int .i64 prio,.int .i64 need,.int .i64 tries,.string tag] (by decide))
 clear h hx h1 h2
 go_enter Tryz.func65,Tryz.ntmps65
 go_wp2_with fail
 refine Calls.mono (oh base g _ name _ Hx.out.name H0.out.ok (by have:=H0.out.len; omega)) ?_
 rintro e w1 ⟨rfl,ok1,k1⟩
 have H1:=hid (H0.out.next ok1 k1 (eJ _))
 have y1:w1.cell? ⟨w.heap.size,1,none⟩=some (.int .i64 prio):=H1.out.blk.cell 1
 have y2:w1.cell? ⟨w.heap.size,2,none⟩=some (.int .i64 need):=H1.out.blk.cell 2
 have y3:w1.cell? ⟨w.heap.size,3,none⟩=some (.int .i64 tries):=H1.out.blk.cell 3
 clear ok1 k1 H0
 go_wp2_with fail
 refine Calls.mono (Ad base g _ prio _ Hx.out.prio H1.out.ok (by have:=H1.out.len; omega)) ?_
 rintro e w2 ⟨rfl,ok2,k2⟩
 have H2:=hid (H1.out.next ok2 k2 (dD _))
 clear y1 y2 y3
 have y2:w2.cell? ⟨w.heap.size,2,none⟩=some (.int .i64 need):=H2.out.blk.cell 2
 have y3:w2.cell? ⟨w.heap.size,3,none⟩=some (.int .i64 tries):=H2.out.blk.cell 3
 clear ok2 k2 H1
 go_wp2_with fail
 refine Calls.mono (mT base g _ need _ Hx.out.need H2.out.ok (by have:=H2.out.len; omega)) ?_
 rintro e w3 ⟨rfl,ok3,k3⟩
 have H3:=hid (H2.out.next ok3 k3 (dD _))
 clear y2 y3
 have y3:w3.cell? ⟨w.heap.size,3,none⟩=some (.int .i64 tries):=H3.out.blk.cell 3
 clear ok3 k3 H2
 go_wp2_with fail
 refine Calls.mono (mT base g _ tries _ Hx.out.tries H3.out.ok (by have:=H3.out.len; omega)) ?_
 rintro e w4 ⟨rfl,ok4,k4⟩
 have H4:=hid (H3.out.next ok4 k4 (dD _))
 clear y3
 clear ok4 k4 H3
 go_wp2
 go_end0
 exact⟨rfl,by rw [bJ.out]; exact H4.out.ok,H4.out.keep⟩
theorem FI (base g:Nat) (l:List UInt8) (x:aB) (v:Int) (w:World) (h1:1<v) (h2:2<v) (hx:xQ x) (h:eL w base g l) (hl:l.length≤90000000) :
 Calls Tryz.prog 65 #[.pointer (some ⟨g,0,none⟩),.agg (aH x).toArray,.int .i64 v] w (fH base g (l ++ eC x v) w):=by
 have d1:decide (1<v)=true:=decide_eq_true h1
 have d2:decide (2<v)=true:=decide_eq_true h2
 have Hx:=hid hx
 obtain⟨name,prio,need,tries,tag⟩:=x
 have bJ:=hid (show l ++ eC ⟨name,prio,need,tries,tag⟩ v=l ++ gA name ++ bg (pq prio).toNat ++ bg (need).toNat ++ bg (tries).toNat ++ gA tag from by simp [eC,h1,h2])
 unfold aH
 have H0:=hid (WGo.start h 59 #[.string name,.int .i64 prio,.int .i64 need,.int .i64 tries,.string tag] (by decide))
 clear h hx h1 h2
 go_enter Tryz.func65,Tryz.ntmps65
 go_wp2_with fail
 refine Calls.mono (oh base g _ name _ Hx.out.name H0.out.ok (by have:=H0.out.len; omega)) ?_
 rintro e w1 ⟨rfl,ok1,k1⟩
 have H1:=hid (H0.out.next ok1 k1 (eJ _))
 have y1:w1.cell? ⟨w.heap.size,1,none⟩=some (.int .i64 prio):=H1.out.blk.cell 1
 have y2:w1.cell? ⟨w.heap.size,2,none⟩=some (.int .i64 need):=H1.out.blk.cell 2
 have y3:w1.cell? ⟨w.heap.size,3,none⟩=some (.int .i64 tries):=H1.out.blk.cell 3
 have y4:w1.cell? ⟨w.heap.size,4,none⟩=some (.string tag):=H1.out.blk.cell 4
 clear ok1 k1 H0
 go_wp2_with fail
 refine Calls.mono (Ad base g _ prio _ Hx.out.prio H1.out.ok (by have:=H1.out.len; omega)) ?_
 rintro e w2 ⟨rfl,ok2,k2⟩
 have H2:=hid (H1.out.next ok2 k2 (dD _))
 clear y1 y2 y3 y4
 have y2:w2.cell? ⟨w.heap.size,2,none⟩=some (.int .i64 need):=H2.out.blk.cell 2
 have y3:w2.cell? ⟨w.heap.size,3,none⟩=some (.int .i64 tries):=H2.out.blk.cell 3
 have y4:w2.cell? ⟨w.heap.size,4,none⟩=some (.string tag):=H2.out.blk.cell 4
 clear ok2 k2 H1
 go_wp2_with fail
 refine Calls.mono (mT base g _ need _ Hx.out.need H2.out.ok (by have:=H2.out.len; omega)) ?_
 rintro e w3 ⟨rfl,ok3,k3⟩
 have H3:=hid (H2.out.next ok3 k3 (dD _))
 clear y2 y3 y4
 have y3:w3.cell? ⟨w.heap.size,3,none⟩=some (.int .i64 tries):=H3.out.blk.cell 3
 have y4:w3.cell? ⟨w.heap.size,4,none⟩=some (.string tag):=H3.out.blk.cell 4
 clear ok3 k3 H2
 go_wp2_with fail
 refine Calls.mono (mT base g _ tries _ Hx.out.tries H3.out.ok (by have:=H3.out.len; omega)) ?_
 rintro e w4 ⟨rfl,ok4,k4⟩
 have H4:=hid (H3.out.next ok4 k4 (dD _))
 clear y3 y4
 have y4:w4.cell? ⟨w.heap.size,4,none⟩=some (.string tag):=H4.out.blk.cell 4
 clear ok4 k4 H3
 go_wp2_with fail
 refine Calls.mono (oh base g _ tag _ Hx.out.tag H4.out.ok (by have:=H4.out.len; omega)) ?_
 rintro e w5 ⟨rfl,ok5,k5⟩
 have H5:=hid (H4.out.next ok5 k5 (eJ _))
 clear y4
 clear ok5 k5 H4
 go_wp2
 go_end0
 exact⟨rfl,by rw [bJ.out]; exact H5.out.ok,H5.out.keep⟩
theorem Od (base g:Nat) (l:List UInt8) (x:av) (v:Int) (w:World) (h1:¬ 1<v) (hx:sB x) (h:eL w base g l) (hl:l.length≤90000000) :
 Calls Tryz.prog 68 #[.pointer (some ⟨g,0,none⟩),.agg (aI x).toArray,.int .i64 v] w (fH base g (l ++ cZ x v) w):=by
 have d1:decide (1<v)=false:=decide_eq_false h1
 have Hx:=hid hx
 obtain⟨name,room,zone⟩:=x
 have bJ:=hid (show l ++ cZ ⟨name,room,zone⟩ v=l ++ gA name ++ bg (room).toNat from by simp [cZ,h1])
 unfold aI
 have H0:=hid (WGo.start h 61 #[.string name,.int .i64 room,.string zone] (by decide))
 clear h hx h1
 go_enter Tryz.func68,Tryz.ntmps68
 go_wp2_with fail
 refine Calls.mono (oh base g _ name _ Hx.out.name H0.out.ok (by have:=H0.out.len; omega)) ?_
 rintro e w1 ⟨rfl,ok1,k1⟩
 have H1:=hid (H0.out.next ok1 k1 (eJ _))
 have y1:w1.cell? ⟨w.heap.size,1,none⟩=some (.int .i64 room):=H1.out.blk.cell 1
 clear ok1 k1 H0
 go_wp2_with fail
 refine Calls.mono (mT base g _ room _ Hx.out.room H1.out.ok (by have:=H1.out.len; omega)) ?_
 rintro e w2 ⟨rfl,ok2,k2⟩
 have H2:=hid (H1.out.next ok2 k2 (dD _))
 clear y1
 clear ok2 k2 H1
 go_wp2
 go_end0
 exact⟨rfl,by rw [bJ.out]; exact H2.out.ok,H2.out.keep⟩
theorem IA (base g:Nat) (l:List UInt8) (x:av) (v:Int) (w:World) (h1:1<v) (hx:sB x) (h:eL w base g l) (hl:l.length≤90000000) :
 Calls Tryz.prog 68 #[.pointer (some ⟨g,0,none⟩),.agg (aI x).toArray,.int .i64 v] w (fH base g (l ++ cZ x v) w):=by
 have d1:decide (1<v)=true:=decide_eq_true h1
 have Hx:=hid hx
 obtain⟨name,room,zone⟩:=x
 have bJ:=hid (show l ++ cZ ⟨name,room,zone⟩ v=l ++ gA name ++ bg (room).toNat ++ gA zone from by simp [cZ,h1])
 unfold aI
 have H0:=hid (WGo.start h 61 #[.string name,.int .i64 room,.string zone] (by decide))
 clear h hx h1
 go_enter Tryz.func68,Tryz.ntmps68
 go_wp2_with fail
 refine Calls.mono (oh base g _ name _ Hx.out.name H0.out.ok (by have:=H0.out.len; omega)) ?_
 rintro e w1 ⟨rfl,ok1,k1⟩
 have H1:=hid (H0.out.next ok1 k1 (eJ _))
 have y1:w1.cell? ⟨w.heap.size,1,none⟩=some (.int .i64 room):=H1.out.blk.cell 1
 have y2:w1.cell? ⟨w.heap.size,2,none⟩=some (.string zone):=H1.out.blk.cell 2
 clear ok1 k1 H0
 go_wp2_with fail
 refine Calls.mono (mT base g _ room _ Hx.out.room H1.out.ok (by have:=H1.out.len; omega)) ?_
 rintro e w2 ⟨rfl,ok2,k2⟩
 have H2:=hid (H1.out.next ok2 k2 (dD _))
 clear y1 y2
 have y2:w2.cell? ⟨w.heap.size,2,none⟩=some (.string zone):=H2.out.blk.cell 2
 clear ok2 k2 H1
 go_wp2_with fail
 refine Calls.mono (oh base g _ zone _ Hx.out.zone H2.out.ok (by have:=H2.out.len; omega)) ?_
 rintro e w3 ⟨rfl,ok3,k3⟩
 have H3:=hid (H2.out.next ok3 k3 (eJ _))
 clear y2
 clear ok3 k3 H2
 go_wp2
 go_end0
 exact⟨rfl,by rw [bJ.out]; exact H3.out.ok,H3.out.keep⟩
theorem GD (base g:Nat) (l:List UInt8) (x:ak) (w:World) (hx:Ae x) (h:eL w base g l) (hl:l.length≤90000000) :
 Calls Tryz.prog 70 #[.pointer (some ⟨g,0,none⟩),.agg (aE x).toArray] w (fH base g (l ++ eQ x) w):=by
 have Hx:=hid hx
 obtain⟨job,node,till⟩:=x
 have bJ:=hid (show l ++ eQ ⟨job,node,till⟩=l ++ gA job ++ gA node ++ bg (till).toNat from by simp [eQ])
 unfold aE
 have H0:=hid (WGo.start h 63 #[.string job,.string node,.int .i64 till] (by decide))
 clear h hx
 go_enter Tryz.func70,Tryz.ntmps70
 go_wp2_with fail
 refine Calls.mono (oh base g _ job _ Hx.out.job H0.out.ok (by have:=H0.out.len; omega)) ?_
 rintro e w1 ⟨rfl,ok1,k1⟩
 have H1:=hid (H0.out.next ok1 k1 (eJ _))
 have y1:w1.cell? ⟨w.heap.size,1,none⟩=some (.string node):=H1.out.blk.cell 1
 have y2:w1.cell? ⟨w.heap.size,2,none⟩=some (.int .i64 till):=H1.out.blk.cell 2
 clear ok1 k1 H0
 go_wp2_with fail
 refine Calls.mono (oh base g _ node _ Hx.out.node H1.out.ok (by have:=H1.out.len; omega)) ?_
 rintro e w2 ⟨rfl,ok2,k2⟩
 have H2:=hid (H1.out.next ok2 k2 (eJ _))
 clear y1 y2
 have y2:w2.cell? ⟨w.heap.size,2,none⟩=some (.int .i64 till):=H2.out.blk.cell 2
 clear ok2 k2 H1
 go_wp2_with fail
 refine Calls.mono (mT base g _ till _ Hx.out.till H2.out.ok (by have:=H2.out.len; omega)) ?_
 rintro e w3 ⟨rfl,ok3,k3⟩
 have H3:=hid (H2.out.next ok3 k3 (dD _))
 clear y2
 clear ok3 k3 H2
 go_wp2
 go_end0
 exact⟨rfl,by rw [bJ.out]; exact H3.out.ok,H3.out.keep⟩
theorem L9 (base g:Nat) (l:List UInt8) (x:aB) (v:Int) (w:World) (hx:xQ x) (h:eL w base g l) (hl:l.length≤90000000) :
 Calls Tryz.prog 65 #[.pointer (some ⟨g,0,none⟩),.agg (aH x).toArray,.int .i64 v] w (fH base g (l ++ eC x v) w):=by
 by_cases h1:1<v
 · by_cases h2:2<v
   · exact FI base g l x v w h1 h2 hx h hl
   · exact Ql base g l x v w h1 h2 hx h hl
 · exact Qk base g l x v w h1 (by omega) hx h hl
theorem JQ (base g:Nat) (l:List UInt8) (x:av) (v:Int) (w:World) (hx:sB x) (h:eL w base g l) (hl:l.length≤90000000) :
 Calls Tryz.prog 68 #[.pointer (some ⟨g,0,none⟩),.agg (aI x).toArray,.int .i64 v] w (fH base g (l ++ cZ x v) w):=by
 by_cases h1:1<v
 · exact IA base g l x v w h1 hx h hl
 · exact Od base g l x v w h1 hx h hl
theorem eL.keep {w w':World} {base g:Nat} {l:List UInt8} (h:eL w base g l) (hk:cM base g w w'):Below base w w':=hk.below h.at_.1 h.size
def fM {α:Type} (enc:α→List UInt8) (xs:List α):List UInt8:=bg xs.length ++ xs.flatMap enc
theorem lS {α:Type} {enc:α→List UInt8} (h:∀ x,(enc x).length≤85):∀ xs:List α,(xs.flatMap enc).length≤85*xs.length
 | []=>by simp
 | x :: xs=>by
  have:=lS h xs
  have:=h x
  rw [List.flatMap_cons,List.length_append,List.length_cons]; omega
theorem mL {α:Type} (enc:α→List UInt8) {xs:List α} {k:Nat} {x:α} (h:xs[k]? = some x):(xs.take (k+1)).flatMap enc=(xs.take k).flatMap enc ++ enc x:=by
 rw [List.take_add_one,h]; simp
def rO {α:Type} (enc:α→List UInt8) (xs:List α) (n:Nat) (base g:Nat) (l:List UInt8) (w:World) (i:Value) (wr:World):Prop:=
 ∃ k:Nat,k≤n∧i = .int .i64 k∧eL wr base g (l ++ bg n ++ (xs.take k).flatMap enc)∧cM base g w wr
theorem Rn.of {s:ByteArray} (h:s.size≤9223372036854775807):s.size≤9223372036854775807:=h
theorem vI (base g p:Nat) (l:List UInt8) (xs:List ak) (A:Option Addr) (n c:Nat) (w:World) (hx:aQ w base 3 A n (au aE xs)) (hl:xs.length=n) (hn:n≤1000000) (hw:∀ x ∈ xs,Ae x) (h:eL w base g l) (hll:l.length≤1000000) :
 Calls Tryz.prog 69 #[.pointer (some ⟨g,0,none⟩),.slice A n c,.func (.func 70) #[.pointer (some ⟨g,0,none⟩)] #[]] w (fH base g (l ++ fM eQ xs) w):=by
 have nA:∀ k,((xs.take k).flatMap eQ).length≤85*n:=fun k=>by
  have h1:=lS (enc:=eQ) (fun x=>pL _) (xs.take k)
  have h2:(xs.take k).length≤n:=by rw [List.length_take]; omega
  omega
 have hnl:=dD n
 have Hlen:=hid (show ∀ k,(l ++ bg n ++ (xs.take k).flatMap eQ).length≤90000000 from fun k=>by have:=nA k; simp only [List.length_append]; omega)
 have bJ:=hid (show l ++ fM eQ xs=l ++ bg n ++ (xs.take n).flatMap eQ from by unfold fM; rw [← hl,List.take_length,List.append_assoc])
 have HN:=hid (mT base g l (n:Int) w (by omega) h (by omega))
 have Hw:=hid hw
 have Hl:=hid hl
 have Hx:=hid hx
 have Ho:=hid h
 clear hw hl hx h nA hnl
 go_enter Tryz.func69,Tryz.ntmps69
 go_wp2_with fail
 refine Calls.mono HN.out ?_
 rintro e w0 ⟨rfl,ok0,k0⟩
 rw [show ((n:Int)).toNat=n from by omega] at ok0
 have Ok0:=hid ok0
 have K0:=hid k0
 clear ok0 k0
 go_wp2
 go_loopw [7,14] (fun _ i wr=>rO eQ xs n base g l w i wr) (fun _ i _=>n - (intOf i).toNat)
 case atStart=>exact⟨0,Nat.zero_le _,rfl,by simpa using Ok0.out,K0.out⟩
 case round=>
  obtain⟨k,hk,rfl,hok,hkp⟩:=hrel
  have Hok:=hid hok
  have Hkp:=hid hkp
  have hsz:=hok.size
  have hB:=Ho.out.keep hkp
  clear hok hkp
  by_cases hlt:k<n
  · obtain⟨x,hf⟩:∃ x,xs[k]? = some x:=⟨_,List.getElem?_eq_getElem (by rw [Hl.out]; exact hlt)⟩
    obtain⟨b,off,rfl,hbB,hc⟩:=(Hx.out.below hB).dF bB Hl.out hf
    have hso:=hid (Hw.out x (List.mem_of_getElem? hf))
    have Hst:=hid (mL eQ hf)
    obtain⟨X,hX⟩:∃ X,X=x:=⟨_,rfl⟩
    have HX:=hid hX
    obtain⟨job,node,till⟩:=x
    obtain⟨c0,c1,c2⟩:=rc3 hc
    clear hc hf hX hB
    have hlb:b<wr.heap.size:=by omega
    have hba:Below wr.heap.size wr (wr.alloc (.cells #[.string job,.string node,.int .i64 till] 63)):=(Below.refl _ _).alloc (Nat.le_refl _) _
    have Hba:=hid hba
    have Ha:=hid (Hok.out.below hba)
    have Hkl:=hid (Hlen.out k)
    clear hba
    go_wp2_with fail
    refine Calls.mono (GD base g _ ⟨job,node,till⟩ _ hso.out Ha.out Hkl.out) ?_
    rintro e w1 ⟨rfl,ok1,k1⟩
    have Hk1:=hid (Hkp.out.trans ((cM.of_below Hba.out).trans k1))
    have Ok1:=hid (show eL w1 base g (l ++ bg n ++ (xs.take (k+1)).flatMap eQ) from by rw [Hst.out,← List.append_assoc]; exact ok1)
    clear ok1 k1
    go_wp2
    go_roundw
    case rel=>exact⟨k+1,by omega,by go_num,Ok1.out,Hk1.out⟩
    case measure=>simp [intOf]; omega
  · obtain rfl:k=n:=by omega
    go_wp2
    go_end0
    exact⟨rfl,by rw [bJ.out]; exact Hok.out,Hkp.out⟩
inductive FV where
 | num (n:Int)
 | txt (s:ByteArray)
def fvL:FV→List UInt8
 | .num n=>Go.Lib.itoa n
 | .txt s=>aV s.data.toList
def fN (f:ByteArray × FV):List UInt8:=aV f.1.data.toList ++ [58] ++ fvL f.2
def dY:List (List UInt8)→List UInt8
 | []=>[]
 | x :: l=>x ++ l.flatMap fun y=>44 :: y
def fO (l:List (ByteArray × FV)):List UInt8:=[123] ++ dY (l.map fN) ++ [125]
def lX (name:ByteArray) (l:List (List UInt8)):List UInt8:=[44] ++ aV name.data.toList ++ [58,91] ++ dY l ++ [93]
theorem EI (l:List (List UInt8)) (y:List UInt8):dY (l ++ [y])=if l=[] then y else dY l ++ 44 :: y:=by
 cases l with
 | nil=>simp [dY]
 | cons x l=>simp [dY]
def j5 (j:aB):List (ByteArray × FV):=[(⟨#[110,97,109,101]⟩,.txt j.name),(⟨#[112,114,105,111]⟩,.num j.prio),(⟨#[110,101,101,100]⟩,.num j.need),(⟨#[116,114,105,101,115]⟩,.num j.tries),(⟨#[116,97,103]⟩,.txt j.tag)]
def gQ (n:av):List (ByteArray × FV):=[(⟨#[110,97,109,101]⟩,.txt n.name),(⟨#[114,111,111,109]⟩,.num n.room),(⟨#[122,111,110,101]⟩,.txt n.zone)]
def eT (l:ak):List (ByteArray × FV):=[(⟨#[106,111,98]⟩,.txt l.job),(⟨#[110,111,100,101]⟩,.txt l.node),(⟨#[117,110,116,105,108]⟩,.num l.till)]
def eU (st:ah):List UInt8:=[123,34,114,101,118,34,58] ++ Go.Lib.itoa st.rev ++ lX ⟨#[106,111,98,115]⟩ (st.jobs.map fun j=>fO (j5 j)) ++ lX ⟨#[110,111,100,101,115]⟩ (st.nodes.map fun n=>fO (gQ n)) ++ lX ⟨#[108,101,97,115,101,115]⟩ (st.leases.map fun l=>fO (eT l)) ++ [125]
def bs (l:List UInt8):ByteArray:=⟨l.toArray⟩
def Ir (jobs:List aB) (nodes:List av) (leases:List ak) (v:Int):List UInt8:=fM (fun x=>eC x v) jobs ++ fM (fun x=>cZ x v) nodes ++ fM eQ leases
theorem JR {u:Nat} (h:u<10):Lib.decDigits u=[UInt8.ofNat (48+u)]:=by rw [Lib.decDigits,dif_pos h]
theorem Ma {u:Nat} (h:¬ u<10):Lib.decDigits u=Lib.decDigits (u / 10) ++ [UInt8.ofNat (48+u % 10)]:=by rw [Lib.decDigits,dif_neg h]
theorem CT:∀ (f u:Nat),u<10 ^ f→0<f→(Lib.decDigits u).length≤f
 | 0,_,_,h=>absurd h (by omega)
 | f+1,u,hu,_=>by
  by_cases h:u<10
  · rw [JR h]; simp
  · rw [Ma h]
    have h1:u / 10<10 ^ f:=by rw [Nat.pow_succ,Nat.mul_comm] at hu; exact Nat.div_lt_of_lt_mul hu
    have h2:0<f:=by
     rcases Nat.eq_zero_or_pos f with h' | h'
     · subst h'; simp at hu; omega
     · exact h'
    have:=CT f (u / 10) h1 h2
    simp; omega
theorem Ee (n:Int) (h0 : -9223372036854775808≤n) (h1:n≤9223372036854775807):(Lib.itoa n).length≤20:=by
 have hp:(10:Nat) ^ 19=10000000000000000000:=by decide
 unfold Lib.itoa
 split
 · have:=CT 19 n.natAbs (by omega) (by decide)
   simp; omega
 · have:=CT 19 n.toNat (by omega) (by decide)
   omega
def Bt (B:Nat) (l:List UInt8) (w:World) (e:Ending) (w':World):Prop:=
 ∃ A m c,e = .returned (.slice A m c)∧w'.ownsRow B 5 1 (.slice A m c) m (aF l)∧Below B w w'∧Lib.OthersKept 5 none w w'
theorem gW {B:Nat} {w w':World} {A A':Option Addr} {m m' c c':Nat} {xs:List Value} (ho:w.ownsRow B 5 1 (.slice A m c) m xs) (hg:dE w w' (.slice A m c) (.slice A' m' c')):Lib.OthersKept 5 none w w':=by
 refine (Lib.OthersKept.refl _ _ _).grown hg.grown fun g hgb=>?_
 rcases ho.2 with ⟨h1,h2⟩ | ⟨q,cap,cur,hv,hq,hgq,r⟩
 · rw [h1] at hgb; cases hgb
 · rw [hv] at hgb
   have:q=g:=by simpa [Value.ownBlock] using hgb
   subst this
   exact⟨_,_,hgq⟩
theorem BE {B n:Nat} {w:World} {v:Value} {xs:List Value} (ho:w.ownsRow B 5 1 v n xs):∃ A c,v = .slice A n c:=by
 rcases ho.2 with ⟨h1,h2⟩ | ⟨q,cap,cur,hv,hq,hgq,r⟩
 · subst h2; exact⟨_,_,h1⟩
 · exact⟨_,_,hv⟩
theorem jint (B:Nat) (A:Option Addr) (m c:Nat) (l:List UInt8) (i:Int) (h0 : -9223372036854775808≤i) (h1:i≤9223372036854775807) (w:World) (hown:w.ownsRow B 5 1 (.slice A m c) m (aF l)) (hBw:B≤w.heap.size) (hm:m≤140737488350000)
 (htab : Lib.TabBelow Tryz.prog B w "internal/strconv.uint64pow10" .u64 Lib.pow10Tab) :
 Calls Tryz.prog 75 #[.slice A m c,.int .i64 i,.int .i64 10] w (Bt B (l ++ Lib.itoa i) w):=by
 refine Calls.mono (AV B m i h0 h1 _ _ w hown hBw (by omega) htab) ?_
 rintro e w' ⟨v',rfl,ho,hb,hk⟩
 obtain⟨A',c',rfl⟩:=BE ho
 refine⟨A',_,c',rfl,?_,hb,hk⟩
 rw [cV]
 exact ho
theorem vR (B:Nat) (A:Option Addr) (m c:Nat) (l:List UInt8) (s:ByteArray) (w:World) (hown:w.ownsRow B 5 1 (.slice A m c) m (aF l)) (hm:m+6*s.size+8≤140737488355328) (hB:B≤w.heap.size) :
 Calls Tryz.prog 128 #[.slice A m c,.string s] w (Bt B (l ++ aV s.data.toList) w):=by
 refine Calls.mono (wo B A m c l s w hown hm hB) ?_
 rintro e w' ⟨A',m',c',rfl,ho,hg⟩
 exact⟨A',m',c',rfl,ho,hg.below hB (fun k hk=>(hown.lt k hk).1),gW hown hg⟩
theorem ze {L:Nat}:∀ l:List (List UInt8),(∀ x ∈ l,x.length≤L)→(dY l).length≤l.length*(L+1)
 | [],_=>by simp [dY]
 | x :: l,h=>by
  have h1:∀ l:List (List UInt8),(∀ y ∈ l,y.length≤L)→(l.flatMap fun y=>44 :: y).length≤l.length*(L+1):=by
   intro l
   induction l with
   | nil=>intro _; simp
   | cons y l ih=>
    intro h
    have:=ih fun z hz=>h z (List.mem_cons_of_mem _ hz)
    have hy:=h y List.mem_cons_self
    rw [List.flatMap_cons,List.length_append,List.length_cons,List.length_cons,Nat.add_mul]
    omega
  have h2:=h1 l fun y hy=>h y (List.mem_cons_of_mem _ hy)
  have hx:=h x List.mem_cons_self
  show (x ++ l.flatMap fun y=>44 :: y).length≤_
  rw [List.length_append,List.length_cons,Nat.add_mul]
  omega
theorem nG {α:Type} (f:α→List UInt8) {l:List α} {k:Nat} {y:α} (h:l[k]? = some y):dY ((l.take (k+1)).map f)=(if k=0 then [] else dY ((l.take k).map f) ++ [44]) ++ f y:=by
 have hk:k<l.length:=(List.getElem?_eq_some_iff.1 h).1
 rw [List.take_add_one,h]
 show dY ((l.take k ++ [y]).map f)=_
 rw [List.map_append,List.map_singleton,EI]
 by_cases h0:k=0
 · subst h0; simp
 · rw [if_neg h0,if_neg (by intro e; have:=congrArg List.length e; rw [List.length_map,List.length_take,List.length_nil] at this; omega)]
   simp
def Jd (v:FV):Prop:=match v with
 | .num x=>-9223372036854775807≤x∧x≤9223372036854775807
 | .txt s=>s.size≤100
theorem dZ (s:ByteArray) (h:s.size≤100):(aV s.data.toList).length≤602:=by
 have:=tB s.data.toList
 have hs:s.data.toList.length=s.size:=by simp
 unfold aV
 rw [List.length_append,List.length_singleton]
 omega
theorem zf (f:ByteArray × FV) (h1:f.1.size≤100) (h2:Jd f.2):(fN f).length≤1210:=by
 have a:=dZ f.1 h1
 have b:(fvL f.2).length≤602:=by
  obtain⟨nm,v⟩:=f
  cases v with
  | num x=>have:=Ee x (by have:=h2.1; omega) h2.2; show (Go.Lib.itoa x).length≤602; omega
  | txt s=>exact dZ s h2
 unfold fN
 rw [List.length_append,List.length_append,List.length_singleton]
 omega
end Go.Proofs.YtcpgnjmaampglaaGreatDoor
