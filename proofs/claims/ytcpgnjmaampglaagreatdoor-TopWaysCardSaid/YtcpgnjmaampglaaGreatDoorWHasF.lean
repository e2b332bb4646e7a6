/- Of the proof of a statement: HasFL, HasF, Sum, PlChg. -/
import Derived.Sort.Statements
import Derived.Shelf.SlSortCmp.WholeK
import Derived.Test.YtcpgnjmaampglaaGreatDoorWPlSum
import Derived.Test.YtcpgnjmaampglaaGreatDoorWRPh
set_option linter.unusedVariables false
set_option linter.unusedSimpArgs false
set_option maxRecDepth 100000
set_option maxHeartbeats 8000000
/- The walks of slices.IndexFunc and ContainsFunc at rows of records, for any function value that answers a predicate. -/
namespace Go.Proofs.YtcpgnjmaampglaaGreatDoor
open Go.Lib (hid)
open Go.RowKit
open Go.Sort
def mq {α:Type} (p:α→Bool) (F:FuncId) (caps:Array Value) (enc:α→List Value) (xs:List α) (w:World):Prop:=
 ∀ W,Below w.heap.size w W→∀ x ∈ xs,Calls Tryz.prog F (#[.agg (enc x).toArray] ++ caps) W fun e W'=>e = .returned (.bool (p x))∧Below W.heap.size W W'
def Ik {α:Type} (p:α→Bool) (xs:List α) (n:Nat) (w:World) (i:Value) (wr:World):Prop:=∃ k:Nat,k≤n∧i = .int .i64 k∧(xs.take k).any p=false∧Below w.heap.size w wr
def vT {α:Type} (p:α→Bool) (xs:List α) (w:World) (e:Ending) (w':World):Prop:=
 ∃ i:Int,e = .returned (.int .i64 i)∧Below w.heap.size w w'∧((i = -1∧xs.any p=false)∨(0≤i∧xs.any p=true))
theorem yh {α:Type} {p:α→Bool} {xs:List α} {k:Nat} {x:α} (h:xs[k]? = some x) (hp:p x=true):xs.any p=true:=List.any_eq_true.2 ⟨x,List.mem_of_getElem? h,hp⟩
theorem tY {α:Type} {p:α→Bool} {xs:List α} {k:Nat} {x:α} (h:xs[k]? = some x) (ht:(xs.take k).any p=false) (hp:p x=false):(xs.take (k+1)).any p=false:=by
 rw [List.take_add_one,h,List.any_append,ht]; simp [hp]
theorem Il {α:Type} {p:α→Bool} {xs:List α} {k:Nat} (ht:(xs.take k).any p=false) (hk:xs.length≤k):xs.any p=false:=by rwa [List.take_of_length_le hk] at ht
theorem qO :
 (∀ (p:ak→Bool) (F:FuncId) (caps:Array Value) (xs:List ak) (A:Option Addr) (n c:Nat) (w:World) (hent:∀ args w,(callFunc F args).run Tryz.prog w = .ok (.enter F args) w) (hx:aQ w w.heap.size 3 A n (au aE xs)) (hl:xs.length=n) (hn:n≤9223372036854775807) (hp:mq p F caps aE xs w),Calls Tryz.prog 186 #[.slice A n c,.func (.func F) #[] caps] w (vT p xs w)) ∧
 (∀ (p:aB→Bool) (F:FuncId) (caps:Array Value) (xs:List aB) (A:Option Addr) (n c:Nat) (w:World) (hent:∀ args w,(callFunc F args).run Tryz.prog w = .ok (.enter F args) w) (hx:aQ w w.heap.size 5 A n (au aH xs)) (hl:xs.length=n) (hn:n≤9223372036854775807) (hp:mq p F caps aH xs w),Calls Tryz.prog 182 #[.slice A n c,.func (.func F) #[] caps] w (vT p xs w)) ∧
 (∀ (p:av→Bool) (F:FuncId) (caps:Array Value) (xs:List av) (A:Option Addr) (n c:Nat) (w:World) (hent:∀ args w,(callFunc F args).run Tryz.prog w = .ok (.enter F args) w) (hx:aQ w w.heap.size 3 A n (au aI xs)) (hl:xs.length=n) (hn:n≤9223372036854775807) (hp:mq p F caps aI xs w),Calls Tryz.prog 184 #[.slice A n c,.func (.func F) #[] caps] w (vT p xs w)):=by
 refine⟨@fun p F caps xs A n c w hent hx hl hn hp=>(fun(jM0:Unit)=>?_) (),@fun p F caps xs A n c w hent hx hl hn hp=>(fun(jM1:Unit)=>?_) (),@fun p F caps xs A n c w hent hx hl hn hp=>(fun(jM2:Unit)=>?_) ()⟩<;>(
 have Hl:=hid hl
 have Hp:=hid hp
 clear hl hp
 first|(guard_hyp jM0;go_enter Tryz.func186,Tryz.ntmps186)|(guard_hyp jM1;go_enter Tryz.func182,Tryz.ntmps182)|go_enter Tryz.func184,Tryz.ntmps184
 go_wp2
 go_loopw [4,5,8,16] (fun _ _ i _ wr=>Ik p xs n w i wr) (fun _ _ i _ _=>n - (intOf i).toNat)
 case atStart=>exact⟨0,Nat.zero_le _,rfl,by simp,Below.refl _ _⟩
 case round=>
  obtain⟨k,hk,rfl,hnone,hb⟩:=hrel
  have gM:=hid hnone
  have Hb:=hid hb
  have hsz:=hb.size
  clear hnone
  by_cases hlt:k<n
  · obtain⟨x,hf⟩:∃ x,xs[k]? = some x:=⟨_,List.getElem?_eq_getElem (by rw [Hl.out]; exact hlt)⟩
    first|(guard_hyp jM0;obtain⟨b,off,rfl,hbB,hc⟩:=(hx.below hb).dF bB Hl.out hf)|(guard_hyp jM1;obtain⟨b,off,rfl,hbB,hc⟩:=(hx.below hb).dF aN Hl.out hf)|obtain⟨b,off,rfl,hbB,hc⟩:=(hx.below hb).dF bF Hl.out hf
    have Hf:=hid hf
    have hcon:=hid (Hp.out wr hb x (List.mem_of_getElem? hf))
    obtain⟨t,ht⟩:∃ t,p x=t:=⟨_,rfl⟩
    rw [ht] at hcon
    have Ht:=hid ht
    first
     |(
      guard_hyp jM0
      obtain⟨job,node,till⟩:=x
      obtain⟨c0,c1,c2⟩:=rc3 hc
      have hcon:=hid (show Calls Tryz.prog F (#[.agg #[.string job,.string node,.int .i64 till]] ++ caps) wr fun e W'=>e = .returned (.bool t)∧Below wr.heap.size wr W' from hcon.out))
     |(
      guard_hyp jM1
      obtain⟨name,prio,need,tries,tag⟩:=x
      obtain⟨c0,c1,c2,c3,c4⟩:=rc5 hc
      have hcon:=hid (show Calls Tryz.prog F (#[.agg #[.string name,.int .i64 prio,.int .i64 need,.int .i64 tries,.string tag]] ++ caps) wr fun e W'=>e = .returned (.bool t)∧Below wr.heap.size wr W' from hcon.out))
     |(
      guard_hyp jM2
      obtain⟨name,room,zone⟩:=x
      obtain⟨c0,c1,c2⟩:=rc3 hc
      have hcon:=hid (show Calls Tryz.prog F (#[.agg #[.string name,.int .i64 room,.string zone]] ++ caps) wr fun e W'=>e = .returned (.bool t)∧Below wr.heap.size wr W' from hcon.out))
    clear hc hf hx hb ht
    have hlb:b<wr.heap.size:=by omega
    go_wp2_with fail
    refine Calls.mono hcon.out ?_
    rintro e w2 ⟨rfl,hb2⟩
    have Hb2:=hid (Hb.out.trans (hb2.mono Hb.out.size))
    clear hcon hb2
    cases t
    · have fin:=hid (tY Hf.out gM.out Ht.out)
      go_wp2
      go_roundw
      case rel=>exact⟨k+1,by omega,by go_num,fin.out,Hb2.out⟩
      case measure=>simp [intOf]; omega
    · have fin:=hid (yh Hf.out Ht.out)
      go_wp2
      go_ret
      exact⟨_,rfl,Hb2.out,.inr ⟨by omega,fin.out⟩⟩
  · have fin:=hid (Il gM.out (by rw [Hl.out]; omega))
    clear hx
    go_wp2
    go_ret
    exact⟨_,rfl,Hb.out,.inl ⟨rfl,fin.out⟩⟩)
theorem Fx (p:ak→Bool) (F:FuncId) (caps:Array Value) (xs:List ak) (A:Option Addr) (n c:Nat) (w:World) (hent:∀ args w,(callFunc F args).run Tryz.prog w = .ok (.enter F args) w) (hx:aQ w w.heap.size 3 A n (au aE xs)) (hl:xs.length=n) (hn:n≤9223372036854775807) (hp:mq p F caps aE xs w) :
 Calls Tryz.prog 145 #[.slice A n c,.func (.func F) #[] caps] w fun e w'=>e = .returned (.bool (xs.any p))∧Below w.heap.size w w':=by
 have hC:=hid (qO.1 p F caps xs A n c w hent hx hl hn hp)
 clear hx hl hn hp hent
 go_enter Tryz.func145,Tryz.ntmps145
 go_wp2_with fail
 refine Calls.mono hC.out ?_
 rintro e w2 ⟨i,rfl,hb2,hcase⟩
 rcases hcase with ⟨rfl,hn⟩ | ⟨hi,hn⟩
 · go_wp2
   go_ret
   exact⟨dW hn.symm,hb2⟩
 · have d0:decide (0≤i)=true:=decide_eq_true hi
   go_wp2
   go_ret
   exact⟨dW hn.symm,hb2⟩
theorem KT (p:aB→Bool) (F:FuncId) (caps:Array Value) (xs:List aB) (A:Option Addr) (n c:Nat) (w:World) (hent:∀ args w,(callFunc F args).run Tryz.prog w = .ok (.enter F args) w) (hx:aQ w w.heap.size 5 A n (au aH xs)) (hl:xs.length=n) (hn:n≤9223372036854775807) (hp:mq p F caps aH xs w) :
 Calls Tryz.prog 139 #[.slice A n c,.func (.func F) #[] caps] w fun e w'=>e = .returned (.bool (xs.any p))∧Below w.heap.size w w':=by
 have hC:=hid (qO.2.1 p F caps xs A n c w hent hx hl hn hp)
 clear hx hl hn hp hent
 go_enter Tryz.func139,Tryz.ntmps139
 go_wp2_with fail
 refine Calls.mono hC.out ?_
 rintro e w2 ⟨i,rfl,hb2,hcase⟩
 rcases hcase with ⟨rfl,hn⟩ | ⟨hi,hn⟩
 · go_wp2
   go_ret
   exact⟨dW hn.symm,hb2⟩
 · have d0:decide (0≤i)=true:=decide_eq_true hi
   go_wp2
   go_ret
   exact⟨dW hn.symm,hb2⟩
theorem I7 (p:av→Bool) (F:FuncId) (caps:Array Value) (xs:List av) (A:Option Addr) (n c:Nat) (w:World) (hent:∀ args w,(callFunc F args).run Tryz.prog w = .ok (.enter F args) w) (hx:aQ w w.heap.size 3 A n (au aI xs)) (hl:xs.length=n) (hn:n≤9223372036854775807) (hp:mq p F caps aI xs w) :
 Calls Tryz.prog 142 #[.slice A n c,.func (.func F) #[] caps] w fun e w'=>e = .returned (.bool (xs.any p))∧Below w.heap.size w w':=by
 have hC:=hid (qO.2.2 p F caps xs A n c w hent hx hl hn hp)
 clear hx hl hn hp hent
 go_enter Tryz.func142,Tryz.ntmps142
 go_wp2_with fail
 refine Calls.mono hC.out ?_
 rintro e w2 ⟨i,rfl,hb2,hcase⟩
 rcases hcase with ⟨rfl,hn⟩ | ⟨hi,hn⟩
 · go_wp2
   go_ret
   exact⟨dW hn.symm,hb2⟩
 · have d0:decide (0≤i)=true:=decide_eq_true hi
   go_wp2
   go_ret
   exact⟨dW hn.symm,hb2⟩
def FQ:Array Value:=Array.replicate 256 (.int .u32 0)
theorem Im (w:World):(zeroValue 286).run Tryz.prog w = .ok (.agg FQ) w:=by kernel_rfl
def xq (cs:Array Value) (k:Nat):Prop:=cs.size=256∧(∀ j,j<k→cs[j]? = some (.int .u32 ((nX 8 j:Nat):Int)))∧cs.all (·.oneCell')=true
theorem xq.zero:xq FQ 0:=⟨by simp [FQ],fun j h=>absurd h (by omega),by decide +kernel⟩
theorem xq.step {cs:Array Value} {k:Nat} (h:xq cs k) (hk:k<256):xq (cs.setIfInBounds k (.int .u32 ((nX 8 k:Nat):Int))) (k+1):=by
 refine⟨by simpa using h.1,fun j hj=>?_,?_⟩
 · rw [Array.getElem?_setIfInBounds]
   have:=h.1
   by_cases e:k=j
   · subst e; rw [if_pos rfl,if_pos (by omega)]
   · rw [if_neg e]; exact h.2.1 j (by omega)
 · have:=h.2.2
   rw [Array.all_eq_true_iff_forall_mem] at this ⊢
   intro x hx
   rcases Array.mem_or_eq_of_mem_setIfInBounds hx with h' | h'
   · exact this x h'
   · subst h'; rfl
def NB (w:World) (i:Value) (wr:World):Prop:=∃ (k:Nat) (cs:Array Value),k≤256∧i = .int .i64 k∧xq cs k∧wr=w.alloc (.cells cs 286)
theorem below_setRow (w:World) (g:Nat) (cs:Array Value):Below g w (w.setRow g cs):=by
 refine⟨rfl,rfl,rfl,by simp [World.setRow],fun k hk=>?_⟩
 simp only [World.setRow,Array.getElem?_modify]
 rw [if_neg (by omega)]
theorem Lo (w:World):Calls Tryz.prog 171 #[] w fun e w'=>∃ cs,xq cs 256∧e = .returned (.agg cs)∧Below w.heap.size w w':=by
 have hz:=Im
 go_enter Tryz.func171,Tryz.ntmps171
 go_wp2
 go_loopw [1,2,3,4,9] (fun _ _ _ i _ wr=>NB w i wr) (fun _ _ _ i _ _=>256 - (intOf i).toNat)
 case atStart=>exact⟨0,FQ,by omega,rfl,xq.zero,rfl⟩
 case round=>
  obtain⟨k,cs,hk,rfl,ht,rfl⟩:=hrel
  have Ht:=hid ht
  clear ht
  by_cases hlt:k<256
  · go_wp2
    go_loop [2,3,9] (fun x _ i=>∃ (m:Nat),m≤8∧i = .int .i64 m∧x = .int .u32 ((nX m k:Nat):Int)) (fun _ _ i=>8 - (intOf i).toNat)
    case atStart=>exact⟨0,by omega,rfl,rfl⟩
    case round=>
     obtain⟨m,hm,rfl,rfl⟩:=hrel
     have hlt2:=yj (x:=k) (by omega) m
     have hst:=AZ (nX m k) hlt2
     have hb1:=hst.2.1
     have hb2:=hst.2.2
     have Hst:=hid hst.1
     clear hst
     by_cases hm8:m<8
     · go_wp2
       go_round
       case rel=>exact⟨m+1,by omega,by go_num,by rw [Hst.out]; rfl⟩
       case measure=>simp [intOf]; omega
     · obtain rfl:m=8:=by omega
       obtain⟨cv,hcv⟩:∃ v,cs[k]? = some v:=⟨_,Array.getElem?_eq_getElem (by rw [Ht.out.1]; exact hlt)⟩
       go_wp2
       go_roundw
       case rel=>exact⟨k+1,_,by omega,by go_num,Ht.out.step hlt,rfl⟩
       case measure=>simp [intOf]; omega
  · obtain rfl:k=256:=by omega
    have hg:=heap_alloc_new w (.cells cs 286)
    have hi:(Tryz.prog.info? 286).map (·.size)=some cs.size:=by rw [Ht.out.1]; kernel_rfl
    have HG:=hid hg
    have HI:=hid hi
    clear hg hi
    go_wp2_with (first | (refine wpList_load_row rfl _ _ rfl w.heap.size rfl 286 cs (0,0) _ HG.out Tryz.underlying286 rfl HI.out ?_) | (refine wpList_store_row rfl _ _ _ rfl w.heap.size cs rfl rfl 286 cs HG.out HI.out rfl Ht.out.2.2 ?_))
    have e1:((w.alloc (.cells cs 286)).setRow w.heap.size cs).heap[w.heap.size]? = some (.cells cs 286 (0,0)):=setRow_heap _ _ _ _ _ _ HG.out
    refine bodyPost_ret (results_cell_row rfl _ _ w.heap.size _ cs (0,0) _ rfl e1 Tryz.underlying286 rfl HI.out) rfl ⟨cs,Ht.out,rfl,?_⟩
    exact (Below.refl _ _).alloc (Nat.le_refl _) _ |>.trans (below_setRow _ _ _)
theorem FR (w:World) (c c':Array Value) (t:TypeId):(w.alloc (.cells c t)).setRow w.heap.size c'=w.alloc (.cells c' t):=by
 have hm:∀ (a:Array Obj) (x:Obj) (f:Obj→Obj),(a.push x).modify a.size f=a.push (f x):=by
  intro a x f
  apply Array.ext
  · simp
  · intro i h1 h2
    simp only [Array.getElem_modify,Array.getElem_push]
    by_cases h:a.size=i
    · subst h
      simp
    · have hi:i<a.size:=by simp at h1; omega
      simp [h,hi]
 unfold World.setRow
 show ({ w.alloc (.cells c t) with heap:=(w.heap.push (.cells c t)).modify w.heap.size _ }:World)=_
 rw [hm]
 rfl
def PO (s:ByteArray) (x i:Value):Prop:=∃ (k n:Nat),k≤s.size∧i = .int .i64 k∧x = .int .u32 n∧n=DY (s.data.toList.take k)
theorem Nx (s:ByteArray) (w:World) (hs:s.size≤9223372036854775807):Calls Tryz.prog 126 #[.string s] w fun e w'=>e = .returned (.int .u32 ((jV s.data.toList:Nat):Int))∧Below w.heap.size w w':=by
 have hz:=Im
 go_enter Tryz.func126,Tryz.ntmps126
 go_wp2_with fail
 refine Calls.mono (Lo w) ?_
 rintro e w1 ⟨cs,ht,rfl,hb⟩
 have Ht:=hid ht
 have hg:=heap_alloc_new w1 (.cells FQ 286)
 have hi:(Tryz.prog.info? 286).map (·.size)=some cs.size:=by rw [Ht.out.1]; kernel_rfl
 have HG:=hid hg
 have HI:=hid hi
 have hb2:Below w.heap.size w (w1.alloc (.cells cs 286)):=hb.alloc hb.size _
 have Hb:=hid hb2
 clear hg hi ht hb2 hb
 go_wp2_with (refine wpList_store_row rfl _ _ _ rfl w1.heap.size cs rfl rfl 286 FQ HG.out HI.out (by rw [Ht.out.1]; simp [FQ]) Ht.out.2.2 ?_; rw [FR])
 go_loop [4,5,9] (fun x _ i=>PO s x i) (fun _ _ i=>s.size - (intOf i).toNat)
 case atStart=>exact⟨0,_,by omega,rfl,rfl,rfl⟩
 case round=>
  obtain⟨k,x,hk,rfl,rfl,hx⟩:=hrel
  have hlt:x<4294967296:=by rw [hx]; exact NC _
  have Hx:=hid hx
  clear hx
  by_cases hsz:k<s.size
  · obtain⟨c,hc⟩:∃ c:Nat,s[k].toNat=c:=⟨_,rfl⟩
    have hc2:c<256:=by rw [← hc]; exact s[k].toNat_lt
    have Hi:=l9 hsz hc
    have hix:=ND x c hc2
    have bJ:=hid (show x / 256 ^^^ nX 8 (x % 256 ^^^ c)=DY (s.data.toList.take (k+1)) from by rw [oG hsz,Jm,← Hx.out,hc]; rfl)
    clear hc
    generalize hy:(x % 256) ^^^ c=y at hix bJ
    clear hy
    have hcs:=Ht.out.2.1 y hix.2
    have hy2:=hix.2
    have hix1:=hix.1
    have hst:=CB x y hlt hy2
    clear hix
    go_wp2
    go_round
    case rel=>exact⟨k+1,_,by omega,by go_num,rfl,bJ.out⟩
    case measure=>simp [intOf]; omega
  · have hn:=hid (NE x hlt)
    have hfin:=hid (show 4294967295 - x=jV s.data.toList from by
     unfold jV; rw [Hx.out,List.take_of_length_le (by simp; omega)])
    go_wp2
    go_ret
    exact⟨bU (by rw [hn.out,hfin.out]),Hb.out⟩
theorem qd {α:Type} (p:α→Bool):∀ l:List α,(l.find? p).isSome=l.any p
 | []=>rfl
 | a :: l=>by
  rw [List.find?_cons,List.any_cons]
  cases p a
  · exact qd p l
  · rfl
section
variable {α:Type} (key:α→ByteArray)
def cfK (x y:α):Int:=oq (key x) (key y)
theorem tZ (x y:α):ltOf (cfK key) x y=cY (key x) (key y):=by
 unfold ltOf cfK
 cases h:cY (key x) (key y)
 · exact decide_eq_false (fun h'=>by rw [zw,h] at h'; cases h')
 · exact decide_eq_true (zw.2 h)
theorem Pt:SWO (ltOf (cfK key)) where
 irrefl x:=by rw [tZ,eB]
 trans x y z h1 h2:=by rw [tZ] at *; exact iG h1 h2
 ntrans x y z h1 h2:=by
  rw [tZ] at *
  cases h:cY (key x) (key z)
  · rfl
  · by_cases e:key x=key y
    · rw [← e,h] at h2; exact h2
    · rw [iG (iS h1 e) h] at h2; exact h2
variable {key}
theorem mg [Inhabited α] {rows set xs:List α} {gone:List ByteArray} {d':Array α} (hr:aT key rows) (hs:aT key set)
 (hnd:xs.Pairwise fun a b=>key a≠key b) (hm:∀ z,z ∈ xs↔eA key rows gone set (key z)=some z)
 (hp:PermIn 0 xs.toArray.size xs.toArray d') (ho:SortedIn (ltOf (cfK key)) 0 xs.toArray.size d'):d'.toList=bR key rows set gone:=by
 have hsz:d'.size=xs.length:=by simpa using hp.1
 have hperm:d'.toList.Perm xs:=by
  have h:=hp.2.2
  have e1:d'.extract 0 xs.toArray.size=d':=by rw [Array.extract_eq_self_of_le (by simp [hsz])]
  have e2:xs.toArray.extract 0 xs.toArray.size=xs.toArray:=Array.extract_eq_self_of_le (Nat.le_refl _)
  rw [e1,e2] at h
  simpa using h
 refine Bj hr hs ?_ (fun z=>by rw [hperm.mem_iff,hm])
 have hnd':d'.toList.Pairwise fun a b=>key a≠key b:=(hperm.pairwise_iff (fun {a b} h=>Ne.symm h)).2 hnd
 refine List.pairwise_iff_getElem.2 fun i j hi hj hij=>?_
 have hi':i<d'.size:=by simpa using hi
 have hj':j<d'.size:=by simpa using hj
 have h1:=ho i j (Nat.zero_le _) hij (by simpa [hsz] using hj')
 have h2:=List.pairwise_iff_getElem.1 hnd' i j hi hj hij
 rw [tZ,getElem!_pos d' j hj',getElem!_pos d' i hi'] at h1
 simp only [Array.getElem_toList] at h2 ⊢
 exact iS h1 (fun e=>h2 e.symm)
theorem yF {rows:List α} (hp:rows.Pairwise fun a b=>key a≠key b) {k:Nat} {x:α} (h:rows[k]? = some x) (s:ByteArray) :
 eA key (rows.take (k+1)) [] [] s=if s=key x then some x else eA key (rows.take k) [] [] s:=by
 unfold eA
 simp only [List.find?_nil,List.any_nil,Bool.false_eq_true,if_false]
 exact rI key hp h s
theorem vv {rows:List α} {gone:List ByteArray} {k:Nat} {q:ByteArray} (h:gone[k]? = some q) (s:ByteArray) :
 eA key rows (gone.take (k+1)) [] s=if s=q then none else eA key rows (gone.take k) [] s:=by
 have e:gone.take (k+1)=gone.take k ++ [q]:=by
  obtain⟨hlt,rfl⟩:=List.getElem?_eq_some_iff.1 h
  exact (List.take_append_getElem hlt).symm
 unfold eA
 rw [e]
 simp only [List.find?_nil,List.any_append,List.any_cons,List.any_nil,Bool.or_false]
 by_cases hs:s=q
 · subst hs; simp
 · rw [if_neg hs,decide_eq_false (fun e=>hs e.symm),Bool.or_false]
theorem yG {rows set:List α} {gone:List ByteArray} (hp:set.Pairwise fun a b=>key a≠key b) {k:Nat} {x:α} (h:set[k]? = some x) (s:ByteArray) :
 eA key rows gone (set.take (k+1)) s=if s=key x then some x else eA key rows gone (set.take k) s:=by
 unfold eA
 rw [rI key hp h s]
 by_cases hs:s=key x
 · rw [if_pos hs,if_pos hs]
 · rw [if_neg hs,if_neg hs]
theorem Cf {rows:List α} {gone:List ByteArray} (hg:gone.Pairwise fun a b=>a≠b) {k:Nat} {q:ByteArray} (h:gone[k]? = some q) :
 (eA key rows (gone.take k) [] q).isSome=rows.any fun r=>decide (key r=q):=by
 have hn:((gone.take k).any fun a=>decide (a=q))=false:=by
  rw [List.any_eq_false]
  intro a ha hd
  have e:a=q:=by simpa using hd
  obtain⟨hlt,rfl⟩:=List.getElem?_eq_some_iff.1 h
  obtain⟨i,hi,rfl⟩:=List.mem_iff_getElem.1 ha
  rw [List.length_take] at hi
  rw [List.getElem_take] at e
  exact List.pairwise_iff_getElem.1 hg i k (by omega) hlt (by omega) e
 unfold eA
 rw [hn]
 simp only [List.find?_nil,Bool.false_eq_true,if_false]
 exact qd _ rows
theorem pG {rows:List α} {gone:List ByteArray} {k:Nat} {q:ByteArray} (h:gone[k]? = some q) (h0:aW key rows (gone.take k)=false) (h1:(rows.any fun r=>decide (key r=q))=true) :
 aW key rows (gone.take (k+1))=false:=by
 have e:gone.take (k+1)=gone.take k ++ [q]:=by
  obtain⟨hlt,rfl⟩:=List.getElem?_eq_some_iff.1 h
  exact (List.take_append_getElem hlt).symm
 unfold aW at h0 ⊢
 rw [e,List.any_append,h0]
 simp [h1]
theorem qE {rows:List α} {gone:List ByteArray} {k:Nat} {q:ByteArray} (h:gone[k]? = some q) (h1:(rows.any fun r=>decide (key r=q))=false):aW key rows gone=true:=by
 unfold aW
 exact List.any_eq_true.2 ⟨q,List.mem_of_getElem? h,by simp [h1]⟩
theorem qF {rows:List α} {gone:List ByteArray} {k:Nat} (h0:aW key rows (gone.take k)=false) (hk:gone.length≤k):aW key rows gone=false:=by rwa [List.take_of_length_le hk] at h0
end
def kN {α:Type} (key:α→ByteArray) (g:ByteArray→Option α) (xs:List α):Prop:=(xs.Pairwise fun a b=>key a≠key b)∧∀ z,z ∈ xs↔g (key z)=some z
end Go.Proofs.YtcpgnjmaampglaaGreatDoor
