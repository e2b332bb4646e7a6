/- Of the proof of a statement: HasFL, HasF, Sum, Rq. -/
import Derived.Lib.QuietBelow
import Derived.Test.YtoeejfhdjmkpcaaGreatDoorTPlPlace
import Derived.Test.YtoeejfhdjmkpcaaGreatDoorTWri
set_option linter.unusedVariables false
set_option linter.unusedSimpArgs false
set_option maxRecDepth 100000
set_option maxHeartbeats 8000000
/- The walks of slices.IndexFunc and ContainsFunc at rows of records, for any function value that answers a predicate. -/
namespace Go.Proofs.YtoeejfhdjmkpcaaGreatDoor
open Go.Lib (hid)
open Go.RowKit
def jU {α:Type} (p:α→Bool) (F:FuncId) (caps:Array Value) (enc:α→List Value) (xs:List α) (w:World):Prop:=
 ∀ W,Below w.heap.size w W→∀ x ∈ xs,Calls Tryz.prog F (#[.agg (enc x).toArray] ++ caps) W fun e W'=>e = .returned (.bool (p x))∧Below W.heap.size W W'
def vU {α:Type} (p:α→Bool) (xs:List α) (n:Nat) (w:World) (i:Value) (wr:World):Prop:=∃ k:Nat,k≤n∧i = .int .i64 k∧(xs.take k).any p=false∧Below w.heap.size w wr
def rz {α:Type} (p:α→Bool) (xs:List α) (w:World) (e:Ending) (w':World):Prop:=
 ∃ i:Int,e = .returned (.int .i64 i)∧Below w.heap.size w w'∧((i = -1∧xs.any p=false)∨(0≤i∧xs.any p=true))
theorem og {α:Type} {p:α→Bool} {xs:List α} {k:Nat} {x:α} (h:xs[k]? = some x) (hp:p x=true):xs.any p=true:=List.any_eq_true.2 ⟨x,List.mem_of_getElem? h,hp⟩
theorem lW {α:Type} {p:α→Bool} {xs:List α} {k:Nat} {x:α} (h:xs[k]? = some x) (ht:(xs.take k).any p=false) (hp:p x=false):(xs.take (k+1)).any p=false:=by
 rw [List.take_add_one,h,List.any_append,ht]; simp [hp]
theorem oh {α:Type} {p:α→Bool} {xs:List α} {k:Nat} (ht:(xs.take k).any p=false) (hk:xs.length≤k):xs.any p=false:=by rwa [List.take_of_length_le hk] at ht
theorem Cm (p:ak→Bool) (F:FuncId) (caps:Array Value) (xs:List ak) (A:Option Addr) (n c:Nat) (w:World) (hent:∀ args w,(callFunc F args).run Tryz.prog w = .ok (.enter F args) w) (hx:aW w w.heap.size 3 A n (au av xs)) (hl:xs.length=n) (hn:n≤9223372036854775807) (hp:jU p F caps av xs w) :
 Calls Tryz.prog 343 #[.slice A n c,.func (.func F) #[] caps] w (rz p xs w):=by
 have Hl:=hid hl
 have Hp:=hid hp
 clear hl hp
 go_enter Tryz.func343,Tryz.ntmps343
 go_wp2
 go_loopw [4,5,8,16] (fun _ _ i _ wr=>vU p xs n w i wr) (fun _ _ i _ _=>n - (intOf i).toNat)
 case atStart=>exact⟨0,Nat.zero_le _,rfl,by simp,Below.refl _ _⟩
 case round=>
  obtain⟨k,hk,rfl,hnone,hb⟩:=hrel
  have cX:=hid hnone
  have Hb:=hid hb
  have hsz:=hb.size
  clear hnone
  by_cases hlt:k<n
  · obtain⟨x,hf⟩:∃ x,xs[k]? = some x:=⟨_,List.getElem?_eq_getElem (by rw [Hl.out]; exact hlt)⟩
    obtain⟨b,off,rfl,hbB,hc⟩:=(hx.below hb).cV aE Hl.out hf
    have Hf:=hid hf
    have hcon:=hid (Hp.out wr hb x (List.mem_of_getElem? hf))
    obtain⟨t,ht⟩:∃ t,p x=t:=⟨_,rfl⟩
    rw [ht] at hcon
    have Ht:=hid ht
    obtain⟨job,node,till⟩:=x
    obtain⟨c0,c1,c2⟩:=rc3 hc
    have hcon:=hid (show Calls Tryz.prog F (#[.agg #[.string job,.string node,.int .i64 till]] ++ caps) wr fun e W'=>e = .returned (.bool t)∧Below wr.heap.size wr W' from hcon.out)
    clear hc hf hx hb ht
    have hlb:b<wr.heap.size:=by omega
    go_wp2_with fail
    refine Calls.mono hcon.out ?_
    rintro e w2 ⟨rfl,hb2⟩
    have Hb2:=hid (Hb.out.trans (hb2.mono Hb.out.size))
    clear hcon hb2
    cases t
    · have fin:=hid (lW Hf.out cX.out Ht.out)
      go_wp2
      go_roundw
      case rel=>exact⟨k+1,by omega,by go_num,fin.out,Hb2.out⟩
      case measure=>simp [intOf]; omega
    · have fin:=hid (og Hf.out Ht.out)
      go_wp2
      go_ret
      exact⟨_,rfl,Hb2.out,.inr ⟨by omega,fin.out⟩⟩
  · have fin:=hid (oh cX.out (by rw [Hl.out]; omega))
    clear hx
    go_wp2
    go_ret
    exact⟨_,rfl,Hb.out,.inl ⟨rfl,fin.out⟩⟩
theorem Aq (p:ak→Bool) (F:FuncId) (caps:Array Value) (xs:List ak) (A:Option Addr) (n c:Nat) (w:World) (hent:∀ args w,(callFunc F args).run Tryz.prog w = .ok (.enter F args) w) (hx:aW w w.heap.size 3 A n (au av xs)) (hl:xs.length=n) (hn:n≤9223372036854775807) (hp:jU p F caps av xs w) :
 Calls Tryz.prog 253 #[.slice A n c,.func (.func F) #[] caps] w fun e w'=>e = .returned (.bool (xs.any p))∧Below w.heap.size w w':=by
 have hC:=hid (Cm p F caps xs A n c w hent hx hl hn hp)
 clear hx hl hn hp hent
 go_enter Tryz.func253,Tryz.ntmps253
 go_wp2_with fail
 refine Calls.mono hC.out ?_
 rintro e w2 ⟨i,rfl,hb2,hcase⟩
 rcases hcase with ⟨rfl,hn⟩ | ⟨hi,hn⟩
 · go_wp2
   go_ret
   exact⟨cT hn.symm,hb2⟩
 · have d0:decide (0≤i)=true:=decide_eq_true hi
   go_wp2
   go_ret
   exact⟨cT hn.symm,hb2⟩
end Go.Proofs.YtoeejfhdjmkpcaaGreatDoor
/- The walks of slices.IndexFunc and ContainsFunc at jobs and nodes, for any function value that answers a predicate. -/
namespace Go.Proofs.YtoeejfhdjmkpcaaGreatDoor
open Go.Lib (hid)
open Go.RowKit
theorem F1 (p:aD→Bool) (F:FuncId) (caps:Array Value) (xs:List aD) (A:Option Addr) (n c:Nat) (w:World) (hent:∀ args w,(callFunc F args).run Tryz.prog w = .ok (.enter F args) w) (hx:aW w w.heap.size 5 A n (au aL xs)) (hl:xs.length=n) (hn:n≤9223372036854775807) (hp:jU p F caps aL xs w) :
 Calls Tryz.prog 348 #[.slice A n c,.func (.func F) #[] caps] w (rz p xs w):=by
 have Hl:=hid hl
 have Hp:=hid hp
 clear hl hp
 go_enter Tryz.func348,Tryz.ntmps348
 go_wp2
 go_loopw [4,5,8,16] (fun _ _ i _ wr=>vU p xs n w i wr) (fun _ _ i _ _=>n - (intOf i).toNat)
 case atStart=>exact⟨0,Nat.zero_le _,rfl,by simp,Below.refl _ _⟩
 case round=>
  obtain⟨k,hk,rfl,hnone,hb⟩:=hrel
  have cX:=hid hnone
  have Hb:=hid hb
  have hsz:=hb.size
  clear hnone
  by_cases hlt:k<n
  · obtain⟨x,hf⟩:∃ x,xs[k]? = some x:=⟨_,List.getElem?_eq_getElem (by rw [Hl.out]; exact hlt)⟩
    obtain⟨b,off,rfl,hbB,hc⟩:=(hx.below hb).cV aT Hl.out hf
    have Hf:=hid hf
    have hcon:=hid (Hp.out wr hb x (List.mem_of_getElem? hf))
    obtain⟨t,ht⟩:∃ t,p x=t:=⟨_,rfl⟩
    rw [ht] at hcon
    have Ht:=hid ht
    obtain⟨name,prio,need,tries,tag⟩:=x
    obtain⟨c0,c1,c2,c3,c4⟩:=rc5 hc
    have hcon:=hid (show Calls Tryz.prog F (#[.agg #[.string name,.int .i64 prio,.int .i64 need,.int .i64 tries,.string tag]] ++ caps) wr fun e W'=>e = .returned (.bool t)∧Below wr.heap.size wr W' from hcon.out)
    clear hc hf hx hb ht
    have hlb:b<wr.heap.size:=by omega
    go_wp2_with fail
    refine Calls.mono hcon.out ?_
    rintro e w2 ⟨rfl,hb2⟩
    have Hb2:=hid (Hb.out.trans (hb2.mono Hb.out.size))
    clear hcon hb2
    cases t
    · have fin:=hid (lW Hf.out cX.out Ht.out)
      go_wp2
      go_roundw
      case rel=>exact⟨k+1,by omega,by go_num,fin.out,Hb2.out⟩
      case measure=>simp [intOf]; omega
    · have fin:=hid (og Hf.out Ht.out)
      go_wp2
      go_ret
      exact⟨_,rfl,Hb2.out,.inr ⟨by omega,fin.out⟩⟩
  · have fin:=hid (oh cX.out (by rw [Hl.out]; omega))
    clear hx
    go_wp2
    go_ret
    exact⟨_,rfl,Hb.out,.inl ⟨rfl,fin.out⟩⟩
theorem DO (p:aD→Bool) (F:FuncId) (caps:Array Value) (xs:List aD) (A:Option Addr) (n c:Nat) (w:World) (hent:∀ args w,(callFunc F args).run Tryz.prog w = .ok (.enter F args) w) (hx:aW w w.heap.size 5 A n (au aL xs)) (hl:xs.length=n) (hn:n≤9223372036854775807) (hp:jU p F caps aL xs w) :
 Calls Tryz.prog 247 #[.slice A n c,.func (.func F) #[] caps] w fun e w'=>e = .returned (.bool (xs.any p))∧Below w.heap.size w w':=by
 have hC:=hid (F1 p F caps xs A n c w hent hx hl hn hp)
 clear hx hl hn hp hent
 go_enter Tryz.func247,Tryz.ntmps247
 go_wp2_with fail
 refine Calls.mono hC.out ?_
 rintro e w2 ⟨i,rfl,hb2,hcase⟩
 rcases hcase with ⟨rfl,hn⟩ | ⟨hi,hn⟩
 · go_wp2
   go_ret
   exact⟨cT hn.symm,hb2⟩
 · have d0:decide (0≤i)=true:=decide_eq_true hi
   go_wp2
   go_ret
   exact⟨cT hn.symm,hb2⟩
theorem Ea (p:aA→Bool) (F:FuncId) (caps:Array Value) (xs:List aA) (A:Option Addr) (n c:Nat) (w:World) (hent:∀ args w,(callFunc F args).run Tryz.prog w = .ok (.enter F args) w) (hx:aW w w.heap.size 3 A n (au aC xs)) (hl:xs.length=n) (hn:n≤9223372036854775807) (hp:jU p F caps aC xs w) :
 Calls Tryz.prog 350 #[.slice A n c,.func (.func F) #[] caps] w (rz p xs w):=by
 have Hl:=hid hl
 have Hp:=hid hp
 clear hl hp
 go_enter Tryz.func350,Tryz.ntmps350
 go_wp2
 go_loopw [4,5,8,16] (fun _ _ i _ wr=>vU p xs n w i wr) (fun _ _ i _ _=>n - (intOf i).toNat)
 case atStart=>exact⟨0,Nat.zero_le _,rfl,by simp,Below.refl _ _⟩
 case round=>
  obtain⟨k,hk,rfl,hnone,hb⟩:=hrel
  have cX:=hid hnone
  have Hb:=hid hb
  have hsz:=hb.size
  clear hnone
  by_cases hlt:k<n
  · obtain⟨x,hf⟩:∃ x,xs[k]? = some x:=⟨_,List.getElem?_eq_getElem (by rw [Hl.out]; exact hlt)⟩
    obtain⟨b,off,rfl,hbB,hc⟩:=(hx.below hb).cV aM Hl.out hf
    have Hf:=hid hf
    have hcon:=hid (Hp.out wr hb x (List.mem_of_getElem? hf))
    obtain⟨t,ht⟩:∃ t,p x=t:=⟨_,rfl⟩
    rw [ht] at hcon
    have Ht:=hid ht
    obtain⟨name,room,zone⟩:=x
    obtain⟨c0,c1,c2⟩:=rc3 hc
    have hcon:=hid (show Calls Tryz.prog F (#[.agg #[.string name,.int .i64 room,.string zone]] ++ caps) wr fun e W'=>e = .returned (.bool t)∧Below wr.heap.size wr W' from hcon.out)
    clear hc hf hx hb ht
    have hlb:b<wr.heap.size:=by omega
    go_wp2_with fail
    refine Calls.mono hcon.out ?_
    rintro e w2 ⟨rfl,hb2⟩
    have Hb2:=hid (Hb.out.trans (hb2.mono Hb.out.size))
    clear hcon hb2
    cases t
    · have fin:=hid (lW Hf.out cX.out Ht.out)
      go_wp2
      go_roundw
      case rel=>exact⟨k+1,by omega,by go_num,fin.out,Hb2.out⟩
      case measure=>simp [intOf]; omega
    · have fin:=hid (og Hf.out Ht.out)
      go_wp2
      go_ret
      exact⟨_,rfl,Hb2.out,.inr ⟨by omega,fin.out⟩⟩
  · have fin:=hid (oh cX.out (by rw [Hl.out]; omega))
    clear hx
    go_wp2
    go_ret
    exact⟨_,rfl,Hb.out,.inl ⟨rfl,fin.out⟩⟩
theorem B6 (p:aA→Bool) (F:FuncId) (caps:Array Value) (xs:List aA) (A:Option Addr) (n c:Nat) (w:World) (hent:∀ args w,(callFunc F args).run Tryz.prog w = .ok (.enter F args) w) (hx:aW w w.heap.size 3 A n (au aC xs)) (hl:xs.length=n) (hn:n≤9223372036854775807) (hp:jU p F caps aC xs w) :
 Calls Tryz.prog 250 #[.slice A n c,.func (.func F) #[] caps] w fun e w'=>e = .returned (.bool (xs.any p))∧Below w.heap.size w w':=by
 have hC:=hid (Ea p F caps xs A n c w hent hx hl hn hp)
 clear hx hl hn hp hent
 go_enter Tryz.func250,Tryz.ntmps250
 go_wp2_with fail
 refine Calls.mono hC.out ?_
 rintro e w2 ⟨i,rfl,hb2,hcase⟩
 rcases hcase with ⟨rfl,hn⟩ | ⟨hi,hn⟩
 · go_wp2
   go_ret
   exact⟨cT hn.symm,hb2⟩
 · have d0:decide (0≤i)=true:=decide_eq_true hi
   go_wp2
   go_ret
   exact⟨cT hn.symm,hb2⟩
end Go.Proofs.YtoeejfhdjmkpcaaGreatDoor
/- The walks of Sum, in the program and in the reference. -/
namespace Go.Proofs.YtoeejfhdjmkpcaaGreatDoor
open Go.Lib (hid)
open Go.RowKit
def AG:Array Value:=Array.replicate 256 (.int .u32 0)
theorem BD (w:World):(zeroValue 361).run Tryz.prog w = .ok (.agg AG) w:=by kernel_rfl
def rV (cs:Array Value) (k:Nat):Prop:=cs.size=256∧(∀ j,j<k→cs[j]? = some (.int .u32 ((lF 8 j:Nat):Int)))∧cs.all (·.oneCell')=true
theorem rV.zero:rV AG 0:=⟨by simp [AG],fun j h=>absurd h (by omega),by decide +kernel⟩
theorem rV.step {cs:Array Value} {k:Nat} (h:rV cs k) (hk:k<256):rV (cs.setIfInBounds k (.int .u32 ((lF 8 k:Nat):Int))) (k+1):=by
 refine⟨by simpa using h.1,fun j hj=>?_,?_⟩
 · rw [Array.getElem?_setIfInBounds]
   have:=h.1
   by_cases e:k=j
   · subst e; rw [if_pos rfl,if_pos (by omega)]
   · rw [if_neg e]; exact h.2.1 j (by omega)
 · have:=h.2.2
   rw [Array.all_eq_true_iff_forall_mem] at this ⊢
   intro x hx
   rcases Array.mem_or_eq_of_mem_setIfInBounds hx with h' | h'
   · exact this x h'
   · subst h'; rfl
def F4 (w:World) (i:Value) (wr:World):Prop:=∃ (k:Nat) (cs:Array Value),k≤256∧i = .int .i64 k∧rV cs k∧wr=w.alloc (.cells cs 361)
theorem below_setRow (w:World) (g:Nat) (cs:Array Value):Below g w (w.setRow g cs):=by
 refine⟨rfl,rfl,rfl,by simp [World.setRow],fun k hk=>?_⟩
 simp only [World.setRow,Array.getElem?_modify]
 rw [if_neg (by omega)]
theorem Eb (w:World):Calls Tryz.prog 255 #[] w fun e w'=>∃ cs,rV cs 256∧e = .returned (.agg cs)∧Below w.heap.size w w':=by
 have hz:=BD
 go_enter Tryz.func255,Tryz.ntmps255
 go_wp2
 go_loopw [1,2,3,4,9] (fun _ _ _ i _ wr=>F4 w i wr) (fun _ _ _ i _ _=>256 - (intOf i).toNat)
 case atStart=>exact⟨0,AG,by omega,rfl,rV.zero,rfl⟩
 case round=>
  obtain⟨k,cs,hk,rfl,ht,rfl⟩:=hrel
  have Ht:=hid ht
  clear ht
  by_cases hlt:k<256
  · go_wp2
    go_loop [2,3,9] (fun x _ i=>∃ (m:Nat),m≤8∧i = .int .i64 m∧x = .int .u32 ((lF m k:Nat):Int)) (fun _ _ i=>8 - (intOf i).toNat)
    case atStart=>exact⟨0,by omega,rfl,rfl⟩
    case round=>
     obtain⟨m,hm,rfl,rfl⟩:=hrel
     have hlt2:=sN (x:=k) (by omega) m
     have hst:=vv (lF m k) hlt2
     have hb1:=hst.2.1
     have hb2:=hst.2.2
     have Hst:=hid hst.1
     clear hst
     by_cases hm8:m<8
     · go_wp2
       go_round
       case rel=>exact⟨m+1,by omega,by go_num,by rw [Hst.out]; rfl⟩
       case measure=>simp [intOf]; omega
     · obtain rfl:m=8:=by omega
       obtain⟨cv,hcv⟩:∃ v,cs[k]? = some v:=⟨_,Array.getElem?_eq_getElem (by rw [Ht.out.1]; exact hlt)⟩
       go_wp2
       go_roundw
       case rel=>exact⟨k+1,_,by omega,by go_num,Ht.out.step hlt,rfl⟩
       case measure=>simp [intOf]; omega
  · obtain rfl:k=256:=by omega
    have hg:=heap_alloc_new w (.cells cs 361)
    have hi:(Tryz.prog.info? 361).map (·.size)=some cs.size:=by rw [Ht.out.1]; kernel_rfl
    have HG:=hid hg
    have HI:=hid hi
    clear hg hi
    go_wp2_with (first | (refine wpList_load_row rfl _ _ rfl w.heap.size rfl 361 cs (0,0) _ HG.out Tryz.underlying361 rfl HI.out ?_) | (refine wpList_store_row rfl _ _ _ rfl w.heap.size cs rfl rfl 361 cs HG.out HI.out rfl Ht.out.2.2 ?_))
    have e1:((w.alloc (.cells cs 361)).setRow w.heap.size cs).heap[w.heap.size]? = some (.cells cs 361 (0,0)):=setRow_heap _ _ _ _ _ _ HG.out
    refine bodyPost_ret (results_cell_row rfl _ _ w.heap.size _ cs (0,0) _ rfl e1 Tryz.underlying361 rfl HI.out) rfl ⟨cs,Ht.out,rfl,?_⟩
    exact (Below.refl _ _).alloc (Nat.le_refl _) _ |>.trans (below_setRow _ _ _)
theorem AH (w:World) (c c':Array Value) (t:TypeId):(w.alloc (.cells c t)).setRow w.heap.size c'=w.alloc (.cells c' t):=by
 have hm:∀ (a:Array Obj) (x:Obj) (f:Obj→Obj),(a.push x).modify a.size f=a.push (f x):=by
  intro a x f
  apply Array.ext
  · simp
  · intro i h1 h2
    simp only [Array.getElem_modify,Array.getElem_push]
    by_cases h:a.size=i
    · subst h
      simp
    · have hi:i<a.size:=by simp at h1; omega
      simp [h,hi]
 unfold World.setRow
 show ({ w.alloc (.cells c t) with heap:=(w.heap.push (.cells c t)).modify w.heap.size _ }:World)=_
 rw [hm]
 rfl
def Is (s:ByteArray) (x i:Value):Prop:=∃ (k n:Nat),k≤s.size∧i = .int .i64 k∧x = .int .u32 n∧n=ze (s.data.toList.take k)
theorem F5 (s:ByteArray) (w:World) (hs:s.size≤9223372036854775807):Calls Tryz.prog 152 #[.string s] w fun e w'=>e = .returned (.int .u32 ((iW s.data.toList:Nat):Int))∧Below w.heap.size w w':=by
 have hz:=BD
 go_enter Tryz.func152,Tryz.ntmps152
 go_wp2_with fail
 refine Calls.mono (Eb w) ?_
 rintro e w1 ⟨cs,ht,rfl,hb⟩
 have Ht:=hid ht
 have hg:=heap_alloc_new w1 (.cells AG 361)
 have hi:(Tryz.prog.info? 361).map (·.size)=some cs.size:=by rw [Ht.out.1]; kernel_rfl
 have HG:=hid hg
 have HI:=hid hi
 have hb2:Below w.heap.size w (w1.alloc (.cells cs 361)):=hb.alloc hb.size _
 have Hb:=hid hb2
 clear hg hi ht hb2 hb
 go_wp2_with (refine wpList_store_row rfl _ _ _ rfl w1.heap.size cs rfl rfl 361 AG HG.out HI.out (by rw [Ht.out.1]; simp [AG]) Ht.out.2.2 ?_; rw [AH])
 go_loop [4,5,9] (fun x _ i=>Is s x i) (fun _ _ i=>s.size - (intOf i).toNat)
 case atStart=>exact⟨0,_,by omega,rfl,rfl,rfl⟩
 case round=>
  obtain⟨k,x,hk,rfl,rfl,hx⟩:=hrel
  have hlt:x<4294967296:=by rw [hx]; exact F6 _
  have Hx:=hid hx
  clear hx
  by_cases hsz:k<s.size
  · obtain⟨c,hc⟩:∃ c:Nat,s[k].toNat=c:=⟨_,rfl⟩
    have hc2:c<256:=by rw [← hc]; exact s[k].toNat_lt
    have Hi:=pY hsz hc
    have hix:=F7 x c hc2
    have aV:=hid (show x / 256 ^^^ lF 8 (x % 256 ^^^ c)=ze (s.data.toList.take (k+1)) from by rw [rA hsz,Cn,← Hx.out,hc]; rfl)
    clear hc
    generalize hy:(x % 256) ^^^ c=y at hix aV
    clear hy
    have hcs:=Ht.out.2.1 y hix.2
    have hy2:=hix.2
    have hix1:=hix.1
    have hst:=xg x y hlt hy2
    clear hix
    go_wp2
    go_round
    case rel=>exact⟨k+1,_,by omega,by go_num,rfl,aV.out⟩
    case measure=>simp [intOf]; omega
  · have hn:=hid (F8 x hlt)
    have hfin:=hid (show 4294967295 - x=iW s.data.toList from by
     unfold iW; rw [Hx.out,List.take_of_length_le (by simp; omega)])
    go_wp2
    go_ret
    exact⟨bg (by rw [hn.out,hfin.out]),Hb.out⟩
end Go.Proofs.YtoeejfhdjmkpcaaGreatDoor
/- Replies: what both sides write. -/
namespace Go.Proofs.YtoeejfhdjmkpcaaGreatDoor
open Go.Lib (hid)
open Go.RowKit
def kX (c r:Int):Bool:=ranged c 0 10 && ranged r 0 1099511627776
def pq (c r:Int):List UInt8:=bI c.toNat ++ bI r.toNat
def iX (c r:Int):ByteArray × Int:=if kX c r=true then (⟨(pq c r).toArray⟩,0) else (⟨#[]⟩,1)
theorem Co {c r:Int} (h:kX c r=false):iX c r=(⟨#[]⟩,1):=by unfold iX; rw [if_neg (by rw [h]; decide)]
theorem AI {c r:Int} (h:kX c r=true):iX c r=(⟨(pq c r).toArray⟩,0):=by unfold iX; rw [if_pos h]
theorem zf {c r:Int}:kX c r=true↔(0≤c∧c≤10)∧(0≤r∧r≤1099511627776):=by unfold kX; rw [Bool.and_eq_true,bB,bB]
theorem zh (n:Int) (w:World):Calls Tryz.prog 420 #[.int .i64 n] w fun e w'=>e = .returned (.bool (ranged n 0 1099511627776))∧w=w':=by
 cases h:ranged n 0 1099511627776
 · have h':=gK.1 h
   by_cases h1:n<0
   · have d1:decide (0≤n)=false:=decide_eq_false (by omega)
     clear h h'
     go_enter Tryz.func420,Tryz.ntmps420
     go_wp2
     go_ret
     exact⟨rfl,rfl⟩
   · have d1:decide (0≤n)=true:=decide_eq_true (by omega)
     have d2:decide (n≤1099511627776)=false:=decide_eq_false (by omega)
     clear h h'
     go_enter Tryz.func420,Tryz.ntmps420
     go_wp2
     go_ret
     exact⟨rfl,rfl⟩
 · have h':=bB.1 h
   have d1:decide (0≤n)=true:=decide_eq_true h'.1
   have d2:decide (n≤1099511627776)=true:=decide_eq_true h'.2
   clear h h'
   go_enter Tryz.func420,Tryz.ntmps420
   go_wp2
   go_ret
   exact⟨rfl,rfl⟩
theorem rW (c r:Int) (w:World):Calls Tryz.prog 371 #[.agg #[.int .i64 c,.int .i64 r]] w fun e w'=>e = .returned (.bool (kX c r))∧Below w.heap.size w w':=by
 have hb:=(Below.refl w.heap.size w).alloc (Nat.le_refl _) (.cells #[.int .i64 c,.int .i64 r] 42)
 have Hb:=hid hb
 clear hb
 unfold kX
 cases h:ranged c 0 10
 · have h':=gK.1 h
   by_cases h1:c<0
   · have d1:decide (0≤c)=false:=decide_eq_false (by omega)
     clear h h'
     go_enter Tryz.func371,Tryz.ntmps371
     go_wp2
     go_ret
     exact⟨rfl,Hb.out⟩
   · have d1:decide (0≤c)=true:=decide_eq_true (by omega)
     have d2:decide (c≤10)=false:=decide_eq_false (by omega)
     clear h h'
     go_enter Tryz.func371,Tryz.ntmps371
     go_wp2
     go_ret
     exact⟨rfl,Hb.out⟩
 · have h':=bB.1 h
   have d1:decide (0≤c)=true:=decide_eq_true h'.1
   have d2:decide (c≤10)=true:=decide_eq_true h'.2
   clear h h'
   go_enter Tryz.func371,Tryz.ntmps371
   go_wp2_with fail
   refine Calls.mono (zh r _) ?_
   rintro e w1 ⟨rfl,rfl⟩
   go_wp2
   go_ret
   exact⟨rfl,Hb.out⟩
def Ec (c r:Int) (w:World) (e:Ending) (w':World):Prop:=e = .returned (.tuple #[.string (iX c r).1,.int .i64 (iX c r).2])∧Below w.heap.size w w'
theorem Cp (c r:Int) (w:World):Calls Tryz.prog 286 #[.agg #[.int .i64 c,.int .i64 r]] w (Ec c r w):=by
 have hb:=(Below.refl w.heap.size w).alloc (Nat.le_refl _) (.cells #[.int .i64 c,.int .i64 r] 42)
 have hB:Blk (w.alloc (.cells #[.int .i64 c,.int .i64 r] 42)) w.heap.size 42 #[.int .i64 c,.int .i64 r]:=heap_alloc_new w _
 have Hb:=hid hb
 have HB:=hid hB
 clear hb hB
 unfold Ec
 cases h:kX c r
 · rw [Co h]
   have Hok:=hid h
   clear h
   go_enter Tryz.func286,Tryz.ntmps286
   go_wp2_with fail
   refine Calls.mono (rW c r _) ?_
   rintro e w1 ⟨rfl,hb1⟩
   rw [Hok.out]
   go_wp2
   exact bodyPost_ret (v:=.tuple #[.string ⟨#[]⟩,.int .i64 1]) (by simp [results,Tryz.results286,go_sem]) rfl ⟨rfl,Hb.out.trans (hb1.mono Hb.out.size)⟩
 · rw [AI h]
   have hr:=zf.1 h
   have Hok:=hid h
   clear h
   go_enter Tryz.func286,Tryz.ntmps286
   go_wp2_with fail
   refine Calls.mono (rW c r _) ?_
   rintro e w1 ⟨rfl,hb1⟩
   rw [Hok.out]
   have HB1:=hid (HB.out.below hb1 HB.out.lt)
   have Hb1:=hid (Hb.out.trans (hb1.mono Hb.out.size))
   have hbl:=HB1.out.lt
   clear hb1 HB Hb
   have hA:=(Below.refl w1.heap.size w1).alloc (Nat.le_refl _) (.cells #[.slice none 0 0] 131)
   have hW:nA (w1.alloc (.cells #[.slice none 0 0] 131)) w1.heap.size w1.heap.size []:=⟨Nat.le_refl _,none,0,0,heap_alloc_new w1 _,World.ownsRow_nil _ _ _ _⟩
   have HC:=hid (uq w1.heap.size w1.heap.size [] c _ hr.1.1 (by omega) hW (by simp))
   have HB2:=hid (HB1.out.below hA hbl)
   have HA:=hid hA
   have c0:w1.cell? ⟨w.heap.size,0,none⟩=some (.int .i64 c):=HB1.out.cell 0
   clear hA hW
   go_wp2_with fail
   refine Calls.mono HC.out ?_
   rintro e w2 ⟨rfl,hw2,hk2⟩
   have hsz:=HA.out.size
   have hk3:=hk2.below (Nat.le_refl _) hsz
   have hB3:Blk w2 w.heap.size 42 #[.int .i64 c,.int .i64 r]:=(hk3.block w.heap.size hbl).trans HB2.out
   have c1:w2.cell? ⟨w.heap.size,1,none⟩=some (.int .i64 r):=hB3.cell 1
   have HC2:=hid (uq w1.heap.size w1.heap.size _ r w2 hr.2.1 (by omega) hw2 (by have:=dB c.toNat; simp; omega))
   have HK:=hid (Hb1.out.trans ((HA.out.trans hk3).mono Hb1.out.size))
   have hs2:=Nat.le_trans hsz hk3.size
   clear hw2 hk2 hk3 hB3 HC HB2 HA hsz c0
   go_wp2_with fail
   refine Calls.mono HC2.out ?_
   rintro e w3 ⟨rfl,hw3,hk3⟩
   have HK3:=hid (HK.out.trans ((hk3.below (Nat.le_refl _) hs2).mono Hb1.out.size))
   rw [show [] ++ bI c.toNat ++ bI r.toNat=pq c r by simp [pq]] at hw3
   obtain⟨_,AA,m,cc,hBW,ho⟩:=hw3
   have z0:w3.cell? ⟨w1.heap.size,0,none⟩=some (.slice AA m cc):=hBW.cell 0
   have hrun:=gJ Tryz.underlying129 Tryz.underlying5 Tryz.underlying9 ho
   clear hk3 hBW ho HC2 HK c1
   go_wp2
   exact bodyPost_ret (v:=.tuple #[.string ⟨(pq c r).toArray⟩,.int .i64 0]) (by simp [results,Tryz.results286,go_sem]) rfl ⟨rfl,HK3.out⟩
end Go.Proofs.YtoeejfhdjmkpcaaGreatDoor
