/- Of the proof of a statement: HasFL, HasF, Has, WPut. -/
import Derived.Test.YtoeejfhdjmkpcaaGreatDoorUEqRows
import Derived.Test.YtoeejfhdjmkpcaaGreatDoorUWJob
set_option linter.unusedVariables false
set_option linter.unusedSimpArgs false
set_option maxRecDepth 100000
set_option maxHeartbeats 8000000
/- The walks of slices.IndexFunc and ContainsFunc at rows of records, for any function value that answers a predicate. -/
namespace Go.Proofs.YtoeejfhdjmkpcaaGreatDoor
open Go.Lib (hid)
open Go.RowKit
def lE {α:Type} (p:α→Bool) (F:FuncId) (caps:Array Value) (enc:α→List Value) (xs:List α) (w:World):Prop:=
 ∀ W,Below w.heap.size w W→∀ x ∈ xs,Calls Tryz.prog F (#[.agg (enc x).toArray] ++ caps) W fun e W'=>e = .returned (.bool (p x))∧Below W.heap.size W W'
def zJ {α:Type} (p:α→Bool) (xs:List α) (n:Nat) (w:World) (i:Value) (wr:World):Prop:=∃ k:Nat,k≤n∧i = .int .i64 k∧(xs.take k).any p=false∧Below w.heap.size w wr
def uR {α:Type} (p:α→Bool) (xs:List α) (w:World) (e:Ending) (w':World):Prop:=
 ∃ i:Int,e = .returned (.int .i64 i)∧Below w.heap.size w w'∧((i = -1∧xs.any p=false)∨(0≤i∧xs.any p=true))
theorem qz {α:Type} {p:α→Bool} {xs:List α} {k:Nat} {x:α} (h:xs[k]? = some x) (hp:p x=true):xs.any p=true:=List.any_eq_true.2 ⟨x,List.mem_of_getElem? h,hp⟩
theorem nJ {α:Type} {p:α→Bool} {xs:List α} {k:Nat} {x:α} (h:xs[k]? = some x) (ht:(xs.take k).any p=false) (hp:p x=false):(xs.take (k+1)).any p=false:=by
 rw [List.take_add_one,h,List.any_append,ht]; simp [hp]
theorem qA {α:Type} {p:α→Bool} {xs:List α} {k:Nat} (ht:(xs.take k).any p=false) (hk:xs.length≤k):xs.any p=false:=by rwa [List.take_of_length_le hk] at ht
theorem FA (p:ah→Bool) (F:FuncId) (caps:Array Value) (xs:List ah) (A:Option Addr) (n c:Nat) (w:World) (hent:∀ args w,(callFunc F args).run Tryz.prog w = .ok (.enter F args) w) (hx:aQ w w.heap.size 3 A n (au ay xs)) (hl:xs.length=n) (hn:n≤9223372036854775807) (hp:lE p F caps ay xs w) :
 Calls Tryz.prog 343 #[.slice A n c,.func (.func F) #[] caps] w (uR p xs w):=by
 have Hl:=hid hl
 have Hp:=hid hp
 clear hl hp
 go_enter Tryz.func343,Tryz.ntmps343
 go_wp2
 go_loopw [4,5,8,16] (fun _ _ i _ wr=>zJ p xs n w i wr) (fun _ _ i _ _=>n - (intOf i).toNat)
 case atStart=>exact⟨0,Nat.zero_le _,rfl,by simp,Below.refl _ _⟩
 case round=>
  obtain⟨k,hk,rfl,hnone,hb⟩:=hrel
  have cK:=hid hnone
  have Hb:=hid hb
  have hsz:=hb.size
  clear hnone
  by_cases hlt:k<n
  · obtain⟨x,hf⟩:∃ x,xs[k]? = some x:=⟨_,List.getElem?_eq_getElem (by rw [Hl.out]; exact hlt)⟩
    obtain⟨b,off,rfl,hbB,hc⟩:=(hx.below hb).cR aH Hl.out hf
    have Hf:=hid hf
    have hcon:=hid (Hp.out wr hb x (List.mem_of_getElem? hf))
    obtain⟨t,ht⟩:∃ t,p x=t:=⟨_,rfl⟩
    rw [ht] at hcon
    have Ht:=hid ht
    obtain⟨job,node,till⟩:=x
    obtain⟨c0,c1,c2⟩:=rc3 hc
    have hcon:=hid (show Calls Tryz.prog F (#[.agg #[.string job,.string node,.int .i64 till]] ++ caps) wr fun e W'=>e = .returned (.bool t)∧Below wr.heap.size wr W' from hcon.out)
    clear hc hf hx hb ht
    have hlb:b<wr.heap.size:=by omega
    go_wp2_with fail
    refine Calls.mono hcon.out ?_
    rintro e w2 ⟨rfl,hb2⟩
    have Hb2:=hid (Hb.out.trans (hb2.mono Hb.out.size))
    clear hcon hb2
    cases t
    · have fin:=hid (nJ Hf.out cK.out Ht.out)
      go_wp2
      go_roundw
      case rel=>exact⟨k+1,by omega,by go_num,fin.out,Hb2.out⟩
      case measure=>simp [intOf]; omega
    · have fin:=hid (qz Hf.out Ht.out)
      go_wp2
      go_ret
      exact⟨_,rfl,Hb2.out,.inr ⟨by omega,fin.out⟩⟩
  · have fin:=hid (qA cK.out (by rw [Hl.out]; omega))
    clear hx
    go_wp2
    go_ret
    exact⟨_,rfl,Hb.out,.inl ⟨rfl,fin.out⟩⟩
theorem C4 (p:ah→Bool) (F:FuncId) (caps:Array Value) (xs:List ah) (A:Option Addr) (n c:Nat) (w:World) (hent:∀ args w,(callFunc F args).run Tryz.prog w = .ok (.enter F args) w) (hx:aQ w w.heap.size 3 A n (au ay xs)) (hl:xs.length=n) (hn:n≤9223372036854775807) (hp:lE p F caps ay xs w) :
 Calls Tryz.prog 253 #[.slice A n c,.func (.func F) #[] caps] w fun e w'=>e = .returned (.bool (xs.any p))∧Below w.heap.size w w':=by
 have hC:=hid (FA p F caps xs A n c w hent hx hl hn hp)
 clear hx hl hn hp hent
 go_enter Tryz.func253,Tryz.ntmps253
 go_wp2_with fail
 refine Calls.mono hC.out ?_
 rintro e w2 ⟨i,rfl,hb2,hcase⟩
 rcases hcase with ⟨rfl,hn⟩ | ⟨hi,hn⟩
 · go_wp2
   go_ret
   exact⟨dD hn.symm,hb2⟩
 · have d0:decide (0≤i)=true:=decide_eq_true hi
   go_wp2
   go_ret
   exact⟨dD hn.symm,hb2⟩
end Go.Proofs.YtoeejfhdjmkpcaaGreatDoor
/- The walks of slices.IndexFunc and ContainsFunc at jobs and nodes, for any function value that answers a predicate. -/
namespace Go.Proofs.YtoeejfhdjmkpcaaGreatDoor
open Go.Lib (hid)
open Go.RowKit
theorem Ke (p:aA→Bool) (F:FuncId) (caps:Array Value) (xs:List aA) (A:Option Addr) (n c:Nat) (w:World) (hent:∀ args w,(callFunc F args).run Tryz.prog w = .ok (.enter F args) w) (hx:aQ w w.heap.size 5 A n (au aJ xs)) (hl:xs.length=n) (hn:n≤9223372036854775807) (hp:lE p F caps aJ xs w) :
 Calls Tryz.prog 348 #[.slice A n c,.func (.func F) #[] caps] w (uR p xs w):=by
 have Hl:=hid hl
 have Hp:=hid hp
 clear hl hp
 go_enter Tryz.func348,Tryz.ntmps348
 go_wp2
 go_loopw [4,5,8,16] (fun _ _ i _ wr=>zJ p xs n w i wr) (fun _ _ i _ _=>n - (intOf i).toNat)
 case atStart=>exact⟨0,Nat.zero_le _,rfl,by simp,Below.refl _ _⟩
 case round=>
  obtain⟨k,hk,rfl,hnone,hb⟩:=hrel
  have cK:=hid hnone
  have Hb:=hid hb
  have hsz:=hb.size
  clear hnone
  by_cases hlt:k<n
  · obtain⟨x,hf⟩:∃ x,xs[k]? = some x:=⟨_,List.getElem?_eq_getElem (by rw [Hl.out]; exact hlt)⟩
    obtain⟨b,off,rfl,hbB,hc⟩:=(hx.below hb).cR aP Hl.out hf
    have Hf:=hid hf
    have hcon:=hid (Hp.out wr hb x (List.mem_of_getElem? hf))
    obtain⟨t,ht⟩:∃ t,p x=t:=⟨_,rfl⟩
    rw [ht] at hcon
    have Ht:=hid ht
    obtain⟨name,prio,need,tries,tag⟩:=x
    obtain⟨c0,c1,c2,c3,c4⟩:=rc5 hc
    have hcon:=hid (show Calls Tryz.prog F (#[.agg #[.string name,.int .i64 prio,.int .i64 need,.int .i64 tries,.string tag]] ++ caps) wr fun e W'=>e = .returned (.bool t)∧Below wr.heap.size wr W' from hcon.out)
    clear hc hf hx hb ht
    have hlb:b<wr.heap.size:=by omega
    go_wp2_with fail
    refine Calls.mono hcon.out ?_
    rintro e w2 ⟨rfl,hb2⟩
    have Hb2:=hid (Hb.out.trans (hb2.mono Hb.out.size))
    clear hcon hb2
    cases t
    · have fin:=hid (nJ Hf.out cK.out Ht.out)
      go_wp2
      go_roundw
      case rel=>exact⟨k+1,by omega,by go_num,fin.out,Hb2.out⟩
      case measure=>simp [intOf]; omega
    · have fin:=hid (qz Hf.out Ht.out)
      go_wp2
      go_ret
      exact⟨_,rfl,Hb2.out,.inr ⟨by omega,fin.out⟩⟩
  · have fin:=hid (qA cK.out (by rw [Hl.out]; omega))
    clear hx
    go_wp2
    go_ret
    exact⟨_,rfl,Hb.out,.inl ⟨rfl,fin.out⟩⟩
theorem G8 (p:aA→Bool) (F:FuncId) (caps:Array Value) (xs:List aA) (A:Option Addr) (n c:Nat) (w:World) (hent:∀ args w,(callFunc F args).run Tryz.prog w = .ok (.enter F args) w) (hx:aQ w w.heap.size 5 A n (au aJ xs)) (hl:xs.length=n) (hn:n≤9223372036854775807) (hp:lE p F caps aJ xs w) :
 Calls Tryz.prog 247 #[.slice A n c,.func (.func F) #[] caps] w fun e w'=>e = .returned (.bool (xs.any p))∧Below w.heap.size w w':=by
 have hC:=hid (Ke p F caps xs A n c w hent hx hl hn hp)
 clear hx hl hn hp hent
 go_enter Tryz.func247,Tryz.ntmps247
 go_wp2_with fail
 refine Calls.mono hC.out ?_
 rintro e w2 ⟨i,rfl,hb2,hcase⟩
 rcases hcase with ⟨rfl,hn⟩ | ⟨hi,hn⟩
 · go_wp2
   go_ret
   exact⟨dD hn.symm,hb2⟩
 · have d0:decide (0≤i)=true:=decide_eq_true hi
   go_wp2
   go_ret
   exact⟨dD hn.symm,hb2⟩
theorem Iq (p:av→Bool) (F:FuncId) (caps:Array Value) (xs:List av) (A:Option Addr) (n c:Nat) (w:World) (hent:∀ args w,(callFunc F args).run Tryz.prog w = .ok (.enter F args) w) (hx:aQ w w.heap.size 3 A n (au aB xs)) (hl:xs.length=n) (hn:n≤9223372036854775807) (hp:lE p F caps aB xs w) :
 Calls Tryz.prog 350 #[.slice A n c,.func (.func F) #[] caps] w (uR p xs w):=by
 have Hl:=hid hl
 have Hp:=hid hp
 clear hl hp
 go_enter Tryz.func350,Tryz.ntmps350
 go_wp2
 go_loopw [4,5,8,16] (fun _ _ i _ wr=>zJ p xs n w i wr) (fun _ _ i _ _=>n - (intOf i).toNat)
 case atStart=>exact⟨0,Nat.zero_le _,rfl,by simp,Below.refl _ _⟩
 case round=>
  obtain⟨k,hk,rfl,hnone,hb⟩:=hrel
  have cK:=hid hnone
  have Hb:=hid hb
  have hsz:=hb.size
  clear hnone
  by_cases hlt:k<n
  · obtain⟨x,hf⟩:∃ x,xs[k]? = some x:=⟨_,List.getElem?_eq_getElem (by rw [Hl.out]; exact hlt)⟩
    obtain⟨b,off,rfl,hbB,hc⟩:=(hx.below hb).cR aL Hl.out hf
    have Hf:=hid hf
    have hcon:=hid (Hp.out wr hb x (List.mem_of_getElem? hf))
    obtain⟨t,ht⟩:∃ t,p x=t:=⟨_,rfl⟩
    rw [ht] at hcon
    have Ht:=hid ht
    obtain⟨name,room,zone⟩:=x
    obtain⟨c0,c1,c2⟩:=rc3 hc
    have hcon:=hid (show Calls Tryz.prog F (#[.agg #[.string name,.int .i64 room,.string zone]] ++ caps) wr fun e W'=>e = .returned (.bool t)∧Below wr.heap.size wr W' from hcon.out)
    clear hc hf hx hb ht
    have hlb:b<wr.heap.size:=by omega
    go_wp2_with fail
    refine Calls.mono hcon.out ?_
    rintro e w2 ⟨rfl,hb2⟩
    have Hb2:=hid (Hb.out.trans (hb2.mono Hb.out.size))
    clear hcon hb2
    cases t
    · have fin:=hid (nJ Hf.out cK.out Ht.out)
      go_wp2
      go_roundw
      case rel=>exact⟨k+1,by omega,by go_num,fin.out,Hb2.out⟩
      case measure=>simp [intOf]; omega
    · have fin:=hid (qz Hf.out Ht.out)
      go_wp2
      go_ret
      exact⟨_,rfl,Hb2.out,.inr ⟨by omega,fin.out⟩⟩
  · have fin:=hid (qA cK.out (by rw [Hl.out]; omega))
    clear hx
    go_wp2
    go_ret
    exact⟨_,rfl,Hb.out,.inl ⟨rfl,fin.out⟩⟩
theorem Fk (p:av→Bool) (F:FuncId) (caps:Array Value) (xs:List av) (A:Option Addr) (n c:Nat) (w:World) (hent:∀ args w,(callFunc F args).run Tryz.prog w = .ok (.enter F args) w) (hx:aQ w w.heap.size 3 A n (au aB xs)) (hl:xs.length=n) (hn:n≤9223372036854775807) (hp:lE p F caps aB xs w) :
 Calls Tryz.prog 250 #[.slice A n c,.func (.func F) #[] caps] w fun e w'=>e = .returned (.bool (xs.any p))∧Below w.heap.size w w':=by
 have hC:=hid (Iq p F caps xs A n c w hent hx hl hn hp)
 clear hx hl hn hp hent
 go_enter Tryz.func250,Tryz.ntmps250
 go_wp2_with fail
 refine Calls.mono hC.out ?_
 rintro e w2 ⟨i,rfl,hb2,hcase⟩
 rcases hcase with ⟨rfl,hn⟩ | ⟨hi,hn⟩
 · go_wp2
   go_ret
   exact⟨dD hn.symm,hb2⟩
 · have d0:decide (0≤i)=true:=decide_eq_true hi
   go_wp2
   go_ret
   exact⟨dD hn.symm,hb2⟩
end Go.Proofs.YtoeejfhdjmkpcaaGreatDoor
/- The walks of slices.Index and Contains and of the reference's Has at rows of records. -/
namespace Go.Proofs.YtoeejfhdjmkpcaaGreatDoor
open Go.Lib (hid)
open Go.RowKit
noncomputable def eqB {α:Type} (x y:α):Bool:=@decide (x=y) (Classical.propDecidable _)
theorem Et {α:Type} {x y:α}:eqB x y=true↔x=y:=by unfold eqB; exact @decide_eq_true_iff _ (Classical.propDecidable _)
theorem Dj {α:Type} {x y:α} {t:Bool} (h:t=true↔x=y):eqB x y=t:=by
 cases t with
 | true=>exact Et.2 (h.1 rfl)
 | false=>
  cases he:eqB x y with
  | false=>rfl
  | true=>exact absurd (h.2 (Et.1 he)) (by decide)
theorem Kf (v:aA) (xs:List aA) (A:Option Addr) (n c:Nat) (w:World) (hx:aQ w w.heap.size 5 A n (au aJ xs)) (hl:xs.length=n) (hn:n≤9223372036854775807) :
 Calls Tryz.prog 347 #[.slice A n c,.agg (aJ v).toArray] w (uR (eqB v) xs w):=by
 have Hl:=hid hl
 have Hx:=hid hx
 clear hl hx
 obtain⟨dw,jq,jr,gG,mB⟩:=v
 rw [show (Value.agg (aJ ⟨dw,jq,jr,gG,mB⟩).toArray) = .agg #[.string dw,.int .i64 jq,.int .i64 jr,.int .i64 gG,.string mB] from rfl]
 have Hb0:=hid (show Below w.heap.size w (w.alloc (.cells #[.string dw,.int .i64 jq,.int .i64 jr,.int .i64 gG,.string mB] 34)) from (Below.refl _ _).alloc (Nat.le_refl _) _)
 have HB0:=hid (show Blk (w.alloc (.cells #[.string dw,.int .i64 jq,.int .i64 jr,.int .i64 gG,.string mB] 34)) w.heap.size 34 #[.string dw,.int .i64 jq,.int .i64 jr,.int .i64 gG,.string mB] from heap_alloc_new w _)
 go_enter Tryz.func347,Tryz.ntmps347
 go_wp2
 go_loopw [5,8] (fun _ i wr=>zJ (eqB ⟨dw,jq,jr,gG,mB⟩) xs n w i wr∧Blk wr w.heap.size 34 #[.string dw,.int .i64 jq,.int .i64 jr,.int .i64 gG,.string mB]) (fun _ i _=>n - (intOf i).toNat)
 case atStart=>exact⟨⟨0,Nat.zero_le _,rfl,by simp,Hb0.out⟩,HB0.out⟩
 case round=>
  clear Hb0 HB0
  obtain⟨⟨k,hk,rfl,hnone,hb⟩,hB⟩:=hrel
  have cK:=hid hnone
  have Hb:=hid hb
  have HB:=hid hB
  have hsz:=hb.size
  have hBl:=hB.lt
  clear hnone
  by_cases hlt:k<n
  · obtain⟨y,hf⟩:∃ y,xs[k]? = some y:=⟨_,List.getElem?_eq_getElem (by rw [Hl.out]; exact hlt)⟩
    obtain⟨b,off,rfl,hbB,hc⟩:=(Hx.out.below hb).cR aP Hl.out hf
    have Hf:=hid hf
    obtain⟨bQ,eZ,fq,dL,iF⟩:=y
    have c0:wr.cell? ⟨b,off+k*5,none⟩=some (.string bQ):=hc 0 _ rfl
    have d0:wr.cell? ⟨w.heap.size,0,none⟩=some (.string dw):=hB.cell 0
    have c1:wr.cell? ⟨b,off+k*5+1,none⟩=some (.int .i64 eZ):=hc 1 _ rfl
    have d1:wr.cell? ⟨w.heap.size,1,none⟩=some (.int .i64 jq):=hB.cell 1
    have c2:wr.cell? ⟨b,off+k*5+2,none⟩=some (.int .i64 fq):=hc 2 _ rfl
    have d2:wr.cell? ⟨w.heap.size,2,none⟩=some (.int .i64 jr):=hB.cell 2
    have c3:wr.cell? ⟨b,off+k*5+3,none⟩=some (.int .i64 dL):=hc 3 _ rfl
    have d3:wr.cell? ⟨w.heap.size,3,none⟩=some (.int .i64 gG):=hB.cell 3
    have c4:wr.cell? ⟨b,off+k*5+4,none⟩=some (.string iF):=hc 4 _ rfl
    have d4:wr.cell? ⟨w.heap.size,4,none⟩=some (.string mB):=hB.cell 4
    obtain⟨t,ht,-,hrun⟩:=xI dw bQ mB iF jq eZ jr fq gG dL
    have hq:=Dj ht
    have xR:=hid (fun (h:t=true)=>qz (p:=eqB ⟨dw,jq,jr,gG,mB⟩) Hf.out (hq.trans h))
    have pF:=hid (fun (h:t=false)=>nJ (p:=eqB ⟨dw,jq,jr,gG,mB⟩) Hf.out cK.out (hq.trans h))
    have hlb:b<wr.heap.size:=by omega
    clear hc hf hb hB ht hq
    cases t
    · have fin:=hid (pF.out rfl)
      clear xR pF
      have Hb2:=hid Hb.out.drew
      have HB2:=hid (show Blk wr.drew w.heap.size 34 #[.string dw,.int .i64 jq,.int .i64 jr,.int .i64 gG,.string mB] from HB.out)
      go_wp2
      go_region
      go_wp2
      go_roundw
      case rel=>exact⟨⟨k+1,by omega,by go_num,fin.out,Hb2.out⟩,HB2.out⟩
      case measure=>simp [intOf]; omega
    · have fin:=hid (xR.out rfl)
      clear xR pF
      have Hb2:=hid Hb.out.drew
      go_wp2
      go_region
      go_wp2
      go_ret
      exact⟨_,rfl,Hb2.out,.inr ⟨by omega,fin.out⟩⟩
  · have fin:=hid (qA cK.out (by rw [Hl.out]; omega))
    clear hb hB
    go_wp2
    go_ret
    exact⟨_,rfl,Hb.out,.inl ⟨rfl,fin.out⟩⟩
theorem JT (v:aA) (xs:List aA) (A:Option Addr) (n c:Nat) (w:World) (hx:aQ w w.heap.size 5 A n (au aJ xs)) (hl:xs.length=n) (hn:n≤9223372036854775807) :
 Calls Tryz.prog 246 #[.slice A n c,.agg (aJ v).toArray] w fun e w'=>e = .returned (.bool (xs.any (eqB v)))∧Below w.heap.size w w':=by
 have hb1:Below w.heap.size w (w.alloc (.cells (aJ v).toArray 34)):=(Below.refl _ _).alloc (Nat.le_refl _) _
 have hC:=Kf v xs A n c _ ((hx.below hb1).more hb1.size) hl hn
 have Hb1:=hid hb1
 have hC:=hid hC
 clear hx hl hn hb1
 obtain⟨dw,jq,jr,gG,mB⟩:=v
 rw [show (aJ ⟨dw,jq,jr,gG,mB⟩).toArray=#[.string dw,.int .i64 jq,.int .i64 jr,.int .i64 gG,.string mB] from rfl] at hC Hb1 ⊢
 go_enter Tryz.func246,Tryz.ntmps246
 go_wp2_with fail
 refine Calls.mono hC.out ?_
 rintro e w2 ⟨i,rfl,hb2,hcase⟩
 have Hb2:=hid (Hb1.out.trans (hb2.mono Hb1.out.size))
 rcases hcase with ⟨rfl,hn⟩ | ⟨hi,hn⟩
 · go_wp2
   go_ret
   exact⟨dD hn.symm,Hb2.out⟩
 · have d0:decide (0≤i)=true:=decide_eq_true hi
   go_wp2
   go_ret
   exact⟨dD hn.symm,Hb2.out⟩
theorem Ir (v:av) (xs:List av) (A:Option Addr) (n c:Nat) (w:World) (hx:aQ w w.heap.size 3 A n (au aB xs)) (hl:xs.length=n) (hn:n≤9223372036854775807) :
 Calls Tryz.prog 349 #[.slice A n c,.agg (aB v).toArray] w (uR (eqB v) xs w):=by
 have Hl:=hid hl
 have Hx:=hid hx
 clear hl hx
 obtain⟨dw,jv,jw⟩:=v
 rw [show (Value.agg (aB ⟨dw,jv,jw⟩).toArray) = .agg #[.string dw,.int .i64 jv,.string jw] from rfl]
 have Hb0:=hid (show Below w.heap.size w (w.alloc (.cells #[.string dw,.int .i64 jv,.string jw] 36)) from (Below.refl _ _).alloc (Nat.le_refl _) _)
 have HB0:=hid (show Blk (w.alloc (.cells #[.string dw,.int .i64 jv,.string jw] 36)) w.heap.size 36 #[.string dw,.int .i64 jv,.string jw] from heap_alloc_new w _)
 go_enter Tryz.func349,Tryz.ntmps349
 go_wp2
 go_loopw [5,8] (fun _ i wr=>zJ (eqB ⟨dw,jv,jw⟩) xs n w i wr∧Blk wr w.heap.size 36 #[.string dw,.int .i64 jv,.string jw]) (fun _ i _=>n - (intOf i).toNat)
 case atStart=>exact⟨⟨0,Nat.zero_le _,rfl,by simp,Hb0.out⟩,HB0.out⟩
 case round=>
  clear Hb0 HB0
  obtain⟨⟨k,hk,rfl,hnone,hb⟩,hB⟩:=hrel
  have cK:=hid hnone
  have Hb:=hid hb
  have HB:=hid hB
  have hsz:=hb.size
  have hBl:=hB.lt
  clear hnone
  by_cases hlt:k<n
  · obtain⟨y,hf⟩:∃ y,xs[k]? = some y:=⟨_,List.getElem?_eq_getElem (by rw [Hl.out]; exact hlt)⟩
    obtain⟨b,off,rfl,hbB,hc⟩:=(Hx.out.below hb).cR aL Hl.out hf
    have Hf:=hid hf
    obtain⟨bQ,fA,fu⟩:=y
    have c0:wr.cell? ⟨b,off+k*3,none⟩=some (.string bQ):=hc 0 _ rfl
    have d0:wr.cell? ⟨w.heap.size,0,none⟩=some (.string dw):=hB.cell 0
    have c1:wr.cell? ⟨b,off+k*3+1,none⟩=some (.int .i64 fA):=hc 1 _ rfl
    have d1:wr.cell? ⟨w.heap.size,1,none⟩=some (.int .i64 jv):=hB.cell 1
    have c2:wr.cell? ⟨b,off+k*3+2,none⟩=some (.string fu):=hc 2 _ rfl
    have d2:wr.cell? ⟨w.heap.size,2,none⟩=some (.string jw):=hB.cell 2
    obtain⟨t,ht,-,hrun⟩:=uN dw bQ jw fu jv fA
    have hq:=Dj ht
    have xR:=hid (fun (h:t=true)=>qz (p:=eqB ⟨dw,jv,jw⟩) Hf.out (hq.trans h))
    have pF:=hid (fun (h:t=false)=>nJ (p:=eqB ⟨dw,jv,jw⟩) Hf.out cK.out (hq.trans h))
    have hlb:b<wr.heap.size:=by omega
    clear hc hf hb hB ht hq
    cases t
    · have fin:=hid (pF.out rfl)
      clear xR pF
      have Hb2:=hid Hb.out.drew
      have HB2:=hid (show Blk wr.drew w.heap.size 36 #[.string dw,.int .i64 jv,.string jw] from HB.out)
      go_wp2
      go_region
      go_wp2
      go_roundw
      case rel=>exact⟨⟨k+1,by omega,by go_num,fin.out,Hb2.out⟩,HB2.out⟩
      case measure=>simp [intOf]; omega
    · have fin:=hid (xR.out rfl)
      clear xR pF
      have Hb2:=hid Hb.out.drew
      go_wp2
      go_region
      go_wp2
      go_ret
      exact⟨_,rfl,Hb2.out,.inr ⟨by omega,fin.out⟩⟩
  · have fin:=hid (qA cK.out (by rw [Hl.out]; omega))
    clear hb hB
    go_wp2
    go_ret
    exact⟨_,rfl,Hb.out,.inl ⟨rfl,fin.out⟩⟩
theorem HU (v:av) (xs:List av) (A:Option Addr) (n c:Nat) (w:World) (hx:aQ w w.heap.size 3 A n (au aB xs)) (hl:xs.length=n) (hn:n≤9223372036854775807) :
 Calls Tryz.prog 249 #[.slice A n c,.agg (aB v).toArray] w fun e w'=>e = .returned (.bool (xs.any (eqB v)))∧Below w.heap.size w w':=by
 have hb1:Below w.heap.size w (w.alloc (.cells (aB v).toArray 36)):=(Below.refl _ _).alloc (Nat.le_refl _) _
 have hC:=Ir v xs A n c _ ((hx.below hb1).more hb1.size) hl hn
 have Hb1:=hid hb1
 have hC:=hid hC
 clear hx hl hn hb1
 obtain⟨dw,jv,jw⟩:=v
 rw [show (aB ⟨dw,jv,jw⟩).toArray=#[.string dw,.int .i64 jv,.string jw] from rfl] at hC Hb1 ⊢
 go_enter Tryz.func249,Tryz.ntmps249
 go_wp2_with fail
 refine Calls.mono hC.out ?_
 rintro e w2 ⟨i,rfl,hb2,hcase⟩
 have Hb2:=hid (Hb1.out.trans (hb2.mono Hb1.out.size))
 rcases hcase with ⟨rfl,hn⟩ | ⟨hi,hn⟩
 · go_wp2
   go_ret
   exact⟨dD hn.symm,Hb2.out⟩
 · have d0:decide (0≤i)=true:=decide_eq_true hi
   go_wp2
   go_ret
   exact⟨dD hn.symm,Hb2.out⟩
theorem FC (v:ah) (xs:List ah) (A:Option Addr) (n c:Nat) (w:World) (hx:aQ w w.heap.size 3 A n (au ay xs)) (hl:xs.length=n) (hn:n≤9223372036854775807) :
 Calls Tryz.prog 351 #[.slice A n c,.agg (ay v).toArray] w (uR (eqB v) xs w):=by
 have Hl:=hid hl
 have Hx:=hid hx
 clear hl hx
 obtain⟨mC,jy,jA⟩:=v
 rw [show (Value.agg (ay ⟨mC,jy,jA⟩).toArray) = .agg #[.string mC,.string jy,.int .i64 jA] from rfl]
 have Hb0:=hid (show Below w.heap.size w (w.alloc (.cells #[.string mC,.string jy,.int .i64 jA] 38)) from (Below.refl _ _).alloc (Nat.le_refl _) _)
 have HB0:=hid (show Blk (w.alloc (.cells #[.string mC,.string jy,.int .i64 jA] 38)) w.heap.size 38 #[.string mC,.string jy,.int .i64 jA] from heap_alloc_new w _)
 go_enter Tryz.func351,Tryz.ntmps351
 go_wp2
 go_loopw [5,8] (fun _ i wr=>zJ (eqB ⟨mC,jy,jA⟩) xs n w i wr∧Blk wr w.heap.size 38 #[.string mC,.string jy,.int .i64 jA]) (fun _ i _=>n - (intOf i).toNat)
 case atStart=>exact⟨⟨0,Nat.zero_le _,rfl,by simp,Hb0.out⟩,HB0.out⟩
 case round=>
  clear Hb0 HB0
  obtain⟨⟨k,hk,rfl,hnone,hb⟩,hB⟩:=hrel
  have cK:=hid hnone
  have Hb:=hid hb
  have HB:=hid hB
  have hsz:=hb.size
  have hBl:=hB.lt
  clear hnone
  by_cases hlt:k<n
  · obtain⟨y,hf⟩:∃ y,xs[k]? = some y:=⟨_,List.getElem?_eq_getElem (by rw [Hl.out]; exact hlt)⟩
    obtain⟨b,off,rfl,hbB,hc⟩:=(Hx.out.below hb).cR aH Hl.out hf
    have Hf:=hid hf
    obtain⟨iq,eT,eU⟩:=y
    have c0:wr.cell? ⟨b,off+k*3,none⟩=some (.string iq):=hc 0 _ rfl
    have d0:wr.cell? ⟨w.heap.size,0,none⟩=some (.string mC):=hB.cell 0
    have c1:wr.cell? ⟨b,off+k*3+1,none⟩=some (.string eT):=hc 1 _ rfl
    have d1:wr.cell? ⟨w.heap.size,1,none⟩=some (.string jy):=hB.cell 1
    have c2:wr.cell? ⟨b,off+k*3+2,none⟩=some (.int .i64 eU):=hc 2 _ rfl
    have d2:wr.cell? ⟨w.heap.size,2,none⟩=some (.int .i64 jA):=hB.cell 2
    obtain⟨t,ht,-,hrun⟩:=qV mC iq jy eT jA eU
    have hq:=Dj ht
    have xR:=hid (fun (h:t=true)=>qz (p:=eqB ⟨mC,jy,jA⟩) Hf.out (hq.trans h))
    have pF:=hid (fun (h:t=false)=>nJ (p:=eqB ⟨mC,jy,jA⟩) Hf.out cK.out (hq.trans h))
    have hlb:b<wr.heap.size:=by omega
    clear hc hf hb hB ht hq
    cases t
    · have fin:=hid (pF.out rfl)
      clear xR pF
      have Hb2:=hid Hb.out.drew
      have HB2:=hid (show Blk wr.drew w.heap.size 38 #[.string mC,.string jy,.int .i64 jA] from HB.out)
      go_wp2
      go_region
      go_wp2
      go_roundw
      case rel=>exact⟨⟨k+1,by omega,by go_num,fin.out,Hb2.out⟩,HB2.out⟩
      case measure=>simp [intOf]; omega
    · have fin:=hid (xR.out rfl)
      clear xR pF
      have Hb2:=hid Hb.out.drew
      go_wp2
      go_region
      go_wp2
      go_ret
      exact⟨_,rfl,Hb2.out,.inr ⟨by omega,fin.out⟩⟩
  · have fin:=hid (qA cK.out (by rw [Hl.out]; omega))
    clear hb hB
    go_wp2
    go_ret
    exact⟨_,rfl,Hb.out,.inl ⟨rfl,fin.out⟩⟩
theorem Fl (v:ah) (xs:List ah) (A:Option Addr) (n c:Nat) (w:World) (hx:aQ w w.heap.size 3 A n (au ay xs)) (hl:xs.length=n) (hn:n≤9223372036854775807) :
 Calls Tryz.prog 252 #[.slice A n c,.agg (ay v).toArray] w fun e w'=>e = .returned (.bool (xs.any (eqB v)))∧Below w.heap.size w w':=by
 have hb1:Below w.heap.size w (w.alloc (.cells (ay v).toArray 38)):=(Below.refl _ _).alloc (Nat.le_refl _) _
 have hC:=FC v xs A n c _ ((hx.below hb1).more hb1.size) hl hn
 have Hb1:=hid hb1
 have hC:=hid hC
 clear hx hl hn hb1
 obtain⟨mC,jy,jA⟩:=v
 rw [show (ay ⟨mC,jy,jA⟩).toArray=#[.string mC,.string jy,.int .i64 jA] from rfl] at hC Hb1 ⊢
 go_enter Tryz.func252,Tryz.ntmps252
 go_wp2_with fail
 refine Calls.mono hC.out ?_
 rintro e w2 ⟨i,rfl,hb2,hcase⟩
 have Hb2:=hid (Hb1.out.trans (hb2.mono Hb1.out.size))
 rcases hcase with ⟨rfl,hn⟩ | ⟨hi,hn⟩
 · go_wp2
   go_ret
   exact⟨dD hn.symm,Hb2.out⟩
 · have d0:decide (0≤i)=true:=decide_eq_true hi
   go_wp2
   go_ret
   exact⟨dD hn.symm,Hb2.out⟩
end Go.Proofs.YtoeejfhdjmkpcaaGreatDoor
/- The walks of Put: the rows of a table, written one by one. -/
namespace Go.Proofs.YtoeejfhdjmkpcaaGreatDoor
open Go.Lib (hid)
open Go.RowKit
theorem gZ.keep {w w':World} {base g:Nat} {l:List UInt8} (h:gZ w base g l) (hk:dB base g w w'):Below base w w':=hk.below h.at_.1 h.size
def iW {α:Type} (enc:α→List UInt8) (xs:List α):List UInt8:=bJ xs.length ++ xs.flatMap enc
theorem nC {α:Type} {enc:α→List UInt8} (h:∀ x,(enc x).length≤85):∀ xs:List α,(xs.flatMap enc).length≤85*xs.length
 | []=>by simp
 | x :: xs=>by
  have:=nC h xs
  have:=h x
  rw [List.flatMap_cons,List.length_append,List.length_cons]; omega
theorem qB {α:Type} (enc:α→List UInt8) {xs:List α} {k:Nat} {x:α} (h:xs[k]? = some x):(xs.take (k+1)).flatMap enc=(xs.take k).flatMap enc ++ enc x:=by
 rw [List.take_add_one,h]; simp
def wR {α:Type} (enc:α→List UInt8) (xs:List α) (n:Nat) (base g:Nat) (l:List UInt8) (w:World) (i:Value) (wr:World):Prop:=
 ∃ k:Nat,k≤n∧i = .int .i64 k∧gZ wr base g (l ++ bJ n ++ (xs.take k).flatMap enc)∧dB base g w wr
theorem M5.of {s:ByteArray} (h:s.size≤9223372036854775807):s.size≤9223372036854775807:=h
theorem E9 (base g p:Nat) (l:List UInt8) (xs:List ah) (A:Option Addr) (n c:Nat) (w:World) (hx:aQ w base 3 A n (au ay xs)) (hl:xs.length=n) (hn:n≤1000000) (hw:∀ x ∈ xs,As x) (h:gZ w base g l) (hll:l.length≤1000000) :
 Calls Tryz.prog 66 #[.pointer (some ⟨g,0,none⟩),.slice A n c,.func (.func 67) #[.pointer (some ⟨g,0,none⟩)] #[]] w (kr base g (l ++ iW fP xs) w):=by
 have pG:∀ k,((xs.take k).flatMap fP).length≤85*n:=fun k=>by
  have h1:=nC (enc:=fP) (fun x=>xH _) (xs.take k)
  have h2:(xs.take k).length≤n:=by rw [List.length_take]; omega
  omega
 have hnl:=eY n
 have Hlen:=hid (show ∀ k,(l ++ bJ n ++ (xs.take k).flatMap fP).length≤90000000 from fun k=>by have:=pG k; simp only [List.length_append]; omega)
 have bO:=hid (show l ++ iW fP xs=l ++ bJ n ++ (xs.take n).flatMap fP from by unfold iW; rw [← hl,List.take_length,List.append_assoc])
 have HN:=hid (pA base g l (n:Int) w (by omega) h (by omega))
 have Hw:=hid hw
 have Hl:=hid hl
 have Hx:=hid hx
 have Ho:=hid h
 clear hw hl hx h pG hnl
 go_enter Tryz.func66,Tryz.ntmps66
 go_wp2_with fail
 refine Calls.mono HN.out ?_
 rintro e w0 ⟨rfl,ok0,k0⟩
 rw [show ((n:Int)).toNat=n from by omega] at ok0
 have Ok0:=hid ok0
 have K0:=hid k0
 clear ok0 k0
 go_wp2
 go_loopw [7,14] (fun _ i wr=>wR fP xs n base g l w i wr) (fun _ i _=>n - (intOf i).toNat)
 case atStart=>exact⟨0,Nat.zero_le _,rfl,by simpa using Ok0.out,K0.out⟩
 case round=>
  obtain⟨k,hk,rfl,hok,hkp⟩:=hrel
  have Hok:=hid hok
  have Hkp:=hid hkp
  have hsz:=hok.size
  have hB:=Ho.out.keep hkp
  clear hok hkp
  by_cases hlt:k<n
  · obtain⟨x,hf⟩:∃ x,xs[k]? = some x:=⟨_,List.getElem?_eq_getElem (by rw [Hl.out]; exact hlt)⟩
    obtain⟨b,off,rfl,hbB,hc⟩:=(Hx.out.below hB).cR aH Hl.out hf
    have hso:=hid (Hw.out x (List.mem_of_getElem? hf))
    have Hst:=hid (qB fP hf)
    obtain⟨X,hX⟩:∃ X,X=x:=⟨_,rfl⟩
    have HX:=hid hX
    obtain⟨job,node,till⟩:=x
    obtain⟨c0,c1,c2⟩:=rc3 hc
    clear hc hf hX hB
    have hlb:b<wr.heap.size:=by omega
    have hba:Below wr.heap.size wr (wr.alloc (.cells #[.string job,.string node,.int .i64 till] 38)):=(Below.refl _ _).alloc (Nat.le_refl _) _
    have Hba:=hid hba
    have Ha:=hid (Hok.out.below hba)
    have Hkl:=hid (Hlen.out k)
    clear hba
    go_wp2_with fail
    refine Calls.mono (Dk base g _ ⟨job,node,till⟩ _ hso.out Ha.out Hkl.out) ?_
    rintro e w1 ⟨rfl,ok1,k1⟩
    have Hk1:=hid (Hkp.out.trans ((dB.of_below Hba.out).trans k1))
    have Ok1:=hid (show gZ w1 base g (l ++ bJ n ++ (xs.take (k+1)).flatMap fP) from by rw [Hst.out,← List.append_assoc]; exact ok1)
    clear ok1 k1
    go_wp2
    go_roundw
    case rel=>exact⟨k+1,by omega,by go_num,Ok1.out,Hk1.out⟩
    case measure=>simp [intOf]; omega
  · obtain rfl:k=n:=by omega
    go_wp2
    go_end0
    exact⟨rfl,by rw [bO.out]; exact Hok.out,Hkp.out⟩
end Go.Proofs.YtoeejfhdjmkpcaaGreatDoor
