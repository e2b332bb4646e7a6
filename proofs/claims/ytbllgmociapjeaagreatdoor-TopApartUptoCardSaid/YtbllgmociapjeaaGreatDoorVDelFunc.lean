/- Of the proof of a statement: DelFunc, Work. -/
import Derived.Deep.DeepCutAuto
import Derived.Test.YtbllgmociapjeaaGreatDoorVDelete
import Derived.Test.YtbllgmociapjeaaGreatDoorVRPh
set_option linter.unusedVariables false
set_option linter.unusedSimpArgs false
set_option maxRecDepth 100000
set_option maxHeartbeats 8000000
/- slices.IndexFunc at leases, the first place told; slices.DeleteFunc at leases, over a row of the call's own. -/
namespace Go.Proofs.YtbllgmociapjeaaGreatDoor
open Go.Lib (hid)
open Go.RowKit
def uf (p:ak→Bool) (F:FuncId) (caps:Array Value) (w:World) (g:Option Nat):Prop:=
 ∀ W,w.grownBy W g→∀ x,Calls Tryz.prog F (#[.agg (av x).toArray] ++ caps) W fun e W'=>e = .returned (.bool (p x))∧Below W.heap.size W W'
theorem uf.next {p:ak→Bool} {F:FuncId} {caps:Array Value} {w w':World} {g:Option Nat} (h:uf p F caps w g) (hg:w.grownBy w' g):uf p F caps w' g:=fun W hW x=>
 h W ⟨hW.os.trans hg.os,hW.tape.trans hg.tape,hW.output.trans hg.output,Nat.le_trans hg.size hW.size,fun k hk hne=>(hW.block k (Nat.lt_of_lt_of_le hk hg.size) hne).trans (hg.block k hk hne)⟩ x
theorem tK {w a b:World} {g:Option Nat} (h:w.grownBy a g) (hb:Below a.heap.size a b):w.grownBy b g:=
 ⟨hb.os.trans h.os,hb.tape.trans h.tape,hb.output.trans h.output,Nat.le_trans h.size hb.size,fun k hk hne=>(hb.block k (Nat.lt_of_lt_of_le hk h.size)).trans (h.block k hk hne)⟩
theorem DH {α:Type} {p:α→Bool} {xs:List α} {k:Nat} {x:α} (h:xs[k]? = some x) (ht:(xs.take k).any p=false) (hp:p x=false):(xs.take (k+1)).any p=false:=by
 rw [List.take_add_one,h,List.any_append,ht]; simp [hp]
theorem Fz {α:Type} {p:α→Bool} {xs:List α} {k:Nat} (ht:(xs.take k).any p=false) (hk:xs.length≤k):xs.any p=false:=by rwa [List.take_of_length_le hk] at ht
def yM (p:ak→Bool) (xs:List ak) (w:World) (e:Ending) (w':World):Prop:=
 Below w.heap.size w w'∧((xs.any p=false∧e = .returned (.int .i64 (-1)))∨∃ (k:Nat) (x:ak),e = .returned (.int .i64 k)∧xs[k]? = some x∧p x=true∧(xs.take k).any p=false)
def Ky (p:ak→Bool) (xs:List ak) (n:Nat) (w:World) (i:Value) (wr:World):Prop:=∃ k:Nat,k≤n∧i = .int .i64 k∧(xs.take k).any p=false∧Below w.heap.size w wr
theorem DI (p:ak→Bool) (F:FuncId) (caps:Array Value) (xs:List ak) (A:Option Addr) (n c:Nat) (w:World) (hent:∀ args w,(callFunc F args).run Tryz.prog w = .ok (.enter F args) w) (hx:aU w w.heap.size 3 A n (au av xs)) (hl:xs.length=n) (hn:n≤9223372036854775807) (hp:uf p F caps w none) :
 Calls Tryz.prog 230 #[.slice A n c,.func (.func F) #[] caps] w (yM p xs w):=by
 have Hl:=hid hl
 have Hp:=hid hp
 clear hl hp
 go_enter Tryz.func230,Tryz.ntmps230
 go_wp2
 go_loopw [4,5,8,16] (fun _ _ i _ wr=>Ky p xs n w i wr) (fun _ _ i _ _=>n - (intOf i).toNat)
 case atStart=>exact⟨0,Nat.zero_le _,rfl,by simp,Below.refl _ _⟩
 case round=>
  obtain⟨k,hk,rfl,hnone,hb⟩:=hrel
  have dz:=hid hnone
  have Hb:=hid hb
  have hsz:=hb.size
  clear hnone
  by_cases hlt:k<n
  · obtain⟨x,hf⟩:∃ x,xs[k]? = some x:=⟨_,List.getElem?_eq_getElem (by rw [Hl.out]; exact hlt)⟩
    obtain⟨b,off,rfl,hbB,hc⟩:=(hx.below hb).dB aG Hl.out hf
    have Hf:=hid hf
    have hcon:=hid (Hp.out wr ⟨hb.os,hb.tape,hb.output,hb.size,fun k hk _=>hb.block k hk⟩ x)
    obtain⟨t,ht⟩:∃ t,p x=t:=⟨_,rfl⟩
    rw [ht] at hcon
    have Ht:=hid ht
    obtain⟨job,node,till⟩:=x
    obtain⟨c0,c1,c2⟩:=rc3 hc
    have hcon:=hid (show Calls Tryz.prog F (#[.agg #[.string job,.string node,.int .i64 till]] ++ caps) wr fun e W'=>e = .returned (.bool t)∧Below wr.heap.size wr W' from hcon.out)
    clear hc hf hx hb ht
    have hlb:b<wr.heap.size:=by omega
    go_wp2_with fail
    refine Calls.mono hcon.out ?_
    rintro e w2 ⟨rfl,hb2⟩
    have Hb2:=hid (Hb.out.trans (hb2.mono Hb.out.size))
    clear hcon hb2
    cases t
    · have fin:=hid (DH Hf.out dz.out Ht.out)
      go_wp2
      go_roundw
      case rel=>exact⟨k+1,by omega,by go_num,fin.out,Hb2.out⟩
      case measure=>simp [intOf]; omega
    · have aP:=hid (show yM p xs w (.returned (.int .i64 k)) w2 from ⟨Hb2.out,.inr ⟨k,_,rfl,Hf.out,Ht.out,dz.out⟩⟩)
      go_wp2
      go_ret
      exact aP.out
  · have aP:=hid (show yM p xs w (.returned (.int .i64 (-1))) wr from ⟨Hb.out,.inl ⟨Fz dz.out (by rw [Hl.out]; omega),rfl⟩⟩)
    clear hx
    go_wp2
    go_ret
    exact aP.out
structure DfL (p:ak→Bool) (l m:List ak) (i j:Nat):Prop where
 len:m.length=l.length
 lt:i<j
 le:j≤l.length
 front:m.take i=(l.take j).filter fun x=>!p x
 back:m.drop j=l.drop j
theorem DfL.start {p:ak→Bool} {l:List ak} {k:Nat} {x:ak} (hx:l[k]? = some x) (hp:p x=true) (hn:(l.take k).any p=false):DfL p l l k (k+1):=by
 refine⟨rfl,by omega,(List.getElem?_eq_some_iff.1 hx).1,?_,rfl⟩
 rw [List.take_add_one,hx,List.filter_append]
 have h1:(l.take k).filter (fun x=>!p x)=l.take k:=List.filter_eq_self.2 fun a ha=>by
  have:=List.any_eq_false.1 hn a ha
  simpa using this
 rw [h1]
 simp [hp]
theorem DfL.at_ {p:ak→Bool} {l m:List ak} {i j:Nat} (h:DfL p l m i j) {x:ak} (hx:l[j]? = some x):m[j]? = some x:=by
 have:=congrArg (fun r=>r[0]?) h.back
 simp only [List.getElem?_drop,Nat.add_zero] at this
 rw [this,hx]
theorem DfL.skip {p:ak→Bool} {l m:List ak} {i j:Nat} (h:DfL p l m i j) {x:ak} (hx:l[j]? = some x) (hp:p x=true):DfL p l m i (j+1):=by
 refine⟨h.len,by have:=h.lt; omega,(List.getElem?_eq_some_iff.1 hx).1,?_,?_⟩
 · rw [List.take_add_one,hx,List.filter_append,h.front]
   simp [hp]
 · have:=congrArg (List.drop 1) h.back
   rwa [List.drop_drop,List.drop_drop] at this
theorem DfL.stay {p:ak→Bool} {l m:List ak} {i j:Nat} (h:DfL p l m i j) {x:ak} (hx:l[j]? = some x) (hp:p x=false):DfL p l (m.take i ++ x :: m.drop (i+1)) (i+1) (j+1):=by
 have hj:=(List.getElem?_eq_some_iff.1 hx).1
 have hi:=h.lt
 have li:(m.take i).length=i:=by rw [List.length_take,h.len]; omega
 refine⟨?_,by omega,hj,?_,?_⟩
 · rw [List.length_append,li,List.length_cons,List.length_drop,h.len]; omega
 · rw [List.take_append,li,Nat.add_sub_cancel_left,List.take_of_length_le (by omega),h.front,List.take_add_one (l:=l),hx,List.filter_append]
   simp [hp]
 · rw [List.drop_append,li,List.drop_eq_nil_of_le (by omega),List.nil_append,show j+1 - i=(j - i)+1 by omega,List.drop_succ_cons,List.drop_drop,show i+1+(j - i)=j+1 by omega]
   have:=congrArg (List.drop 1) h.back
   rwa [List.drop_drop,List.drop_drop] at this
theorem DfL.done {p:ak→Bool} {l m:List ak} {i:Nat} (h:DfL p l m i l.length):m.take i=l.filter fun x=>!p x:=by
 rw [h.front,List.take_length]
theorem aX.out {α:Type} {enc:α→List Value} {base:Nat} {T:TypeId} {sz:Nat} {A A1:Option Addr} {n c n1 c1:Nat} {l:List α} {w w':World} (h:aX enc base T sz A n c l w (.returned (.slice A1 n1 c1)) w') :
 n1=l.length∧w'.ownsRow base T sz (.slice A1 n1 c1) n1 (au enc l)∧bZ w w' (.slice A n c) (.slice A1 n1 c1):=by
 obtain⟨A',m,c',e,hm,ho,hg⟩:=h
 injection e with e
 injection e with e1 e2 e3
 subst e1; subst e2; subst e3
 exact⟨hm,ho,hg⟩
theorem uf.none_ {p:ak→Bool} {F:FuncId} {caps:Array Value} {w:World} {g:Option Nat} (h:uf p F caps w g):uf p F caps w none:=fun W hW x=>
 h W ⟨hW.os,hW.tape,hW.output,hW.size,fun k hk _=>hW.block k hk (by simp)⟩ x
def LB (p:ak→Bool) (l:List ak) (base g n c:Nat) (w:World) (vi vj:Value) (wr:World):Prop:=
 ∃ (i j:Nat) (m:List ak),vi = .int .i64 i∧vj = .int .i64 j∧DfL p l m i j∧wr.ownsRow base 36 3 (.slice (some ⟨g,0,none⟩) n c) n (au av m)∧w.grownBy wr (some g)
theorem FA {base g n c i:Nat} {m:List ak} {W:World} (ho:W.ownsRow base 36 3 (.slice (some ⟨g,0,none⟩) n c) n (au av m)) (hl:m.length=n) (hi:i<n) :
 ∃ W',(∀ ty cc,(Builtin.clear_ #[24] ty #[.slice (some ⟨g,i*3,none⟩) (n - i) cc]).run Tryz.prog W = .ok (.tuple #[]) W')∧W'.ownsRow base 36 3 (.slice (some ⟨g,0,none⟩) i c) i (au av (m.take i))∧W.grownBy W' (some g):=by
 obtain⟨cur,hR,hnc,htk⟩:=cL.of ho
 have lc:cur.toList.length=c*3:=by rw [Array.length_toList,hR.size]
 obtain⟨Z,hZ⟩:∃ Z,(Builtin.zeroCells (Value.cells (.agg #[.string ⟨#[]⟩,.string ⟨#[]⟩,.int .i64 0])) (n - i)).toList=Z:=⟨_,rfl⟩
 have lZ:Z.length=(n - i)*3:=by rw [← hZ,eH]; rfl
 obtain⟨aT,bM⟩:∃ aT,(cur.toList.take (i*3) ++ Z ++ cur.toList.drop (i*3+Z.length)).toArray=aT:=⟨_,rfl⟩
 have hs2:aT.size=c*3:=by rw [← bM]; simp only [List.size_toArray,List.length_append,List.length_take,List.length_drop,lc,lZ]; omega
 refine⟨W.setRow g aT,fun ty cc=>?_,(hR.set aT hs2).own (by omega) ?_,qO W g aT⟩
 · have h:=eY (P:=Tryz.prog) W 24 36 ty (.agg #[.string ⟨#[]⟩,.string ⟨#[]⟩,.int .i64 0]) g (i*3) (n - i) cc Tryz.underlying24 Tryz.zeroValue36 (fH _ _ (fun u hu=>eQ ⟨⟨#[]⟩,⟨#[]⟩,0⟩ u hu)) (by omega) cur 36 hR.blk (by rw [hR.size]; show i*3+(n - i)*3≤_; omega)
   rw [h,hZ,bM]
 · rw [← cI aG,← htk,← bM,List.append_assoc,List.take_append_of_le_length (by rw [List.length_take]; omega),List.take_take,List.take_take,Nat.min_self,Nat.min_eq_left (by omega)]
theorem DJ (p:ak→Bool) (F:FuncId) (caps:Array Value) (base:Nat) (A:Option Addr) (n c:Nat) (l:List ak) (w:World) (hent:∀ args w,(callFunc F args).run Tryz.prog w = .ok (.enter F args) w) (ho:w.ownsRow base 36 3 (.slice A n c) n (au av l)) (hl:l.length=n) (hn:n≤999) (hp:uf p F caps w (Value.slice A n c).ownBlock) :
 Calls Tryz.prog 195 #[.slice A n c,.func (.func F) #[] caps] w (aX av base 36 3 A n c (l.filter fun x=>!p x) w):=by
 have HI:=hid (DI p F caps l A n c w hent (cO ho) hl (by omega) hp.none_)
 have Ho:=hid ho
 have Hl:=hid hl
 have Hp:=hid hp
 clear ho hl hp
 obtain⟨fl,Kz⟩:∃ fl,l.filter (fun x=>!p x)=fl:=⟨_,rfl⟩
 rw [Kz]
 have Hfl:=hid Kz
 clear Kz
 go_enter Tryz.func195,Tryz.ntmps195
 go_wp2_with fail
 refine Calls.mono HI.out ?_
 rintro e w1 ⟨hb1,hcase⟩
 rcases hcase with ⟨hany,rfl⟩ | ⟨k,x,rfl,hx,hpx,hnone⟩
 · have hfl:l.filter (fun x=>!p x)=l:=List.filter_eq_self.2 fun a ha=>by
    have:=List.any_eq_false.1 hany a ha
    simpa using this
   rw [Hfl.out] at hfl
   subst hfl
   have aP:=hid (show aX av base 36 3 A n c _ w (.returned (.slice A n c)) w1 from ⟨A,n,c,rfl,Hl.out.symm,ay Ho.out hb1,bZ.after hb1 (bZ.refl _ _)⟩)
   clear hany hb1
   go_wp2
   go_ret
   exact aP.out
 · have hkn:k<n:=by have:=(List.getElem?_eq_some_iff.1 hx).1; have:=Hl.out; omega
   obtain⟨g,cap,hA,hcap⟩:=Ho.out.form (by omega)
   injection hA with hA _ hc
   subst hA; subst hc
   have hnc:n≤c:=by obtain⟨_,_,h,_⟩:=cL.of Ho.out; exact h
   have hc63:c≤9223372036854775807:=by obtain⟨_,h,_,_⟩:=cL.of Ho.out; have:=h.cap_; unfold maxLen at this; omega
   have H0:=hid (DfL.start hx hpx hnone)
   have Hg1:=hid (show w.grownBy w1 (some g) from ⟨hb1.os,hb1.tape,hb1.output,hb1.size,fun q hq _=>hb1.block q hq⟩)
   have Ho1:=hid (ay Ho.out hb1)
   have hk1:((k:Int) == -1)=false:=by rw [beq_eq_false_iff_ne]; omega
   clear hx hpx hnone hb1
   go_wp2
   go_loopw [5,6,7] (fun i j _ wr=>LB p l base g n c w i j wr) (fun _ j _ _=>n - (intOf j).toNat)
   case atStart=>exact⟨k,k+1,l,rfl,by go_num,H0.out,Ho1.out,Hg1.out⟩
   case round=>
    obtain⟨i,j,m,rfl,rfl,hD,ho,hg⟩:=hrel
    have HD:=hid hD
    have HO:=hid ho
    have Hg:=hid hg
    have hij:=hD.lt
    have hjn:j≤n:=by have:=hD.le; have:=Hl.out; omega
    have hml:m.length=n:=by rw [hD.len]; exact Hl.out
    clear hD hg
    by_cases hlt:j<n
    · obtain⟨x,hf⟩:∃ x,l[j]? = some x:=⟨_,List.getElem?_eq_getElem (by have:=Hl.out; omega)⟩
      have Hf:=hid hf
      obtain⟨b,off,hA,_,hbw,hc⟩:=C0 aG ho hml (HD.out.at_ hf)
      injection hA with hA
      injection hA with hA1 hA2
      subst hA1; subst hA2
      obtain⟨t,ht⟩:∃ t,p x=t:=⟨_,rfl⟩
      have Ht:=hid ht
      have hcon:=Hp.out (wr.alloc (.cells (av x).toArray 36)) (tK Hg.out ((Below.refl _ _).alloc (Nat.le_refl _) _)) x
      rw [ht] at hcon
      have hB:=heap_alloc_new wr (.cells (av x).toArray 36)
      have HS:=hid (fun W hb=>qP base g n c i m x wr W ho hml (by omega) hb)
      obtain⟨job,node,till⟩:=x
      have c0:wr.cell? ⟨g,j*3,none⟩=some (.string job):=by have:=hc 0 _ rfl; rwa [Nat.zero_add,Nat.add_zero] at this
      have c1:wr.cell? ⟨g,j*3+1,none⟩=some (.string node):=by have:=hc 1 _ rfl; rwa [Nat.zero_add] at this
      have c2:wr.cell? ⟨g,j*3+2,none⟩=some (.int .i64 till):=by have:=hc 2 _ rfl; rwa [Nat.zero_add] at this
      have HB:=hid (show Blk (wr.alloc (.cells #[.string job,.string node,.int .i64 till] 36)) wr.heap.size 36 #[.string job,.string node,.int .i64 till] from hB)
      have hcon:=hid (show Calls Tryz.prog F (#[.agg #[.string job,.string node,.int .i64 till]] ++ caps) (wr.alloc (.cells #[.string job,.string node,.int .i64 till] 36)) fun e W'=>e = .returned (.bool t)∧Below (wr.alloc (.cells #[.string job,.string node,.int .i64 till] 36)).heap.size (wr.alloc (.cells #[.string job,.string node,.int .i64 till] 36)) W' from hcon)
      have Hba:=hid (show Below wr.heap.size wr (wr.alloc (.cells #[.string job,.string node,.int .i64 till] 36)) from (Below.refl _ _).alloc (Nat.le_refl _) _)
      clear hc hf ht hB ho
      go_wp2_with fail
      refine Calls.mono hcon.out ?_
      rintro e w2 ⟨rfl,hb2⟩
      have Hb2:=hid (Hba.out.trans (hb2.mono Hba.out.size))
      have HB2:=hid (HB.out.below hb2 HB.out.lt)
      clear hcon hb2 c0 c1 c2
      cases t
      · obtain⟨hfz,hce,hend⟩:=HS.out w2 Hb2.out
        have hD2:=HD.out.stay Hf.out Ht.out
        have aP:=hid hend.out
        have HD2:=hid hD2
        have f0:=hfz (i*3)
        have f1:=hfz (i*3+1)
        have f2:=hfz (i*3+2)
        obtain⟨u0,p0⟩:=hce (i*3) (by omega)
        obtain⟨u1,p1⟩:=hce (i*3+1) (by omega)
        obtain⟨u2,p2⟩:=hce (i*3+2) (by omega)
        have d0:w2.cell? ⟨wr.heap.size,0,none⟩=some (.string job):=HB2.out.cell 0
        have d1:w2.cell? ⟨wr.heap.size,1,none⟩=some (.string node):=HB2.out.cell 1
        have d2:w2.cell? ⟨wr.heap.size,2,none⟩=some (.int .i64 till):=HB2.out.cell 2
        clear hfz hce hend hD2
        go_wp2
        go_roundw
        case rel=>exact⟨i+1,j+1,_,by go_num,by go_num,HD2.out,aP.out.2.1,bZ.grown (v:=.slice (some ⟨g,0,none⟩) n c) (v':=.slice (some ⟨g,0,none⟩) n c) (bZ.trans ⟨Hg.out,.inl rfl⟩ aP.out.2.2)⟩
        case measure=>simp [intOf]; omega
      · have hD2:=HD.out.skip Hf.out Ht.out
        have HD2:=hid hD2
        have HO2:=hid (ay HO.out Hb2.out)
        have Hg2:=hid (tK Hg.out Hb2.out)
        clear hD2
        go_wp2
        go_roundw
        case rel=>exact⟨i,j+1,m,rfl,by go_num,HD2.out,HO2.out,Hg2.out⟩
        case measure=>simp [intOf]; omega
    · obtain rfl:j=n:=by omega
      have hin:i<j:=hij
      obtain⟨W',hcl,ho',hg'⟩:=FA ho hml hin
      have hci:¬ c=i:=by omega
      have hD:=HD.out
      have hfin:m.take i=l.filter fun x=>!p x:=DfL.done (by have:=Hl.out; subst this; exact hD)
      rw [Hfl.out] at hfin
      rw [hfin] at ho'
      have aP:=hid (show aX av base 36 3 (some ⟨g,0,none⟩) j c fl w (.returned (.slice (some ⟨g,0,none⟩) i c)) W' from ⟨_,i,c,rfl,by rw [← hfin,List.length_take,hml]; omega,ho',bZ.trans (b:=wr) (v:=.slice (some ⟨g,0,none⟩) j c) ⟨Hg.out,.inl rfl⟩ ⟨hg',.inl rfl⟩⟩)
      have Hcl:=hid hcl
      clear hcl ho' hg' hD hfin ho hlt
      go_wp2_with (refine bY _ rfl _ 24 rfl _ rfl (Hcl.out _ _) ?_)
      go_ret
      exact aP.out
end Go.Proofs.YtbllgmociapjeaaGreatDoor
/- The work on a state in memory; (*work).without. -/
namespace Go.Proofs.YtbllgmociapjeaaGreatDoor
open Go.Lib (hid)
open Go.RowKit
structure mN (w:World) (base:Nat) (st:ah) (x:StA) (N WK:Nat) (now:Int):Prop where
 nb:Blk w N 26 (stC st x)
 wk:Blk w WK 198 #[.pointer (some ⟨N,0,none⟩),.int .i64 now]
 own:StOwn w base st x
 bN:base≤N
 bW:base≤WK
 bs:base≤w.heap.size
theorem mN.below {w w':World} {base:Nat} {st:ah} {x:StA} {N WK:Nat} {now:Int} (h:mN w base st x N WK now) (hb:Below w.heap.size w w'):mN w' base st x N WK now:=
 ⟨h.nb.below hb h.nb.lt,h.wk.below hb h.wk.lt,⟨ay h.own.j hb,ay h.own.n hb,ay h.own.l hb,h.own.lj,h.own.ln,h.own.ll⟩,h.bN,h.bW,Nat.le_trans h.bs hb.size⟩
structure nk where
 A:Option Addr
 m:Nat
 c:Nat
 s:Bool
def setSt (st:ah) (ls:List ak):ah:=⟨st.rev,st.jobs,st.nodes,ls⟩
structure WoAt (w:World) (base:Nat) (st:ah) (x:StA) (N WK:Nat) (now:Int) (ls:List ak) (p:Nat) (γ:nk) (wx:World):Prop where
 wk:Blk wx WK 198 #[.pointer (some ⟨N,0,none⟩),.int .i64 now]
 nb:Blk wx N 26 #[.int .i64 st.rev,.slice x.aj x.nj x.cj,.slice x.an x.nn x.cn,if p<2 then .slice x.al x.nl x.cl else .slice γ.A γ.m γ.c]
 below:Below base w wx
 j:wx.ownsRow base 32 5 (.slice x.aj x.nj x.cj) x.nj (au aI st.jobs)
 n:wx.ownsRow base 34 3 (.slice x.an x.nn x.cn) x.nn (au aB st.nodes)
 here:p=0→wx=w.drew
 l:0<p→wx.ownsRow base 36 3 (.slice γ.A γ.m γ.c) γ.m (au av ls)∧γ.m=ls.length
def woV (N WK:Nat) (x:StA) (F:FuncId) (caps:Array Value) (γ:nk):Nat→Value→Prop
 | 0,u=>u = .pointer (some ⟨WK,0,none⟩)
 | 1,u=>u = .pointer (some ⟨WK,0,none⟩)
 | 2,u=>u = .pointer (some ⟨WK,0,none⟩)
 | 3,u=>u = .pointer (some ⟨N,0,none⟩)
 | 4,u=>u = .pointer (some ⟨WK,0,none⟩)
 | 5,u=>u = .pointer (some ⟨WK,0,none⟩)
 | 6,u=>u = .pointer (some ⟨WK,0,none⟩)
 | 7,u=>u = .pointer (some ⟨N,0,none⟩)
 | 8,u=>u = .pointer (some ⟨N,0,none⟩)
 | 9,u=>u = .pointer (some ⟨N,3,none⟩)
 | 10,u=>u = .slice x.al x.nl x.cl
 | 11,u=>u = .func (.func F) #[] caps
 | 12,u=>u = .slice γ.A γ.m γ.c
 | 13,u=>u = .pointer (some ⟨N,0,none⟩)
 | 14,u=>u = .pointer (some ⟨N,3,none⟩)
 | 15,u=>True
 | _,_=>False
theorem KA {N WK:Nat} {x:StA} {F:FuncId} {caps:Array Value} {γ γ':nk} {j:Nat} {v:Value} (hj:j≠12) (h:woV N WK x F caps γ j v):woV N WK x F caps γ' j v:=by
 unfold woV at *
 split at h
 all_goals first | exact h | exact absurd rfl hj
def FC (base:Nat) (st:ah) (x:StA) (N WK:Nat) (now:Int) (ls:List ak) (w:World) (e:Ending) (w':World):Prop:=
 e = .returned (.tuple #[])∧(∃ x',mN w' base (setSt st ls) x' N WK now)∧Below base w w'
theorem nX (p:ak→Bool) (F:FuncId) (caps:Array Value) (base:Nat) (st:ah) (x:StA) (N WK:Nat) (now:Int) (w:World) (h:mN w base st x N WK now) (hl:x.nl≤999) (hent:∀ args w,(callFunc F args).run Tryz.prog w = .ok (.enter F args) w) (hp:uf p F caps w (Value.slice x.al x.nl x.cl).ownBlock) :
 Calls Tryz.prog 158 #[.pointer (some ⟨WK,0,none⟩),.func (.func F) #[] caps] w (FC base st x N WK now (st.leases.filter fun l=>!p l) w):=by
 have HD:=hid (DJ p F caps base x.al x.nl x.cl st.leases w.drew hent h.own.l.drew h.own.ll hl (fun W hW=>hp W ⟨hW.os,hW.tape,hW.output,hW.size,hW.block⟩))
 have HL:=hid (show w.drew.ownsRow base 36 3 (.slice x.al x.nl x.cl) x.nl (au av st.leases) from h.own.l.drew)
 have HB:=hid (show base≤w.drew.heap.size from h.bs)
 have HbN:=hid h.bN
 have H:=hid h
 clear hp
 go_enter Tryz.func158,Tryz.ntmps158
 go_wp2
 refine gX (n:=19) (by kernel_rfl) (woV N WK x F caps) [12,15] (WoAt w base st x N WK now (st.leases.filter fun l=>!p l)) ⟨none,0,0,false⟩ (by decide +kernel) (by decide +kernel) rfl ?_ ?_ ?_
 · exact⟨h.wk,h.nb,(Below.refl _ _).drew,h.own.j.drew,h.own.n.drew,fun _=>rfl,fun h=>absurd h (by decide)⟩
 · refine⟨?_,?_,?_,?_,?_,?_,?_,?_,?_,?_,?_,?_,?_,?_,?_,?_,trivial⟩
   · refine okP 0 2 fun p γ a wx _ _ hp hk=>?_
     have h1:=hk.k 0 rfl
     simp [go_sem,Oper.wp,execOp,Act.eval,h1]
     exact⟨_,rfl,rfl,hp⟩
   · refine okP 0 2 fun p γ a wx _ _ hp hk=>?_
     obtain⟨u1,h1,rfl⟩:=hk.g 0 4 rfl rfl
     simp [go_sem,Oper.wp,execOp,Act.eval,h1]
     exact⟨_,rfl,rfl,hp⟩
   · refine okP 0 2 fun p γ a wx _ _ hp hk=>?_
     obtain⟨u1,h1,rfl⟩:=hk.g 1 5 rfl rfl
     simp [go_sem,Oper.wp,execOp,Act.eval,h1]
     exact⟨_,rfl,rfl,hp⟩
   · refine okP 0 2 fun p γ a wx _ _ hp hk=>?_
     obtain⟨u1,h1,rfl⟩:=hk.g 2 6 rfl rfl
     have hc:wx.cell? ⟨WK,0,none⟩=some (.pointer (some ⟨N,0,none⟩)):=hp.wk.cell 0
     simp [go_sem,Oper.wp,execOp,Act.eval,h1,hc]
     exact⟨_,rfl,rfl,hp⟩
   · refine okP 0 2 fun p γ a wx _ _ hp hk=>?_
     have h1:=hk.k 0 rfl
     simp [go_sem,Oper.wp,execOp,Act.eval,h1]
     exact⟨_,rfl,rfl,hp⟩
   · refine okP 0 2 fun p γ a wx _ _ hp hk=>?_
     obtain⟨u1,h1,rfl⟩:=hk.g 4 8 rfl rfl
     simp [go_sem,Oper.wp,execOp,Act.eval,h1]
     exact⟨_,rfl,rfl,hp⟩
   · refine okP 0 2 fun p γ a wx _ _ hp hk=>?_
     obtain⟨u1,h1,rfl⟩:=hk.g 5 9 rfl rfl
     simp [go_sem,Oper.wp,execOp,Act.eval,h1]
     exact⟨_,rfl,rfl,hp⟩
   · refine okP 0 2 fun p γ a wx _ _ hp hk=>?_
     obtain⟨u1,h1,rfl⟩:=hk.g 6 10 rfl rfl
     have hc:wx.cell? ⟨WK,0,none⟩=some (.pointer (some ⟨N,0,none⟩)):=hp.wk.cell 0
     simp [go_sem,Oper.wp,execOp,Act.eval,h1,hc]
     exact⟨_,rfl,rfl,hp⟩
   · refine okP 0 2 fun p γ a wx _ _ hp hk=>?_
     obtain⟨u1,h1,rfl⟩:=hk.g 7 11 rfl rfl
     simp [go_sem,Oper.wp,execOp,Act.eval,h1]
     exact⟨_,rfl,rfl,hp⟩
   · refine okP 0 2 fun p γ a wx _ _ hp hk=>?_
     obtain⟨u1,h1,rfl⟩:=hk.g 8 12 rfl rfl
     simp [go_sem,Oper.wp,execOp,Act.eval,h1]
     exact⟨_,rfl,rfl,hp⟩
   · refine okP 0 0 fun p γ a wx _ _ hp hk=>?_
     obtain⟨u1,h1,rfl⟩:=hk.g 9 13 rfl rfl
     have hp0:p=0:=by omega
     subst hp0
     have hc:wx.cell? ⟨N,3,none⟩=some (.slice x.al x.nl x.cl):=hp.nb.cell 3
     simp [go_sem,Oper.wp,execOp,Act.eval,h1,hc]
     exact⟨_,rfl,rfl,hp⟩
   · refine okP 0 2 fun p γ a wx _ _ hp hk=>?_
     have h1:=hk.k 1 rfl
     simp [go_sem,Oper.wp,execOp,Act.eval,h1]
     exact⟨_,rfl,rfl,hp⟩
   · refine⟨rfl,.inl ⟨0,rfl,fun γ a wx hp hk=>?_⟩⟩
     obtain⟨u1,h1,rfl⟩:=hk.g 10 14 rfl rfl
     obtain⟨u2,h2,rfl⟩:=hk.g 11 15 rfl rfl
     simp [go_sem,Oper.wp,execOp,Act.eval,h1,h2]
     obtain rfl:=hp.here rfl
     refine (HD.out).mono ?_
     rintro e w' ⟨A',m,c',rfl,hm,ho,hg⟩
     exact⟨_,rfl,⟨A',m,c',true⟩,fun j v hj h=>KA hj h,rfl,⟨Blk.gN hp.wk hg HL.out (by decide),Blk.eq (Blk.gN hp.nb hg HL.out (by decide)) rfl,hp.below.trans (hg.below HB.out (fun q hq=>(HL.out.lt q hq).1)),bJ hp.j hg HL.out (by decide),bJ hp.n hg HL.out (by decide),fun h=>absurd h (by decide),fun _=>⟨ho,hm⟩⟩⟩
   · refine okP 0 2 fun p γ a wx _ _ hp hk=>?_
     obtain⟨u1,h1,rfl⟩:=hk.g 3 7 rfl rfl
     simp [go_sem,Oper.wp,execOp,Act.eval,h1]
     exact⟨_,rfl,rfl,hp⟩
   · refine okP 0 2 fun p γ a wx _ _ hp hk=>?_
     obtain⟨u1,h1,rfl⟩:=hk.g 13 17 rfl rfl
     simp [go_sem,Oper.wp,execOp,Act.eval,h1]
     exact⟨_,rfl,rfl,hp⟩
   · refine⟨rfl,.inl ⟨1,rfl,fun γ a wx hp hk=>?_⟩⟩
     obtain⟨u1,h1,rfl⟩:=hk.g 14 18 rfl rfl
     obtain⟨u2,h2,rfl⟩:=hk.g 12 16 rfl rfl
     have hc:wx.cell? ⟨N,3,none⟩=some (.slice x.al x.nl x.cl):=hp.nb.cell 3
     have hz:wx.frozen? ⟨N,3,none⟩=false:=hp.nb.thaw 3
     simp [go_sem,Oper.wp,execOp,Act.eval,h1,h2,hc,hz]
     exact⟨.int .i64 0,γ,fun _ _ _ h=>h,trivial,⟨aY hp.wk hp.nb (by decide),Blk.eq (hp.nb.set 3 _) rfl,hp.below.trans (aM (Below.refl _ _) HbN.out),aR hp.j hp.nb (by decide),aR hp.n hp.nb (by decide),fun h=>absurd h (by decide),fun _=>⟨aR (hp.l (by decide)).1 hp.nb (by decide),(hp.l (by decide)).2⟩⟩⟩
 · intro γ a wx hd
   have hp:=hd.ph
   obtain⟨fv,rfl,hfv⟩:=hd.frame [4,5,6,7,8,9,10,11,12,13,14,15,16,17,18] rfl
   obtain⟨ho,hm⟩:=hp.l (by decide)
   have aP:=hid (show FC base st x N WK now (st.leases.filter fun l=>!p l) w (.returned (.tuple #[])) wx from ⟨rfl,⟨⟨x.aj,x.nj,x.cj,x.an,x.nn,x.cn,γ.A,γ.m,γ.c⟩,⟨hp.nb,hp.wk,⟨hp.j,hp.n,ho,H.out.own.lj,H.out.own.ln,hm.symm⟩,H.out.bN,H.out.bW,Nat.le_trans H.out.bs hp.below.size⟩⟩,hp.below⟩)
   clear hd hp hfv ho hm
   go_wp2
   go_end0
   exact aP.out
end Go.Proofs.YtbllgmociapjeaaGreatDoor
