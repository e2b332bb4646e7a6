/- Of the proof of a statement: RowsC, PlDec, SameR. -/
import Derived.Lib.QuietBelow
import Derived.Deep.QuietTactic
import Derived.BigQuiet
import Derived.Test.YtoeejfhdjmkpcaaGreatDoorTPlSrv
set_option linter.unusedVariables false
set_option linter.unusedSimpArgs false
set_option maxRecDepth 100000
set_option maxHeartbeats 8000000
/- The walk of Rows at leases, each checked alone. -/
namespace Go.Proofs.YtoeejfhdjmkpcaaGreatDoor
open Go.Lib (hid)
open Go.RowKit
theorem mT (n lo hi:Int) (w:World):Calls Tryz.prog 154 #[.int .i64 n,.int .i64 lo,.int .i64 hi] w fun e w'=>e = .returned (.bool (ranged n lo hi))∧w=w':=by
 cases h:ranged n lo hi
 · have h:=gK.1 h
   by_cases h1:lo≤n
   · have e2:decide (n≤hi)=false:=decide_eq_false (by omega)
     clear h
     go_enter Tryz.func154,Tryz.ntmps154
     go_wp2
     go_ret
     exact⟨rfl,rfl⟩
   · have e1:decide (lo≤n)=false:=decide_eq_false h1
     clear h
     go_enter Tryz.func154,Tryz.ntmps154
     go_wp2
     go_ret
     exact⟨rfl,rfl⟩
 · have h:=bB.1 h
   have h1:=h.1
   have e2:decide (n≤hi)=true:=decide_eq_true h.2
   clear h
   go_enter Tryz.func154,Tryz.ntmps154
   go_wp2
   go_ret
   exact⟨rfl,rfl⟩
theorem uV (l:ak) (w:World) (h1:l.job.size≤9223372036854775807) (h2:l.node.size≤9223372036854775807) (hT:Tabs w) :
 Calls Tryz.prog 160 #[.agg (av l).toArray] w fun e w'=>e = .returned (.int .i64 (lsE l))∧Below w.heap.size w w':=by
 obtain⟨E,hE⟩:∃ E,lsE l=E:=⟨_,rfl⟩
 rw [hE]
 have HE:=hid hE
 clear hE
 obtain⟨job,node,till⟩:=l
 unfold av
 simp only at h1 h2 ⊢
 have hb0:Below w.heap.size w (w.alloc (.cells #[.string job,.string node,.int .i64 till] 38)):=(Below.refl _ _).alloc (Nat.le_refl _) _
 have hT0:=hT.below hb0
 have hN:=hid (eW job _ h1 hT0)
 have HT:=hid hT0
 have HB:=hid hb0
 clear hT0 hb0 hT
 go_enter Tryz.func160,Tryz.ntmps160
 go_wp2_with fail
 refine Calls.mono hN.out ?_
 rintro e w1 ⟨rfl,hb1⟩
 have y1:w1.cell? ⟨w.heap.size,1,none⟩=some (.string node):=by rw [(dD hb1).1 _ _ (by simp)]; simp [go_sem]
 have y2:w1.cell? ⟨w.heap.size,2,none⟩=some (.int .i64 till):=by rw [(dD hb1).1 _ _ (by simp)]; simp [go_sem]
 have HB1:=hid (HB.out.trans (hb1.mono HB.out.size))
 have HT1:=hid (HT.out.below hb1)
 have hsz:w.heap.size<w1.heap.size:=by have:=hb1.size; simp at this; omega
 clear hb1 HB HT hN
 cases hn:bQ job
 · go_wp2
   go_ret
   exact⟨bg (by rw [← HE.out]; simp [lsE,hn]),HB1.out⟩
 go_wp2_with fail
 refine Calls.mono (eW node w1 h2 HT1.out) ?_
 rintro e w2 ⟨rfl,hb2⟩
 replace y2:=((dD hb2).1 _ _ hsz).trans y2
 have HB2:=hid (HB1.out.trans (hb2.mono HB1.out.size))
 clear y1 hb2 HB1 HT1 hsz
 cases ht:bQ node
 · go_wp2
   go_ret
   exact⟨bg (by rw [← HE.out]; simp [lsE,hn,ht]),HB2.out⟩
 go_wp2_with fail
 refine Calls.mono (mT _ _ _ _) ?_
 rintro e w3 ⟨rfl,rfl⟩
 cases hr1:ranged till 0 1099511627776
 · go_wp2
   go_ret
   exact⟨bg (by rw [← HE.out]; simp [lsE,hn,ht,hr1]),HB2.out⟩
 · go_wp2
   go_ret
   exact⟨bg (by rw [← HE.out]; simp [lsE,hn,ht,hr1]),HB2.out⟩
def CX (xs:List ak):Prop:=∀ x ∈ xs,x.job.size≤9223372036854775807∧x.node.size≤9223372036854775807
def CY (xs:List ak) (n:Nat) (R:Int) (w:World) (i:Value) (wr:World):Prop:=∃ k:Nat,k≤n∧i = .int .i64 k∧dI lsE ak.job (prevK ak.job xs k) (xs.drop k)=R∧Below w.heap.size w wr
theorem tH (xs:List ak) (A:Option Addr) (n c:Nat) (w:World) (hx:aW w w.heap.size 3 A n (au av xs)) (hl:xs.length=n) (hn:n≤9223372036854775807) (hok:CX xs) (hT:Tabs w) :
 Calls Tryz.prog 159 #[.slice A n c,.func (.func 87) #[] #[],.func (.func 160) #[] #[]] w fun e w'=>e = .returned (.int .i64 (cE lsE ak.job xs))∧Below w.heap.size w w':=by
 obtain⟨R,hR⟩:∃ R,cE lsE ak.job xs=R:=⟨_,rfl⟩
 rw [hR]
 have HR:=hid hR
 have Hl:=hid hl
 have HT:=hid hT
 have Hok:=hid hok
 clear hl hR hT hok
 go_enter Tryz.func159,Tryz.ntmps159
 go_wp2
 go_loopw [6,7,8,9,12,19,28,35] (fun _ _ _ _ i _ _ _ wr=>CY xs n R w i wr) (fun _ _ _ _ i _ _ _ _=>n - (intOf i).toNat)
 case atStart=>exact⟨0,Nat.zero_le _,rfl,by rw [← HR.out]; rfl,Below.refl _ _⟩
 case round=>
  obtain⟨k,hk,rfl,hrow,hb⟩:=hrel
  have dX:=hid hrow
  have Hb:=hid hb
  have hsz:=hb.size
  clear hrow
  by_cases hlt:k<n
  · obtain⟨x,hf⟩:∃ x,xs[k]? = some x:=⟨_,List.getElem?_eq_getElem (by rw [Hl.out]; exact hlt)⟩
    obtain⟨b,off,rfl,hbB,hc⟩:=(hx.below hb).cV aE Hl.out hf
    have hso:=hid (Hok.out x (List.mem_of_getElem? hf))
    have Hf:=hid hf
    have hkey:x.job=ak.job x:=rfl
    obtain⟨E,hE⟩:∃ E,lsE x=E:=⟨_,rfl⟩
    have HE:=hid hE
    obtain⟨X,hX⟩:∃ X,X=x:=⟨_,rfl⟩
    have HX:=hid hX
    obtain⟨job,node,till⟩:=x
    obtain⟨c0,c1,c2⟩:=rc3 hc
    clear hc hf hE hX hkey
    have hlb:b<wr.heap.size:=by omega
    have hT1:=hid (HT.out.below (Hb.out.alloc Hb.out.size (.cells #[.string job,.string node,.int .i64 till] 38)))
    have hBa:=hid (Hb.out.alloc Hb.out.size (.cells #[.string job,.string node,.int .i64 till] 38))
    go_wp2_with fail
    refine Calls.mono (uV ⟨job,node,till⟩ _ hso.out.1 hso.out.2 hT1.out) ?_
    rintro e w1 ⟨rfl,hb1⟩
    rw [HE.out]
    have hA0:=(Below.refl wr.heap.size wr).alloc (Nat.le_refl _) (.cells #[.string job,.string node,.int .i64 till] 38)
    have hA1:=hA0.trans (hb1.mono hA0.size)
    have hB1:=hid (hBa.out.trans (hb1.mono hBa.out.size))
    by_cases he:E=0
    · subst he
      have l0:∀ d os,(Sort.grow (redrawn w1 d) os).cell? ⟨wr.heap.size,0,none⟩=some (.string job):=fun d os=>cell_regrown (by rw [(dD hb1).1 _ _ (by simp)]; simp [go_sem]) d os
      have l1:∀ d os,(Sort.grow (redrawn w1 d) os).cell? ⟨wr.heap.size,1,none⟩=some (.string node):=fun d os=>cell_regrown (by rw [(dD hb1).1 _ _ (by simp)]; simp [go_sem]) d os
      have l2:∀ d os,(Sort.grow (redrawn w1 d) os).cell? ⟨wr.heap.size,2,none⟩=some (.int .i64 till):=fun d os=>cell_regrown (by rw [(dD hb1).1 _ _ (by simp)]; simp [go_sem]) d os
      by_cases hk0:k=0
      · subst hk0
        have hst:=hid (iN (key:=ak.job) Hf.out HE.out (.inl rfl))
        clear c0 c1 c2 hb1 hx hA0 hA1
        go_wp2_with fail
        refine wp_region_quiet_below (by kernel_rfl) (by kernel_rfl) ?_
        repeat (go_big_quiet_step (fail))
        refine wpQuiet_nil ?_
        intro _ hw'
        obtain⟨⟨nq,osq⟩,hw''⟩:=hw'
        subst hw''
        have hb2:=hid (hB1.out.trans ((below_regrown w1 nq osq).mono hB1.out.size))
        clear l0 l1 l2
        dsimp only
        generalize Sort.grow (redrawn w1 nq) osq=w2 at hb2 ⊢
        go_wp2
        go_roundw
        case rel=>exact⟨1,by omega,by go_num,by rw [← hst.out]; exact dX.out,hb2.out⟩
        case measure=>simp [intOf]; omega
      · obtain⟨y,hy⟩:∃ y,xs[k - 1]? = some y:=⟨_,List.getElem?_eq_getElem (by rw [Hl.out]; omega)⟩
        obtain⟨b',off',hbo,oY,hp⟩:=(hx.below hb).cV aE Hl.out hy
        obtain⟨rfl,rfl⟩:b=b'∧off=off':=by simpa using hbo
        have Hy:=hid hy
        obtain⟨Y,hY⟩:∃ Y,Y=y:=⟨_,rfl⟩
        obtain⟨pG,E8,E9⟩:=y
        obtain⟨q0,q1,q2⟩:=rc3 hp
        have p0:∀ d os,(Sort.grow (redrawn w1 d) os).cell? ⟨b,off+(k - 1)*3,none⟩=some (.string pG):=fun d os=>cell_regrown (((dD hA1).1 _ _ hlb).trans q0) d os
        have p1:∀ d os,(Sort.grow (redrawn w1 d) os).cell? ⟨b,off+(k - 1)*3+1,none⟩=some (.string E8):=fun d os=>cell_regrown (((dD hA1).1 _ _ hlb).trans q1) d os
        have p2:∀ d os,(Sort.grow (redrawn w1 d) os).cell? ⟨b,off+(k - 1)*3+2,none⟩=some (.int .i64 E9):=fun d os=>cell_regrown (((dD hA1).1 _ _ hlb).trans q2) d os
        clear q0 q1 q2 c0 c1 c2 hp hy hY hb1 hx hA0 hA1
        have hkp:decide ((0:Int)<(k:Int))=true:=decide_eq_true (by omega)
        have hkn:0<k:=by omega
        have hlt2:=hid (dL pG.toList job.toList)
        obtain⟨B,hB⟩:∃ B,Op.bytesLess pG.toList job.toList=B:=⟨_,rfl⟩
        have HL:=hid hB
        cases B
        · have e1:(Op.bytesLess job.toList pG.toList || job.toList == pG.toList)=true:=by rw [← hlt2.out,hB]; rfl
          have hst:=hid (mE (key:=ak.job) Hf.out HE.out hk0 Hy.out HL.out)
          clear hB
          go_wp2_with fail
          refine wp_region_quiet_below (by kernel_rfl) (by kernel_rfl) ?_
          repeat (go_big_quiet_step ((go_at_call 87; exact Calls.regrown_of (dM _ _ _ _))))
          refine wpQuiet_nil ?_
          intro _ hw'
          obtain⟨⟨nq,osq⟩,hw''⟩:=hw'
          subst hw''
          have hb2:=hid (hB1.out.trans ((below_regrown w1 nq osq).mono hB1.out.size))
          clear l0 l1 l2 p0 p1 p2
          dsimp only
          generalize Sort.grow (redrawn w1 nq) osq=w2 at hb2 ⊢
          go_wp2
          go_ret
          exact⟨bg (by rw [← dX.out]; exact hst.out.symm),hb2.out⟩
        · have e1:(Op.bytesLess job.toList pG.toList || job.toList == pG.toList)=false:=by rw [← hlt2.out,hB]; rfl
          have hst:=hid (iN (key:=ak.job) Hf.out HE.out (.inr ⟨_,Hy.out,HL.out⟩))
          clear hB
          go_wp2_with fail
          refine wp_region_quiet_below (by kernel_rfl) (by kernel_rfl) ?_
          repeat (go_big_quiet_step ((go_at_call 87; exact Calls.regrown_of (dM _ _ _ _))))
          refine wpQuiet_nil ?_
          intro _ hw'
          obtain⟨⟨nq,osq⟩,hw''⟩:=hw'
          subst hw''
          have hb2:=hid (hB1.out.trans ((below_regrown w1 nq osq).mono hB1.out.size))
          clear l0 l1 l2 p0 p1 p2
          dsimp only
          generalize Sort.grow (redrawn w1 nq) osq=w2 at hb2 ⊢
          go_wp2
          go_roundw
          case rel=>exact⟨k+1,by omega,by go_num,by rw [← hst.out]; exact dX.out,hb2.out⟩
          case measure=>simp [intOf]; omega
    · have hst:=hid (qp (E:=lsE) (key:=ak.job) Hf.out (by rw [HE.out]; exact he))
      have e1:(E == 0)=false:=beq_eq_false_iff_ne.2 he
      have e2:(E != 0)=true:=bne_iff_ne.2 he
      clear c0 c1 c2 hb1 hx hA0 hA1
      go_wp2
      go_ret
      exact⟨bg (by rw [← dX.out,hst.out]; exact HE.out.symm),hB1.out⟩
  · obtain rfl:k=n:=by omega
    have fin:=hid (show R=0 by rw [← dX.out]; exact qw (by rw [Hl.out]; exact Nat.le_refl _) _)
    clear hb hx
    go_wp2
    go_ret
    exact⟨bg fin.out.symm,Hb.out⟩
end Go.Proofs.YtoeejfhdjmkpcaaGreatDoor
/- Reading a frame: plain. -/
namespace Go.Proofs.YtoeejfhdjmkpcaaGreatDoor
open Go.Lib (hid)
def aO (s:ByteArray) (i:Nat):Nat:=(s.data.toList.getD i 0).toNat
theorem Cb {s:ByteArray} {i:Nat} (h:i<s.size):aO s i=s[i].toNat:=by
 unfold aO
 rw [List.getD_eq_getElem?_getD,List.getElem?_eq_getElem (by simpa using h)]
 rfl
theorem Cd (s:ByteArray) (i:Nat):aO s i<256:=(s.data.toList.getD i 0).toNat_lt
def jN (s:ByteArray):Nat:=
 if 0<s.size∧aO s 0≠66 then 4
 else if 1<s.size∧aO s 1≠75 then 4
 else if 2<s.size∧(aO s 2<1∨3<aO s 2) then 1
 else if 3<s.size∧(aO s 3<1∨4<aO s 3) then 1
 else if s.size<4 then 3 else 0
structure ji (s:ByteArray) (k:Nat):Prop where
 h0:0<k→0<s.size∧aO s 0=66
 h1:1<k→1<s.size∧aO s 1=75
 h2:2<k→2<s.size∧1≤aO s 2∧aO s 2≤3
 h3:3<k→3<s.size∧1≤aO s 3∧aO s 3≤4
theorem ji.zero (s:ByteArray):ji s 0:=⟨fun h=>absurd h (by omega),fun h=>absurd h (by omega),fun h=>absurd h (by omega),fun h=>absurd h (by omega)⟩
section
variable {s:ByteArray}
theorem In (h:0<s.size) (hb:aO s 0≠66):jN s=4:=by unfold jN; rw [if_pos ⟨h,hb⟩]
theorem Io (ht:ji s 1) (h:1<s.size) (hb:aO s 1≠75):jN s=4:=by
 have:=ht.h0 (by omega)
 unfold jN; rw [if_neg (by omega),if_pos ⟨h,hb⟩]
theorem Ip (ht:ji s 2) (h:2<s.size) (hb:aO s 2<1∨3<aO s 2):jN s=1:=by
 have:=ht.h0 (by omega)
 have:=ht.h1 (by omega)
 unfold jN; rw [if_neg (by omega),if_neg (by omega),if_pos ⟨h,hb⟩]
theorem Iq (ht:ji s 3) (h:3<s.size) (hb:aO s 3<1∨4<aO s 3):jN s=1:=by
 have:=ht.h0 (by omega)
 have:=ht.h1 (by omega)
 have:=ht.h2 (by omega)
 unfold jN; rw [if_neg (by omega),if_neg (by omega),if_neg (by omega),if_pos ⟨h,hb⟩]
theorem Au {k:Nat} (ht:ji s k) (hk:s.size≤k) (h:s.size<4):jN s=3:=by
 have a0:=ht.h0
 have a1:=ht.h1
 have a2:=ht.h2
 have a3:=ht.h3
 unfold jN
 rw [if_neg (by omega),if_neg (by omega),if_neg (by omega),if_neg (by omega),if_pos h]
theorem FT (ht:ji s 4):jN s=0∧4≤s.size:=by
 have a0:=ht.h0 (by omega)
 have a1:=ht.h1 (by omega)
 have a2:=ht.h2 (by omega)
 have a3:=ht.h3 (by omega)
 unfold jN
 rw [if_neg (by omega),if_neg (by omega),if_neg (by omega),if_neg (by omega),if_neg (by omega)]
 exact⟨rfl,by omega⟩
end
structure cY where
 ver:Nat
 kind:Nat
 pay:ByteArray
def cY.zero:cY:=⟨0,0,⟨#[]⟩⟩
def gD (s:ByteArray):cY × Nat × Nat:=
 if jN s=0 then
  match rdNum (s.extract 4 s.size) with
  | (n,k,e)=>
   if e=0 then
    if 6000<n then (.zero,0,2)
    else if s.size<8+k+n then (.zero,0,3)
    else if (s.extract (4+k+n) (8+k+n)).data.toList=lL (s.extract 0 (4+k+n)).data.toList then (⟨aO s 2,aO s 3,s.extract (4+k) (4+k+n)⟩,8+k+n,0)
    else (.zero,0,5)
   else (.zero,0,e)
 else (.zero,0,jN s)
section
variable {s:ByteArray} {n k e:Nat}
theorem Cc {c:Nat} (h:jN s=c) (hc:c≠0):gD s=(.zero,0,c):=by subst h; unfold gD; rw [if_neg hc]
theorem DZ (h:jN s=0) (hr:rdNum (s.extract 4 s.size)=(n,k,e)) (he:e≠0):gD s=(.zero,0,e):=by unfold gD; rw [if_pos h,hr]; simp only; rw [if_neg he]
theorem Av (h:jN s=0) (hr:rdNum (s.extract 4 s.size)=(n,k,0)) (hn:6000<n):gD s=(.zero,0,2):=by unfold gD; rw [if_pos h,hr]; simp only; rw [if_pos trivial,if_pos hn]
theorem Aw (h:jN s=0) (hr:rdNum (s.extract 4 s.size)=(n,k,0)) (hn:¬ 6000<n) (hs:s.size<8+k+n):gD s=(.zero,0,3):=by unfold gD; rw [if_pos h,hr]; simp only; rw [if_pos trivial,if_neg hn,if_pos hs]
theorem DY (h:jN s=0) (hr:rdNum (s.extract 4 s.size)=(n,k,0)) (hn:¬ 6000<n) (hs:¬ s.size<8+k+n) (hm:¬ (s.extract (4+k+n) (8+k+n)).data.toList=lL (s.extract 0 (4+k+n)).data.toList):gD s=(.zero,0,5):=by unfold gD; rw [if_pos h,hr]; simp only; rw [if_pos trivial,if_neg hn,if_neg hs,if_neg hm]
theorem xZ (h:jN s=0) (hr:rdNum (s.extract 4 s.size)=(n,k,0)) (hn:¬ 6000<n) (hs:¬ s.size<8+k+n) (hm:(s.extract (4+k+n) (8+k+n)).data.toList=lL (s.extract 0 (4+k+n)).data.toList):gD s=(⟨aO s 2,aO s 3,s.extract (4+k) (4+k+n)⟩,8+k+n,0):=by unfold gD; rw [if_pos h,hr]; simp only; rw [if_pos trivial,if_neg hn,if_neg hs,if_pos hm]
end
end Go.Proofs.YtoeejfhdjmkpcaaGreatDoor
/- The walk of the reference's Same. -/
namespace Go.Proofs.YtoeejfhdjmkpcaaGreatDoor
open Go.Lib (hid)
open Go.RowKit
def kU (st st':ah) (w:World) (e:Ending) (w':World):Prop:=∃ t:Bool,e = .returned (.bool t)∧(t=true↔st=st')∧Below w.heap.size w w'
theorem kU.no {st st':ah} {w w':World} (h:st≠st') (hb:Below w.heap.size w w'):kU st st' w (.returned (.bool false)) w':=⟨false,rfl,⟨fun h=>(by cases h),fun h'=>absurd h' h⟩,hb⟩
theorem StAt.up {w w':World} {st:ah} {x:StA} (hS:StAt w w.heap.size st x) (hb:Below w.heap.size w w'):StAt w' w'.heap.size st x:=(hS.below hb).more hb.size
theorem aW.up {w w':World} {sz n:Nat} {A:Option Addr} {xs:List Value} (h:aW w w.heap.size sz A n xs) (hb:Below w.heap.size w w'):aW w' w'.heap.size sz A n xs:=(h.below hb).more hb.size
theorem Fa (st st':ah) (x x':StA) (w:World) (hS:StAt w w.heap.size st x) (hS':StAt w w.heap.size st' x') :
 Calls Tryz.prog 15 #[.agg (stC st x),.agg (stC st' x')] w (kU st st' w):=by
 have hb1:Below w.heap.size w (w.alloc (.cells (stC st x) 26)):=(Below.refl _ _).alloc (Nat.le_refl _) _
 have hb2:=hb1.alloc hb1.size (.cells (stC st' x') 26)
 have HA:=hid (show Blk ((w.alloc (.cells (stC st x) 26)).alloc (.cells (stC st' x') 26)) w.heap.size 26 (stC st x) from Blk.alloc (show Blk _ _ _ _ from heap_alloc_new w _) _)
 have HB:=hid (show Blk ((w.alloc (.cells (stC st x) 26)).alloc (.cells (stC st' x') 26)) (w.heap.size+1) 26 (stC st' x') from by
  have h:=heap_alloc_new (w.alloc (.cells (stC st x) 26)) (.cells (stC st' x') 26)
  rwa [show (w.alloc (.cells (stC st x) 26)).heap.size=w.heap.size+1 by simp] at h)
 have Hb2:=hid hb2
 have HS:=hid hS
 have HS':=hid hS'
 clear hb1 hb2 hS hS'
 obtain⟨rev,jobs,nodes,leases⟩:=st
 obtain⟨aj,nj,cj,an,nn,cn,al,nl,cl⟩:=x
 obtain⟨IM,zO,nodes',qH⟩:=st'
 obtain⟨aj',nj',cj',an',nn',cn',al',nl',cl'⟩:=x'
 unfold stC at *
 dsimp only at *
 by_cases hr:rev=IM
 rotate_left
 · have e1:(rev == IM)=false:=beq_eq_false_iff_ne.2 hr
   have hend:=hid (kU.no (st:=⟨rev,jobs,nodes,leases⟩) (st':=⟨IM,zO,nodes',qH⟩) (fun h=>hr (by injection h)) Hb2.out)
   clear hr
   go_enter Tryz.func15,Tryz.ntmps15
   go_wp2
   go_ret
   exact hend.out
 subst hr
 have C1:=hid (Il jobs zO aj aj' nj nj' cj cj' _ (HS.out.j.up Hb2.out) (HS'.out.j.up Hb2.out) HS.out.lj HS'.out.lj HS.out.bj HS'.out.bj)
 have C2:=hid (fun W (hb:Below w.heap.size w W)=>FQ nodes nodes' an an' nn nn' cn cn' W (HS.out.n.up hb) (HS'.out.n.up hb) HS.out.ln HS'.out.ln HS.out.bn HS'.out.bn)
 have C3:=hid (fun W (hb:Below w.heap.size w W)=>DX leases qH al al' nl nl' cl cl' W (HS.out.l.up hb) (HS'.out.l.up hb) HS.out.ll HS'.out.ll HS.out.bl HS'.out.bl)
 go_enter Tryz.func15,Tryz.ntmps15
 go_wp2_with fail
 refine Calls.mono C1.out ?_
 rintro e w1 ⟨t,rfl,ht,hb⟩
 have hbA:=Hb2.out.trans (hb.mono Hb2.out.size)
 cases t
 · have hend:=hid (kU.no (st:=⟨rev,jobs,nodes,leases⟩) (st':=⟨rev,zO,nodes',qH⟩) (fun h=>absurd (ht.2 (by injection h)) (by decide)) hbA)
   clear ht hb hbA
   go_wp2
   go_ret
   exact hend.out
 have Hj:=hid (ht.1 rfl)
 have HA1:=hid (HA.out.below hb HA.out.lt)
 have HB1:=hid (HB.out.below hb HB.out.lt)
 have HbA:=hid hbA
 have y2:w1.cell? ⟨w.heap.size,2,none⟩=some (.slice an nn cn):=HA1.out.cell 2
 have z2:w1.cell? ⟨w.heap.size+1,2,none⟩=some (.slice an' nn' cn'):=HB1.out.cell 2
 clear ht hb hbA HA HB C1
 go_wp2_with fail
 refine Calls.mono (C2.out _ HbA.out) ?_
 rintro e w2 ⟨t,rfl,ht,hb⟩
 have hbA:=HbA.out.trans (hb.mono HbA.out.size)
 cases t
 · have hend:=hid (kU.no (st:=⟨rev,jobs,nodes,leases⟩) (st':=⟨rev,zO,nodes',qH⟩) (fun h=>absurd (ht.2 (by injection h)) (by decide)) hbA)
   clear ht hb hbA
   go_wp2
   go_ret
   exact hend.out
 have Hn:=hid (ht.1 rfl)
 have HA2:=hid (HA1.out.below hb HA1.out.lt)
 have HB2:=hid (HB1.out.below hb HB1.out.lt)
 have HbB:=hid hbA
 clear y2 z2
 have y3:w2.cell? ⟨w.heap.size,3,none⟩=some (.slice al nl cl):=HA2.out.cell 3
 have z3:w2.cell? ⟨w.heap.size+1,3,none⟩=some (.slice al' nl' cl'):=HB2.out.cell 3
 clear ht hb hbA HA1 HB1 C2
 go_wp2_with fail
 refine Calls.mono (C3.out _ HbB.out) ?_
 rintro e w3 ⟨t,rfl,ht,hb⟩
 have hbA:=HbB.out.trans (hb.mono HbB.out.size)
 have hend:=hid (show kU ⟨rev,jobs,nodes,leases⟩ ⟨rev,zO,nodes',qH⟩ w (.returned (.bool t)) w3 from ⟨t,rfl,⟨fun h=>by rw [Hj.out,Hn.out,ht.1 h],fun h=>ht.2 (by injection h)⟩,hbA⟩)
 clear ht hb hbA
 go_wp2
 go_ret
 exact hend.out
end Go.Proofs.YtoeejfhdjmkpcaaGreatDoor
