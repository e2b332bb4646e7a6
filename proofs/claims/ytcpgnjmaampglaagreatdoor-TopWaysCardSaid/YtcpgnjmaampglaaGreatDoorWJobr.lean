/- Of the proof of a statement: Jobr. -/
import Derived.Test.YtcpgnjmaampglaaGreatDoorWJtxt
import Derived.Test.YtcpgnjmaampglaaGreatDoorWSvOwn
set_option linter.unusedVariables false
set_option linter.unusedSimpArgs false
set_option maxRecDepth 100000
set_option maxHeartbeats 8000000
/- The walk of the program's reader of JSON: object. -/
namespace Go.Proofs.YtcpgnjmaampglaaGreatDoor
open Go.Lib (hid)
open List (foldl_cons foldl_nil setIfInBounds_toArray set_cons_succ set_cons_zero)
open Go.RowKit
open Go.Lib (hasPrefix trimPrefix)
def fvV:FV→Value
 | .num n=>.int .i64 n
 | .txt s=>.string s
def fsV (fs:bY):Array Value:=(fs.map fun f=>fvV f.2).toArray
theorem CJ {fs:bY} {k:Nat} {f:ByteArray × FV} (h:fs[k]? = some f):(fsV fs)[k]? = some (fvV f.2):=by
 unfold fsV
 rw [List.getElem?_toArray,List.getElem?_map,h]; rfl
theorem yt (a r:bY) (f f':ByteArray × FV):(fsV (a ++ f :: r)).setIfInBounds a.length (fvV f'.2)=fsV (a ++ f' :: r):=by
 unfold fsV
 rw [List.setIfInBounds_toArray]
 congr 1
 rw [List.map_append,List.map_append,List.map_cons,List.map_cons,List.set_append_right _ _ (by simp)]
 simp
def ptrP (X k:Nat):FV→Value
 | .num _=>.pointer (some ⟨X,k,none⟩)
 | .txt _=>.pointer none
def ptrQ (X k:Nat):FV→Value
 | .num _=>.pointer none
 | .txt _=>.pointer (some ⟨X,k,none⟩)
structure zL (w:World) (fb X:Nat) (fs:bY):Prop where
 at_:∀ k nm v,fs[k]? = some (nm,v)→w.cell? ⟨fb,k*3,none⟩=some (.string nm)∧w.cell? ⟨fb,k*3+1,none⟩=some (ptrP X k v)∧w.cell? ⟨fb,k*3+2,none⟩=some (ptrQ X k v)
theorem zL.two {w w':World} {fb X g:Nat} {fs:bY} (h:zL w fb X fs) (ht:Two w w' g X) (h1:fb≠g) (h2:fb≠X):zL w' fb X fs:=
 ⟨fun k nm v hk=>by
  obtain⟨a,b,c⟩:=h.at_ k nm v hk
  have e:=ht.block fb (block_lt_of_cell a) h1 h2
  exact⟨(World.cell?_of_block e).trans a,(World.cell?_of_block e).trans b,(World.cell?_of_block e).trans c⟩⟩
theorem lD.two {w w':World} {g X:Nat} (h:lD w g) (ht:Two w w' g X) (h1 : 2 ≠ X) (h2 : 3 ≠ X):lD w' g:=by
 obtain⟨⟨t,p,a⟩,⟨t',p',b⟩,c,d⟩:=h
 exact⟨⟨t,p,(World.cell?_of_block (ht.block _ (block_lt_of_cell a) c h1)).trans a⟩,⟨t',p',(World.cell?_of_block (ht.block _ (block_lt_of_cell b) d h2)).trans b⟩,c,d⟩
structure P3 (w0:World) (g X fb:Nat) (T:TypeId) (fs:bY) (a:bY) (k:Nat) (σ:JS) (w:World):Prop where
 rd:fK w g σ
 x:Blk w X T (fsV (a ++ fs.drop k))
 two:Two w0 w g X
 len:a.length=k
theorem fK.up {w w':World} {g:Nat} {σ:JS} (h:fK w g σ) (hb:Below w.heap.size w w'):fK w' g σ:=⟨Blk.below h.at_ hb h.at_.lt,h.err.grow (aG g hb),h.len⟩
theorem fK.other {w w':World} {g X:Nat} {σ:JS} (h:fK w g σ) (hg:w.grownBy w' (some X)) (h1:g≠X) (h2 : 2 ≠ X) (h3 : 3 ≠ X):fK w' g σ:=by
 obtain⟨⟨t,p,a⟩,⟨t',p',b⟩,c,d⟩:=h.err
 exact⟨aA hg h.at_ h1,⟨⟨t,p,uB hg h2 a⟩,⟨t',p',uB hg h3 b⟩,c,d⟩,h.len⟩
structure O8 (w0:World) (g X J:Nat) (T:TypeId) (csJ:Array Value) (σ σ':JS) (xs xs':Array Value) (p:Nat) (w:World):Prop where
 rd:fK w g (if p=0 then σ else σ')
 x:Blk w X T (if p<2 then xs else xs')
 j:Blk w J 180 csJ
 two:Two w0 w g X
def o8V (g X k J:Nat) (c:Nat) (val:Value):Nat→Value→Prop
 | 0,u=>u = .pointer (some ⟨J,c,none⟩)
 | 1,u=>u = .pointer (some ⟨X,k,none⟩)
 | 2,u=>u = .pointer (some ⟨g,0,none⟩)
 | 3,u=>u=val
 | 4,u=>u = .pointer (some ⟨X,k,none⟩)
 | 5,_=>True
 | _,_=>False
def QX (w0:World) (g X fb:Nat) (T:TypeId) (fs:bY) (σ0:JS) (n:Nat) (i:Value) (wr:World):Prop:=
 ∃ k:Nat,k≤n∧i = .int .i64 k∧P3 w0 g X fb T fs ((fs.take k).foldl jf ([],aX [123] σ0)).1 k ((fs.take k).foldl jf ([],aX [123] σ0)).2 wr
theorem Two.drew {w w':World} {a b:Nat} (h:Two w w' a b):Two w w'.drew a b:=⟨h.os,h.tape,h.output,h.size,h.block⟩
theorem nK {α:Type} {l:List α} {k:Nat} {c:α} (h:l[k]? = some c):l.take (k+1)=l.take k ++ [c]:=by
 obtain⟨hlt,rfl⟩:=List.getElem?_eq_some_iff.1 h
 exact (List.take_append_getElem hlt).symm
theorem jJ (g:Nat) (σ:JS) (fb X n:Nat) (T:TypeId) (fs:bY) (w:World) (h:fK w g σ) (hX:Blk w X T (fsV fs)) (hF:zL w fb X fs) (hn:fs.length=n) (h5:n≤5) (hnm:∀ f ∈ fs,f.1.size≤100)
 (hXg:X≠g) (hfg:fb≠g) (hfX:fb≠X) (hE1 : 2 ≠ X) (hE2 : 3 ≠ X) :
 Calls Tryz.prog 95 #[.pointer (some ⟨g,0,none⟩),.slice (some ⟨fb,0,none⟩) n n] w fun e w'=>e = .returned (.tuple #[])∧fK w' g (eG fs σ).2∧Blk w' X T (fsV (eG fs σ).1)∧Two w w' g X:=by
 have HM0:=hid (dB g σ ⟨#[123]⟩ w h)
 rw [show (⟨#[123]⟩:ByteArray).data.toList=[123] from rfl] at HM0
 have hgX:g≠X:=Ne.symm hXg
 have HX0:=hid hX
 have HF:=hid hF
 have HN:=hid hnm
 have Hn:=hid hn
 clear h hX hF hnm hn
 go_enter Tryz.func95,Tryz.ntmps95
 go_wp2_with fail
 refine Calls.mono HM0.out ?_
 rintro e w1 ⟨rfl,hR1,hg1⟩
 have HO1:=hid (show P3 w g X fb T fs [] 0 (aX [123] σ) w1 from ⟨hR1,by rw [List.drop_zero,List.nil_append]; exact aA hg1 HX0.out hXg,(Two.refl w g X).fst hg1,rfl⟩)
 clear hR1 hg1 HM0
 go_wp2_with fail
 go_loopw [10] (fun i wr=>QX w g X fb T fs σ n i wr) (fun i _=>n - (intOf i).toNat)
 case atStart=>exact⟨0,Nat.zero_le _,rfl,HO1.out⟩
 case round=>
  clear HO1
  obtain⟨k,hk,rfl,hO⟩:=hrel
  obtain⟨⟨a1,a2⟩,ha⟩:∃ a,(fs.take k).foldl jf ([],aX [123] σ)=a:=⟨_,rfl⟩
  rw [ha] at hO
  replace hO:P3 w g X fb T fs a1 k a2 wr:=hO
  by_cases hlt:k<n
  · obtain⟨⟨nm,v⟩,hf⟩:∃ f,fs[k]? = some f:=⟨_,List.getElem?_eq_getElem (by have:=Hn.out; omega)⟩
    have hsz:nm.size≤100:=HN.out _ (List.mem_of_getElem? hf)
    obtain⟨x0,x1,x2⟩:=(HF.out.two hO.two hfg hfX).at_ k nm v hf
    have hfl:=block_lt_of_cell x0
    have HL:=hid hO.len
    cases v with
    | num x=>
     replace x1:wr.cell? ⟨fb,k*3+1,none⟩=some (.pointer (some ⟨X,k,none⟩)):=x1
     replace x2:wr.cell? ⟨fb,k*3+2,none⟩=some (.pointer none):=x2
     have HJ:=hid (show Blk (wr.alloc (.cells #[.string nm,.pointer (some ⟨X,k,none⟩),.pointer none] 180)) wr.heap.size 180 #[.string nm,.pointer (some ⟨X,k,none⟩),.pointer none] from heap_alloc_new wr _)
     have HR1:=hid (hO.rd.up ((Below.refl wr.heap.size wr).alloc (Nat.le_refl _) (.cells #[.string nm,.pointer (some ⟨X,k,none⟩),.pointer none] 180)))
     by_cases hk0:k=0
     · skip
       subst hk0
       simp only [Nat.zero_mul,Nat.zero_add] at x0 x1 x2
       obtain⟨σA,hσA⟩:∃ σA,(if a1=[] then a2 else aX [44] a2)=σA:=⟨_,rfl⟩
       obtain⟨σB,hσB⟩:∃ σB,aX (aV nm.data.toList ++ [58]) σA=σB:=⟨_,rfl⟩
       have Hst:=hid (show (fs.take (0+1)).foldl jf ([],aX [123] σ)=(a1 ++ [(nm,.num (bC σB).1)],(bC σB).2) from by
        rw [nK hf,List.foldl_append,ha]
        show jf (a1,a2) (nm,.num x)=_
        unfold jf
        simp only
        rw [hσA,hσB]
        rfl)
       have hA:σA=a2:=by rw [← hσA,if_pos (List.length_eq_zero_iff.1 hO.len)]
       subst hA
       have hX1:(fsV (a1 ++ fs.drop 0))[0]? = some (.int .i64 x):=by
        have:=CJ (fs:=a1 ++ fs.drop 0) (k:=0) (f:=(nm,.num x)) (by rw [List.getElem?_append_right (by rw [hO.len]; exact Nat.le_refl _),hO.len,Nat.sub_self,List.getElem?_drop,Nat.add_zero]; exact hf)
        exact this
       have hX2:(fsV (a1 ++ fs.drop 0)).setIfInBounds 0 (.int .i64 (bC σB).1)=fsV ((a1 ++ [(nm,.num (bC σB).1)]) ++ fs.drop (0+1)):=by
        have:=yt a1 (fs.drop (0+1)) (nm,.num x) (nm,.num (bC σB).1)
        rw [hO.len,← drop_cons hf] at this
        rw [List.append_assoc]
        exact this
       obtain⟨xs,hxs⟩:∃ xs,fsV (a1 ++ fs.drop 0)=xs:=⟨_,rfl⟩
       obtain⟨xs2,qS⟩:∃ xs2,fsV ((a1 ++ [(nm,.num (bC σB).1)]) ++ fs.drop (0+1))=xs2:=⟨_,rfl⟩
       have HXx:=hid (show Blk wr X T xs from by rw [← hxs]; exact hO.x)
       rw [hxs] at hX1
       rw [hxs,qS] at hX2
       have Gf:=hid qS
       have HX1:=hid hX1
       have HX2:=hid hX2
       have HT1:=hid (hO.two.snd (aG X ((Below.refl wr.heap.size wr).alloc (Nat.le_refl _) (.cells #[.string nm,.pointer (some ⟨X,0,none⟩),.pointer none] 180))))
       have HB1:=hid (Blk.alloc HXx.out (.cells #[.string nm,.pointer (some ⟨X,0,none⟩),.pointer none] 180))
       have hgl:=Blk.lt hO.rd.at_
       have hXl:=hO.x.lt
       have Gg:=hid hσB
       clear hX1 hX2 hxs qS hO hσA hσB ha hf
       have c0:=HJ.out.cell 0
       simp only [List.getElem?_toArray,List.getElem?_cons_zero] at c0
       obtain⟨w2,hw2⟩:∃ w2,wr.alloc (.cells #[.string nm,.pointer (some ⟨X,0,none⟩),.pointer none] 180)=w2:=⟨_,rfl⟩
       rw [hw2] at HJ HR1 HT1 HB1 c0
       have HQ:=hid (kR nm w2 (by omega))
       have HR2:=HR1
       have HT2:=HT1
       have HB2:=HB1
       have HJ2:=HJ
       have Hw2:=hid hw2
       clear hw2
       go_wp2_with fail
       rw [Hw2.out]
       refine Calls.mono HQ.out ?_
       clear c0 x0 x1 x2
       rintro e w3 ⟨rfl,hb3⟩
       have hq1:(⟨(aV nm.data.toList).toArray⟩:ByteArray).size≤602:=by show (aV nm.data.toList).toArray.size≤602; rw [List.size_toArray]; exact dZ nm hsz
       obtain⟨qs,hqs⟩:∃ qs,(⟨(aV nm.data.toList).toArray⟩:ByteArray)=qs:=⟨_,rfl⟩
       have Hqs:=hid (show (qs ++ ⟨#[58]⟩:ByteArray).data.toList=aV nm.data.toList ++ [58] from by rw [← hqs,ByteArray.toList_data_append])
       rw [hqs] at hq1 ⊢
       have hadd:¬ 9223372036854775807<qs.size+1:=by omega
       have HM2:=hid (dB g σA (qs ++ ⟨#[58]⟩) w3 (HR2.out.up hb3))
       rw [Hqs.out,Gg.out] at HM2
       have HT3:=hid (HT2.out.snd (aG X hb3))
       have HB3:=hid (HB2.out.below hb3 HB2.out.lt)
       have HJ3:=hid (HJ2.out.below hb3 HJ2.out.lt)
       clear hb3 hqs
       go_wp2_with fail
       refine Calls.mono HM2.out ?_
       rintro e w4 ⟨rfl,hR4,hg4⟩
       have NR:g<w4.heap.size:=hR4.at_.lt
       have hO8:=hid (show O8 w g X wr.heap.size T #[.string nm,.pointer (some ⟨X,0,none⟩),.pointer none] σB (bC σB).2 xs xs2 0 w4.drew from ⟨hR4.drew,(show Blk w4 X T _ from aA hg4 HB3.out hXg),(show Blk w4 wr.heap.size _ _ from aA hg4 HJ3.out (Nat.ne_of_gt hgl)),(HT3.out.fst hg4).drew⟩)
       have c1:=(aA hg4 HJ3.out (Nat.ne_of_gt hgl)).cell 1
       simp only [List.getElem?_toArray,List.getElem?_cons_zero,List.getElem?_cons_succ] at c1
       clear hR4 hg4 HM2 HQ hadd hq1
       go_wp2_with fail
       clear c1
       refine bO (Γ:=Unit) (n:=41) (by kernel_rfl) (fun _=>o8V g X 0 wr.heap.size 1 (.int .i64 (bC σB).1)) [3,5] (fun p _ w'=>O8 w g X wr.heap.size T #[.string nm,.pointer (some ⟨X,0,none⟩),.pointer none] σB (bC σB).2 xs xs2 p w') () (by decide +kernel) (by decide +kernel) rfl ?_ ?_ ?_
       · exact hO8.out
       · refine⟨?_,?_,?_,?_,?_,?_,trivial⟩
         · refine okP 0 2 fun p γ a wx _ _ hp hk=>?_
           have h1:=hk.k 5 rfl
           simp [go_sem,Oper.wp,execOp,Act.eval,h1]
           exact⟨_,rfl,rfl,hp⟩
         · refine okP 0 2 fun p γ a wx _ _ hp hk=>?_
           obtain⟨u1,h1,rfl⟩:=hk.g 0 28 rfl rfl
           have hc:wx.cell? ⟨wr.heap.size,1,none⟩=some (.pointer (some ⟨X,0,none⟩)):=hp.j.cell 1
           simp [go_sem,Oper.wp,execOp,Act.eval,h1,hc]
           exact⟨_,rfl,rfl,hp⟩
         · refine okP 0 2 fun p γ a wx _ _ hp hk=>?_
           have h1:=hk.k 0 rfl
           simp [go_sem,Oper.wp,execOp,Act.eval,h1]
           exact⟨_,rfl,rfl,hp⟩
         · refine⟨rfl,.inl ⟨0,rfl,fun γ a wx hp hk=>?_⟩⟩
           obtain⟨u1,h1,rfl⟩:=hk.g 2 30 rfl rfl
           simp [go_sem,Oper.wp,execOp,Act.eval,h1]
           refine (qy g σB wx hp.rd).mono ?_
           rintro e w' ⟨rfl,hR,hg⟩
           exact⟨_,rfl,rfl,⟨hR,aA hg hp.x hXg,aA hg hp.j (Nat.ne_of_gt hgl),hp.two.fst hg⟩⟩
         · refine okP 1 2 fun p γ a wx _ _ hp hk=>?_
           obtain⟨u1,h1,rfl⟩:=hk.g 1 29 rfl rfl
           simp [go_sem,Oper.wp,execOp,Act.eval,h1]
           exact⟨_,rfl,rfl,hp⟩
         · refine⟨rfl,.inl ⟨1,rfl,fun γ a wx hp hk=>?_⟩⟩
           obtain⟨u1,h1,rfl⟩:=hk.g 4 32 rfl rfl
           obtain⟨u2,h2,rfl⟩:=hk.g 3 31 rfl rfl
           have hc:wx.cell? ⟨X,0,none⟩=some (.int .i64 x):=(hp.x.cell 0).trans HX1.out
           have hz:wx.frozen? ⟨X,0,none⟩=false:=hp.x.thaw 0
           have hs:=aC wx X 0 (.int .i64 (bC σB).1)
           have HN:O8 w g X wr.heap.size T #[.string nm,.pointer (some ⟨X,0,none⟩),.pointer none] σB (bC σB).2 xs xs2 2 (wx.setCell ⟨X,0,none⟩ (.int .i64 (bC σB).1)):=⟨hp.rd.other hs hgX hE1 hE2,Blk.eq (hp.x.set 0 _) HX2.out,aA hs hp.j (Nat.ne_of_gt hXl),hp.two.snd hs⟩
           simp [go_sem,Oper.wp,execOp,Act.eval,h1,h2,hc,hz]
           exact⟨⟨.tuple #[],trivial⟩,HN⟩
       · intro γ a wx hd
         have hp:=hd.ph
         obtain⟨fv,rfl,hfv⟩:=hd.frame [28,29,30,31,32] rfl
         have Hp:=hid hp
         clear hd hp hfv hO8
         simp only [foldl_cons,foldl_nil,setIfInBounds_toArray,set_cons_succ,set_cons_zero]
         go_wp2_with fail
         go_roundw
         case rel=>exact⟨0+1,by omega,by go_num,by rw [Hst.out]; exact⟨Hp.out.rd,(by rw [Gf.out]; exact Hp.out.x),Hp.out.two,by rw [List.length_append,HL.out]; rfl⟩⟩
         case measure=>simp [intOf]; omega
     · skip
       have hk0:¬ k=0:=hk0
       have Hk0:=hid hk0
       have dk:decide ((0:Int)<(k:Int))=true:=decide_eq_true (by omega)
       obtain⟨σA,hσA⟩:∃ σA,(if a1=[] then a2 else aX [44] a2)=σA:=⟨_,rfl⟩
       obtain⟨σB,hσB⟩:∃ σB,aX (aV nm.data.toList ++ [58]) σA=σB:=⟨_,rfl⟩
       have Hst:=hid (show (fs.take (k+1)).foldl jf ([],aX [123] σ)=(a1 ++ [(nm,.num (bC σB).1)],(bC σB).2) from by
        rw [nK hf,List.foldl_append,ha]
        show jf (a1,a2) (nm,.num x)=_
        unfold jf
        simp only
        rw [hσA,hσB]
        rfl)
       have hA:aX [44] a2=σA:=by rw [← hσA,if_neg (fun e=>hk0 (by rw [← hO.len,e]; rfl))]
       have HM:=hid (dB g a2 ⟨#[44]⟩ (wr.alloc (.cells #[.string nm,.pointer (some ⟨X,k,none⟩),.pointer none] 180)) HR1.out)
       rw [show aX (⟨#[44]⟩:ByteArray).data.toList a2=σA from hA] at HM
       have hX1:(fsV (a1 ++ fs.drop k))[k]? = some (.int .i64 x):=by
        have:=CJ (fs:=a1 ++ fs.drop k) (k:=k) (f:=(nm,.num x)) (by rw [List.getElem?_append_right (by rw [hO.len]; exact Nat.le_refl _),hO.len,Nat.sub_self,List.getElem?_drop,Nat.add_zero]; exact hf)
        exact this
       have hX2:(fsV (a1 ++ fs.drop k)).setIfInBounds k (.int .i64 (bC σB).1)=fsV ((a1 ++ [(nm,.num (bC σB).1)]) ++ fs.drop (k+1)):=by
        have:=yt a1 (fs.drop (k+1)) (nm,.num x) (nm,.num (bC σB).1)
        rw [hO.len,← drop_cons hf] at this
        rw [List.append_assoc]
        exact this
       obtain⟨xs,hxs⟩:∃ xs,fsV (a1 ++ fs.drop k)=xs:=⟨_,rfl⟩
       obtain⟨xs2,qS⟩:∃ xs2,fsV ((a1 ++ [(nm,.num (bC σB).1)]) ++ fs.drop (k+1))=xs2:=⟨_,rfl⟩
       have HXx:=hid (show Blk wr X T xs from by rw [← hxs]; exact hO.x)
       rw [hxs] at hX1
       rw [hxs,qS] at hX2
       have Gf:=hid qS
       have HX1:=hid hX1
       have HX2:=hid hX2
       have HT1:=hid (hO.two.snd (aG X ((Below.refl wr.heap.size wr).alloc (Nat.le_refl _) (.cells #[.string nm,.pointer (some ⟨X,k,none⟩),.pointer none] 180))))
       have HB1:=hid (Blk.alloc HXx.out (.cells #[.string nm,.pointer (some ⟨X,k,none⟩),.pointer none] 180))
       have hgl:=Blk.lt hO.rd.at_
       have hXl:=hO.x.lt
       have Gg:=hid hσB
       clear hX1 hX2 hxs qS hO hσA hσB ha hf hA hk0
       go_wp2_with fail
       refine Calls.mono HM.out ?_
       clear x0 x1 x2
       rintro e w2 ⟨rfl,hR2,hg2⟩
       have HR2:=hid hR2
       have HT2:=hid (HT1.out.fst hg2)
       have HB2:=hid (aA hg2 HB1.out hXg)
       have hJ2:=aA hg2 HJ.out (Nat.ne_of_gt hgl)
       have HJ2:=hid hJ2
       have c0:=hJ2.cell 0
       simp only [List.getElem?_toArray,List.getElem?_cons_zero] at c0
       have HQ:=hid (kR nm w2 (by omega))
       clear hR2 hg2 hJ2 HM
       go_wp2_with fail
       refine Calls.mono HQ.out ?_
       clear c0
       rintro e w3 ⟨rfl,hb3⟩
       have hq1:(⟨(aV nm.data.toList).toArray⟩:ByteArray).size≤602:=by show (aV nm.data.toList).toArray.size≤602; rw [List.size_toArray]; exact dZ nm hsz
       obtain⟨qs,hqs⟩:∃ qs,(⟨(aV nm.data.toList).toArray⟩:ByteArray)=qs:=⟨_,rfl⟩
       have Hqs:=hid (show (qs ++ ⟨#[58]⟩:ByteArray).data.toList=aV nm.data.toList ++ [58] from by rw [← hqs,ByteArray.toList_data_append])
       rw [hqs] at hq1 ⊢
       have hadd:¬ 9223372036854775807<qs.size+1:=by omega
       have HM2:=hid (dB g σA (qs ++ ⟨#[58]⟩) w3 (HR2.out.up hb3))
       rw [Hqs.out,Gg.out] at HM2
       have HT3:=hid (HT2.out.snd (aG X hb3))
       have HB3:=hid (HB2.out.below hb3 HB2.out.lt)
       have HJ3:=hid (HJ2.out.below hb3 HJ2.out.lt)
       clear hb3 hqs
       go_wp2_with fail
       refine Calls.mono HM2.out ?_
       rintro e w4 ⟨rfl,hR4,hg4⟩
       have NR:g<w4.heap.size:=hR4.at_.lt
       have hO8:=hid (show O8 w g X wr.heap.size T #[.string nm,.pointer (some ⟨X,k,none⟩),.pointer none] σB (bC σB).2 xs xs2 0 w4.drew from ⟨hR4.drew,(show Blk w4 X T _ from aA hg4 HB3.out hXg),(show Blk w4 wr.heap.size _ _ from aA hg4 HJ3.out (Nat.ne_of_gt hgl)),(HT3.out.fst hg4).drew⟩)
       have c1:=(aA hg4 HJ3.out (Nat.ne_of_gt hgl)).cell 1
       simp only [List.getElem?_toArray,List.getElem?_cons_zero,List.getElem?_cons_succ] at c1
       clear hR4 hg4 HM2 HQ hadd hq1
       go_wp2_with fail
       clear c1
       refine bO (Γ:=Unit) (n:=41) (by kernel_rfl) (fun _=>o8V g X k wr.heap.size 1 (.int .i64 (bC σB).1)) [3,5] (fun p _ w'=>O8 w g X wr.heap.size T #[.string nm,.pointer (some ⟨X,k,none⟩),.pointer none] σB (bC σB).2 xs xs2 p w') () (by decide +kernel) (by decide +kernel) rfl ?_ ?_ ?_
       · exact hO8.out
       · refine⟨?_,?_,?_,?_,?_,?_,trivial⟩
         · refine okP 0 2 fun p γ a wx _ _ hp hk=>?_
           have h1:=hk.k 5 rfl
           simp [go_sem,Oper.wp,execOp,Act.eval,h1]
           exact⟨_,rfl,rfl,hp⟩
         · refine okP 0 2 fun p γ a wx _ _ hp hk=>?_
           obtain⟨u1,h1,rfl⟩:=hk.g 0 28 rfl rfl
           have hc:wx.cell? ⟨wr.heap.size,1,none⟩=some (.pointer (some ⟨X,k,none⟩)):=hp.j.cell 1
           simp [go_sem,Oper.wp,execOp,Act.eval,h1,hc]
           exact⟨_,rfl,rfl,hp⟩
         · refine okP 0 2 fun p γ a wx _ _ hp hk=>?_
           have h1:=hk.k 0 rfl
           simp [go_sem,Oper.wp,execOp,Act.eval,h1]
           exact⟨_,rfl,rfl,hp⟩
         · refine⟨rfl,.inl ⟨0,rfl,fun γ a wx hp hk=>?_⟩⟩
           obtain⟨u1,h1,rfl⟩:=hk.g 2 30 rfl rfl
           simp [go_sem,Oper.wp,execOp,Act.eval,h1]
           refine (qy g σB wx hp.rd).mono ?_
           rintro e w' ⟨rfl,hR,hg⟩
           exact⟨_,rfl,rfl,⟨hR,aA hg hp.x hXg,aA hg hp.j (Nat.ne_of_gt hgl),hp.two.fst hg⟩⟩
         · refine okP 1 2 fun p γ a wx _ _ hp hk=>?_
           obtain⟨u1,h1,rfl⟩:=hk.g 1 29 rfl rfl
           simp [go_sem,Oper.wp,execOp,Act.eval,h1]
           exact⟨_,rfl,rfl,hp⟩
         · refine⟨rfl,.inl ⟨1,rfl,fun γ a wx hp hk=>?_⟩⟩
           obtain⟨u1,h1,rfl⟩:=hk.g 4 32 rfl rfl
           obtain⟨u2,h2,rfl⟩:=hk.g 3 31 rfl rfl
           have hc:wx.cell? ⟨X,k,none⟩=some (.int .i64 x):=(hp.x.cell k).trans HX1.out
           have hz:wx.frozen? ⟨X,k,none⟩=false:=hp.x.thaw k
           have hs:=aC wx X k (.int .i64 (bC σB).1)
           have HN:O8 w g X wr.heap.size T #[.string nm,.pointer (some ⟨X,k,none⟩),.pointer none] σB (bC σB).2 xs xs2 2 (wx.setCell ⟨X,k,none⟩ (.int .i64 (bC σB).1)):=⟨hp.rd.other hs hgX hE1 hE2,Blk.eq (hp.x.set k _) HX2.out,aA hs hp.j (Nat.ne_of_gt hXl),hp.two.snd hs⟩
           simp [go_sem,Oper.wp,execOp,Act.eval,h1,h2,hc,hz]
           exact⟨⟨.tuple #[],trivial⟩,HN⟩
       · intro γ a wx hd
         have hp:=hd.ph
         obtain⟨fv,rfl,hfv⟩:=hd.frame [28,29,30,31,32] rfl
         have Hp:=hid hp
         clear hd hp hfv hO8
         simp only [foldl_cons,foldl_nil,setIfInBounds_toArray,set_cons_succ,set_cons_zero]
         go_wp2_with fail
         go_roundw
         case rel=>exact⟨k+1,by omega,by go_num,by rw [Hst.out]; exact⟨Hp.out.rd,(by rw [Gf.out]; exact Hp.out.x),Hp.out.two,by rw [List.length_append,HL.out]; rfl⟩⟩
         case measure=>simp [intOf]; omega
    | txt x=>
     replace x1:wr.cell? ⟨fb,k*3+1,none⟩=some (.pointer none):=x1
     replace x2:wr.cell? ⟨fb,k*3+2,none⟩=some (.pointer (some ⟨X,k,none⟩)):=x2
     have HJ:=hid (show Blk (wr.alloc (.cells #[.string nm,.pointer none,.pointer (some ⟨X,k,none⟩)] 180)) wr.heap.size 180 #[.string nm,.pointer none,.pointer (some ⟨X,k,none⟩)] from heap_alloc_new wr _)
     have HR1:=hid (hO.rd.up ((Below.refl wr.heap.size wr).alloc (Nat.le_refl _) (.cells #[.string nm,.pointer none,.pointer (some ⟨X,k,none⟩)] 180)))
     by_cases hk0:k=0
     · skip
       subst hk0
       simp only [Nat.zero_mul,Nat.zero_add] at x0 x1 x2
       obtain⟨σA,hσA⟩:∃ σA,(if a1=[] then a2 else aX [44] a2)=σA:=⟨_,rfl⟩
       obtain⟨σB,hσB⟩:∃ σB,aX (aV nm.data.toList ++ [58]) σA=σB:=⟨_,rfl⟩
       have Hst:=hid (show (fs.take (0+1)).foldl jf ([],aX [123] σ)=(a1 ++ [(nm,.txt (BA (dL σB).1))],(dL σB).2) from by
        rw [nK hf,List.foldl_append,ha]
        show jf (a1,a2) (nm,.txt x)=_
        unfold jf
        simp only
        rw [hσA,hσB]
        rfl)
       have hA:σA=a2:=by rw [← hσA,if_pos (List.length_eq_zero_iff.1 hO.len)]
       subst hA
       have hX1:(fsV (a1 ++ fs.drop 0))[0]? = some (.string x):=by
        have:=CJ (fs:=a1 ++ fs.drop 0) (k:=0) (f:=(nm,.txt x)) (by rw [List.getElem?_append_right (by rw [hO.len]; exact Nat.le_refl _),hO.len,Nat.sub_self,List.getElem?_drop,Nat.add_zero]; exact hf)
        exact this
       have hX2:(fsV (a1 ++ fs.drop 0)).setIfInBounds 0 (.string (BA (dL σB).1))=fsV ((a1 ++ [(nm,.txt (BA (dL σB).1))]) ++ fs.drop (0+1)):=by
        have:=yt a1 (fs.drop (0+1)) (nm,.txt x) (nm,.txt (BA (dL σB).1))
        rw [hO.len,← drop_cons hf] at this
        rw [List.append_assoc]
        exact this
       obtain⟨xs,hxs⟩:∃ xs,fsV (a1 ++ fs.drop 0)=xs:=⟨_,rfl⟩
       obtain⟨xs2,qS⟩:∃ xs2,fsV ((a1 ++ [(nm,.txt (BA (dL σB).1))]) ++ fs.drop (0+1))=xs2:=⟨_,rfl⟩
       have HXx:=hid (show Blk wr X T xs from by rw [← hxs]; exact hO.x)
       rw [hxs] at hX1
       rw [hxs,qS] at hX2
       have Gf:=hid qS
       have HX1:=hid hX1
       have HX2:=hid hX2
       have HT1:=hid (hO.two.snd (aG X ((Below.refl wr.heap.size wr).alloc (Nat.le_refl _) (.cells #[.string nm,.pointer none,.pointer (some ⟨X,0,none⟩)] 180))))
       have HB1:=hid (Blk.alloc HXx.out (.cells #[.string nm,.pointer none,.pointer (some ⟨X,0,none⟩)] 180))
       have hgl:=Blk.lt hO.rd.at_
       have hXl:=hO.x.lt
       have Gg:=hid hσB
       clear hX1 hX2 hxs qS hO hσA hσB ha hf
       have c0:=HJ.out.cell 0
       simp only [List.getElem?_toArray,List.getElem?_cons_zero] at c0
       obtain⟨w2,hw2⟩:∃ w2,wr.alloc (.cells #[.string nm,.pointer none,.pointer (some ⟨X,0,none⟩)] 180)=w2:=⟨_,rfl⟩
       rw [hw2] at HJ HR1 HT1 HB1 c0
       have HQ:=hid (kR nm w2 (by omega))
       have HR2:=HR1
       have HT2:=HT1
       have HB2:=HB1
       have HJ2:=HJ
       have Hw2:=hid hw2
       clear hw2
       go_wp2_with fail
       rw [Hw2.out]
       refine Calls.mono HQ.out ?_
       clear c0 x0 x1 x2
       rintro e w3 ⟨rfl,hb3⟩
       have hq1:(⟨(aV nm.data.toList).toArray⟩:ByteArray).size≤602:=by show (aV nm.data.toList).toArray.size≤602; rw [List.size_toArray]; exact dZ nm hsz
       obtain⟨qs,hqs⟩:∃ qs,(⟨(aV nm.data.toList).toArray⟩:ByteArray)=qs:=⟨_,rfl⟩
       have Hqs:=hid (show (qs ++ ⟨#[58]⟩:ByteArray).data.toList=aV nm.data.toList ++ [58] from by rw [← hqs,ByteArray.toList_data_append])
       rw [hqs] at hq1 ⊢
       have hadd:¬ 9223372036854775807<qs.size+1:=by omega
       have HM2:=hid (dB g σA (qs ++ ⟨#[58]⟩) w3 (HR2.out.up hb3))
       rw [Hqs.out,Gg.out] at HM2
       have HT3:=hid (HT2.out.snd (aG X hb3))
       have HB3:=hid (HB2.out.below hb3 HB2.out.lt)
       have HJ3:=hid (HJ2.out.below hb3 HJ2.out.lt)
       clear hb3 hqs
       go_wp2_with fail
       refine Calls.mono HM2.out ?_
       rintro e w4 ⟨rfl,hR4,hg4⟩
       have NR:g<w4.heap.size:=hR4.at_.lt
       have hO8:=hid (show O8 w g X wr.heap.size T #[.string nm,.pointer none,.pointer (some ⟨X,0,none⟩)] σB (dL σB).2 xs xs2 0 w4.drew from ⟨hR4.drew,(show Blk w4 X T _ from aA hg4 HB3.out hXg),(show Blk w4 wr.heap.size _ _ from aA hg4 HJ3.out (Nat.ne_of_gt hgl)),(HT3.out.fst hg4).drew⟩)
       have c1:=(aA hg4 HJ3.out (Nat.ne_of_gt hgl)).cell 1
       simp only [List.getElem?_toArray,List.getElem?_cons_zero,List.getElem?_cons_succ] at c1
       clear hR4 hg4 HM2 HQ hadd hq1
       go_wp2_with fail
       clear c1
       refine bO (Γ:=Unit) (n:=41) (by kernel_rfl) (fun _=>o8V g X 0 wr.heap.size 2 (.string (BA (dL σB).1))) [3,5] (fun p _ w'=>O8 w g X wr.heap.size T #[.string nm,.pointer none,.pointer (some ⟨X,0,none⟩)] σB (dL σB).2 xs xs2 p w') () (by decide +kernel) (by decide +kernel) rfl ?_ ?_ ?_
       · exact hO8.out
       · refine⟨?_,?_,?_,?_,?_,?_,trivial⟩
         · refine okP 0 2 fun p γ a wx _ _ hp hk=>?_
           have h1:=hk.k 5 rfl
           simp [go_sem,Oper.wp,execOp,Act.eval,h1]
           exact⟨_,rfl,rfl,hp⟩
         · refine okP 0 2 fun p γ a wx _ _ hp hk=>?_
           obtain⟨u1,h1,rfl⟩:=hk.g 0 33 rfl rfl
           have hc:wx.cell? ⟨wr.heap.size,2,none⟩=some (.pointer (some ⟨X,0,none⟩)):=hp.j.cell 2
           simp [go_sem,Oper.wp,execOp,Act.eval,h1,hc]
           exact⟨_,rfl,rfl,hp⟩
         · refine okP 0 2 fun p γ a wx _ _ hp hk=>?_
           have h1:=hk.k 0 rfl
           simp [go_sem,Oper.wp,execOp,Act.eval,h1]
           exact⟨_,rfl,rfl,hp⟩
         · refine⟨rfl,.inl ⟨0,rfl,fun γ a wx hp hk=>?_⟩⟩
           obtain⟨u1,h1,rfl⟩:=hk.g 2 35 rfl rfl
           simp [go_sem,Oper.wp,execOp,Act.eval,h1]
           refine (BI g σB wx hp.rd).mono ?_
           rintro e w' ⟨rfl,hR,hg⟩
           exact⟨_,rfl,rfl,⟨hR,aA hg hp.x hXg,aA hg hp.j (Nat.ne_of_gt hgl),hp.two.fst hg⟩⟩
         · refine okP 1 2 fun p γ a wx _ _ hp hk=>?_
           obtain⟨u1,h1,rfl⟩:=hk.g 1 34 rfl rfl
           simp [go_sem,Oper.wp,execOp,Act.eval,h1]
           exact⟨_,rfl,rfl,hp⟩
         · refine⟨rfl,.inl ⟨1,rfl,fun γ a wx hp hk=>?_⟩⟩
           obtain⟨u1,h1,rfl⟩:=hk.g 4 37 rfl rfl
           obtain⟨u2,h2,rfl⟩:=hk.g 3 36 rfl rfl
           have hc:wx.cell? ⟨X,0,none⟩=some (.string x):=(hp.x.cell 0).trans HX1.out
           have hz:wx.frozen? ⟨X,0,none⟩=false:=hp.x.thaw 0
           have hs:=aC wx X 0 (.string (BA (dL σB).1))
           have HN:O8 w g X wr.heap.size T #[.string nm,.pointer none,.pointer (some ⟨X,0,none⟩)] σB (dL σB).2 xs xs2 2 (wx.setCell ⟨X,0,none⟩ (.string (BA (dL σB).1))):=⟨hp.rd.other hs hgX hE1 hE2,Blk.eq (hp.x.set 0 _) HX2.out,aA hs hp.j (Nat.ne_of_gt hXl),hp.two.snd hs⟩
           simp [go_sem,Oper.wp,execOp,Act.eval,h1,h2,hc,hz]
           exact⟨⟨.tuple #[],trivial⟩,HN⟩
       · intro γ a wx hd
         have hp:=hd.ph
         obtain⟨fv,rfl,hfv⟩:=hd.frame [33,34,35,36,37] rfl
         have Hp:=hid hp
         clear hd hp hfv hO8
         simp only [foldl_cons,foldl_nil,setIfInBounds_toArray,set_cons_succ,set_cons_zero]
         go_wp2_with fail
         go_roundw
         case rel=>exact⟨0+1,by omega,by go_num,by rw [Hst.out]; exact⟨Hp.out.rd,(by rw [Gf.out]; exact Hp.out.x),Hp.out.two,by rw [List.length_append,HL.out]; rfl⟩⟩
         case measure=>simp [intOf]; omega
     · skip
       have hk0:¬ k=0:=hk0
       have Hk0:=hid hk0
       have dk:decide ((0:Int)<(k:Int))=true:=decide_eq_true (by omega)
       obtain⟨σA,hσA⟩:∃ σA,(if a1=[] then a2 else aX [44] a2)=σA:=⟨_,rfl⟩
       obtain⟨σB,hσB⟩:∃ σB,aX (aV nm.data.toList ++ [58]) σA=σB:=⟨_,rfl⟩
       have Hst:=hid (show (fs.take (k+1)).foldl jf ([],aX [123] σ)=(a1 ++ [(nm,.txt (BA (dL σB).1))],(dL σB).2) from by
        rw [nK hf,List.foldl_append,ha]
        show jf (a1,a2) (nm,.txt x)=_
        unfold jf
        simp only
        rw [hσA,hσB]
        rfl)
       have hA:aX [44] a2=σA:=by rw [← hσA,if_neg (fun e=>hk0 (by rw [← hO.len,e]; rfl))]
       have HM:=hid (dB g a2 ⟨#[44]⟩ (wr.alloc (.cells #[.string nm,.pointer none,.pointer (some ⟨X,k,none⟩)] 180)) HR1.out)
       rw [show aX (⟨#[44]⟩:ByteArray).data.toList a2=σA from hA] at HM
       have hX1:(fsV (a1 ++ fs.drop k))[k]? = some (.string x):=by
        have:=CJ (fs:=a1 ++ fs.drop k) (k:=k) (f:=(nm,.txt x)) (by rw [List.getElem?_append_right (by rw [hO.len]; exact Nat.le_refl _),hO.len,Nat.sub_self,List.getElem?_drop,Nat.add_zero]; exact hf)
        exact this
       have hX2:(fsV (a1 ++ fs.drop k)).setIfInBounds k (.string (BA (dL σB).1))=fsV ((a1 ++ [(nm,.txt (BA (dL σB).1))]) ++ fs.drop (k+1)):=by
        have:=yt a1 (fs.drop (k+1)) (nm,.txt x) (nm,.txt (BA (dL σB).1))
        rw [hO.len,← drop_cons hf] at this
        rw [List.append_assoc]
        exact this
       obtain⟨xs,hxs⟩:∃ xs,fsV (a1 ++ fs.drop k)=xs:=⟨_,rfl⟩
       obtain⟨xs2,qS⟩:∃ xs2,fsV ((a1 ++ [(nm,.txt (BA (dL σB).1))]) ++ fs.drop (k+1))=xs2:=⟨_,rfl⟩
       have HXx:=hid (show Blk wr X T xs from by rw [← hxs]; exact hO.x)
       rw [hxs] at hX1
       rw [hxs,qS] at hX2
       have Gf:=hid qS
       have HX1:=hid hX1
       have HX2:=hid hX2
       have HT1:=hid (hO.two.snd (aG X ((Below.refl wr.heap.size wr).alloc (Nat.le_refl _) (.cells #[.string nm,.pointer none,.pointer (some ⟨X,k,none⟩)] 180))))
       have HB1:=hid (Blk.alloc HXx.out (.cells #[.string nm,.pointer none,.pointer (some ⟨X,k,none⟩)] 180))
       have hgl:=Blk.lt hO.rd.at_
       have hXl:=hO.x.lt
       have Gg:=hid hσB
       clear hX1 hX2 hxs qS hO hσA hσB ha hf hA hk0
       go_wp2_with fail
       refine Calls.mono HM.out ?_
       clear x0 x1 x2
       rintro e w2 ⟨rfl,hR2,hg2⟩
       have HR2:=hid hR2
       have HT2:=hid (HT1.out.fst hg2)
       have HB2:=hid (aA hg2 HB1.out hXg)
       have hJ2:=aA hg2 HJ.out (Nat.ne_of_gt hgl)
       have HJ2:=hid hJ2
       have c0:=hJ2.cell 0
       simp only [List.getElem?_toArray,List.getElem?_cons_zero] at c0
       have HQ:=hid (kR nm w2 (by omega))
       clear hR2 hg2 hJ2 HM
       go_wp2_with fail
       refine Calls.mono HQ.out ?_
       clear c0
       rintro e w3 ⟨rfl,hb3⟩
       have hq1:(⟨(aV nm.data.toList).toArray⟩:ByteArray).size≤602:=by show (aV nm.data.toList).toArray.size≤602; rw [List.size_toArray]; exact dZ nm hsz
       obtain⟨qs,hqs⟩:∃ qs,(⟨(aV nm.data.toList).toArray⟩:ByteArray)=qs:=⟨_,rfl⟩
       have Hqs:=hid (show (qs ++ ⟨#[58]⟩:ByteArray).data.toList=aV nm.data.toList ++ [58] from by rw [← hqs,ByteArray.toList_data_append])
       rw [hqs] at hq1 ⊢
       have hadd:¬ 9223372036854775807<qs.size+1:=by omega
       have HM2:=hid (dB g σA (qs ++ ⟨#[58]⟩) w3 (HR2.out.up hb3))
       rw [Hqs.out,Gg.out] at HM2
       have HT3:=hid (HT2.out.snd (aG X hb3))
       have HB3:=hid (HB2.out.below hb3 HB2.out.lt)
       have HJ3:=hid (HJ2.out.below hb3 HJ2.out.lt)
       clear hb3 hqs
       go_wp2_with fail
       refine Calls.mono HM2.out ?_
       rintro e w4 ⟨rfl,hR4,hg4⟩
       have NR:g<w4.heap.size:=hR4.at_.lt
       have hO8:=hid (show O8 w g X wr.heap.size T #[.string nm,.pointer none,.pointer (some ⟨X,k,none⟩)] σB (dL σB).2 xs xs2 0 w4.drew from ⟨hR4.drew,(show Blk w4 X T _ from aA hg4 HB3.out hXg),(show Blk w4 wr.heap.size _ _ from aA hg4 HJ3.out (Nat.ne_of_gt hgl)),(HT3.out.fst hg4).drew⟩)
       have c1:=(aA hg4 HJ3.out (Nat.ne_of_gt hgl)).cell 1
       simp only [List.getElem?_toArray,List.getElem?_cons_zero,List.getElem?_cons_succ] at c1
       clear hR4 hg4 HM2 HQ hadd hq1
       go_wp2_with fail
       clear c1
       refine bO (Γ:=Unit) (n:=41) (by kernel_rfl) (fun _=>o8V g X k wr.heap.size 2 (.string (BA (dL σB).1))) [3,5] (fun p _ w'=>O8 w g X wr.heap.size T #[.string nm,.pointer none,.pointer (some ⟨X,k,none⟩)] σB (dL σB).2 xs xs2 p w') () (by decide +kernel) (by decide +kernel) rfl ?_ ?_ ?_
       · exact hO8.out
       · refine⟨?_,?_,?_,?_,?_,?_,trivial⟩
         · refine okP 0 2 fun p γ a wx _ _ hp hk=>?_
           have h1:=hk.k 5 rfl
           simp [go_sem,Oper.wp,execOp,Act.eval,h1]
           exact⟨_,rfl,rfl,hp⟩
         · refine okP 0 2 fun p γ a wx _ _ hp hk=>?_
           obtain⟨u1,h1,rfl⟩:=hk.g 0 33 rfl rfl
           have hc:wx.cell? ⟨wr.heap.size,2,none⟩=some (.pointer (some ⟨X,k,none⟩)):=hp.j.cell 2
           simp [go_sem,Oper.wp,execOp,Act.eval,h1,hc]
           exact⟨_,rfl,rfl,hp⟩
         · refine okP 0 2 fun p γ a wx _ _ hp hk=>?_
           have h1:=hk.k 0 rfl
           simp [go_sem,Oper.wp,execOp,Act.eval,h1]
           exact⟨_,rfl,rfl,hp⟩
         · refine⟨rfl,.inl ⟨0,rfl,fun γ a wx hp hk=>?_⟩⟩
           obtain⟨u1,h1,rfl⟩:=hk.g 2 35 rfl rfl
           simp [go_sem,Oper.wp,execOp,Act.eval,h1]
           refine (BI g σB wx hp.rd).mono ?_
           rintro e w' ⟨rfl,hR,hg⟩
           exact⟨_,rfl,rfl,⟨hR,aA hg hp.x hXg,aA hg hp.j (Nat.ne_of_gt hgl),hp.two.fst hg⟩⟩
         · refine okP 1 2 fun p γ a wx _ _ hp hk=>?_
           obtain⟨u1,h1,rfl⟩:=hk.g 1 34 rfl rfl
           simp [go_sem,Oper.wp,execOp,Act.eval,h1]
           exact⟨_,rfl,rfl,hp⟩
         · refine⟨rfl,.inl ⟨1,rfl,fun γ a wx hp hk=>?_⟩⟩
           obtain⟨u1,h1,rfl⟩:=hk.g 4 37 rfl rfl
           obtain⟨u2,h2,rfl⟩:=hk.g 3 36 rfl rfl
           have hc:wx.cell? ⟨X,k,none⟩=some (.string x):=(hp.x.cell k).trans HX1.out
           have hz:wx.frozen? ⟨X,k,none⟩=false:=hp.x.thaw k
           have hs:=aC wx X k (.string (BA (dL σB).1))
           have HN:O8 w g X wr.heap.size T #[.string nm,.pointer none,.pointer (some ⟨X,k,none⟩)] σB (dL σB).2 xs xs2 2 (wx.setCell ⟨X,k,none⟩ (.string (BA (dL σB).1))):=⟨hp.rd.other hs hgX hE1 hE2,Blk.eq (hp.x.set k _) HX2.out,aA hs hp.j (Nat.ne_of_gt hXl),hp.two.snd hs⟩
           simp [go_sem,Oper.wp,execOp,Act.eval,h1,h2,hc,hz]
           exact⟨⟨.tuple #[],trivial⟩,HN⟩
       · intro γ a wx hd
         have hp:=hd.ph
         obtain⟨fv,rfl,hfv⟩:=hd.frame [33,34,35,36,37] rfl
         have Hp:=hid hp
         clear hd hp hfv hO8
         simp only [foldl_cons,foldl_nil,setIfInBounds_toArray,set_cons_succ,set_cons_zero]
         go_wp2_with fail
         go_roundw
         case rel=>exact⟨k+1,by omega,by go_num,by rw [Hst.out]; exact⟨Hp.out.rd,(by rw [Gf.out]; exact Hp.out.x),Hp.out.two,by rw [List.length_append,HL.out]; rfl⟩⟩
         case measure=>simp [intOf]; omega
  · have hkn:n≤k:=by omega
    have hall:fs.take k=fs:=List.take_of_length_le (by have:=Hn.out; omega)
    rw [hall] at ha
    have Hob:=hid (show eG fs σ=(a1,aX [125] a2) from by unfold eG BJ; rw [ha])
    have hd:fs.drop k=[]:=List.drop_of_length_le (by have:=Hn.out; omega)
    have HOx:=hid (show Blk wr X T (fsV a1) from Blk.eq hO.x (by rw [hd,List.append_nil]))
    have HO:=hid hO
    have HM:=hid (dB g a2 ⟨#[125]⟩ wr hO.rd)
    rw [show (⟨#[125]⟩:ByteArray).data.toList=[125] from rfl] at HM
    have hd1:decide ((k:Int)<(n:Int))=false:=decide_eq_false (by omega)
    clear ha hO hd hall hlt
    go_wp2_with fail
    refine Calls.mono HM.out ?_
    rintro e w2 ⟨rfl,hR2,hg2⟩
    have HE:=hid (show fK w2 g (eG fs σ).2∧Blk w2 X T (fsV (eG fs σ).1)∧Two w w2 g X from by rw [Hob.out]; exact⟨hR2,aA hg2 HOx.out hXg,HO.out.two.fst hg2⟩)
    clear hR2 hg2
    go_wp2
    go_end0
    exact⟨rfl,HE.out⟩
end Go.Proofs.YtcpgnjmaampglaaGreatDoor
