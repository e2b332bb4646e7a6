/- Of the proof of a statement: ByteRow, SvTop, Diff, EncC, ReqE1, AgS. -/
import Derived.Test.YtoeejfhdjmkpcaaGreatDoorTBetween
import Derived.Test.YtoeejfhdjmkpcaaGreatDoorTClone
import Derived.Test.YtoeejfhdjmkpcaaGreatDoorTRcE
set_option linter.unusedVariables false
set_option linter.unusedSimpArgs false
set_option maxRecDepth 100000
set_option maxHeartbeats 8000000
/- A row of bytes of the call's own, whose whole block is bytes: a text put behind it. -/
namespace Go.Proofs.YtoeejfhdjmkpcaaGreatDoor
open Go.Lib (hid)
open Go.RowKit
def ByteRow (w:World) (v:Value) (l:List UInt8):Prop:=
 (v = .slice none 0 0∧l=[])∨∃ g more,v = .slice (some ⟨g,0,none⟩) l.length (l ++ more).length∧(l ++ more).length≤maxLen∧Blk w g 5 (bf (l ++ more)).toArray
theorem ByteRow.blk {w:World} {v:Value} {l:List UInt8} (h:ByteRow w v l) {g:Nat} (hg:v.ownBlock=some g):∃ cs,Blk w g 5 cs∧iI cs:=by
 rcases h with ⟨rfl,_⟩ | ⟨q,more,rfl,_,hb⟩
 · cases hg
 · injection hg with hg
   subst hg
   refine⟨_,hb,ku fun u hu s e=>?_⟩
   subst e
   simp [bf] at hu
theorem ByteRow.keep {w w':World} {v:Value} {l:List UInt8} (h:ByteRow w v l) (hk:∀ g,v.ownBlock=some g→w'.heap[g]? = w.heap[g]?):ByteRow w' v l:=by
 rcases h with h | ⟨g,more,rfl,hm,hb⟩
 · exact .inl h
 · exact .inr ⟨g,more,rfl,hm,(hk g rfl).trans hb⟩
theorem ByteRow.owns {w:World} {v:Value} {l:List UInt8} (h:ByteRow w v l):w.ownsRow 0 5 1 v l.length (bf l):=by
 refine⟨by rw [dN,Nat.mul_one],?_⟩
 rcases h with ⟨rfl,rfl⟩ | ⟨g,more,rfl,hm,hb⟩
 · exact .inl ⟨rfl,rfl⟩
 · refine .inr ⟨g,_,_,rfl,Nat.zero_le _,hb,by rw [List.length_append]; omega,hm,by simp [dN],?_⟩
   rw [Nat.mul_one,eV]
   simp only
   rw [List.take_left' (dN l)]
theorem ByteRow.shape {w:World} {v:Value} {l:List UInt8} (h:ByteRow w v l):∃ A c,v = .slice A l.length c:=by
 rcases h with ⟨rfl,rfl⟩ | ⟨g,more,rfl,_⟩
 · exact⟨_,_,rfl⟩
 · exact⟨_,_,rfl⟩
theorem ByteRow.nil (w:World):ByteRow w (.slice none 0 0) []:=.inl ⟨rfl,rfl⟩
theorem zY (k:Nat):Builtin.zeroCells (Value.cells (.int .u8 0)) k=(bf (List.replicate k 0)).toArray:=by
 have h:∀ k,(Builtin.zeroCells (Value.cells (.int .u8 0)) k).toList=bf (List.replicate k 0):=by
  intro k
  simp only [Builtin.zeroCells,Value.cells,bf,Array.toList_map,Array.toList_range,List.map_replicate]
  apply List.ext_getElem
  · simp
  · intro j h1 h2
    simp [Nat.mod_one]
 rw [← h k]
section
variable {P:Program} {w:World} {ops:Array Oper} {rest:List Oper} {o:Oper} {a:Act} {Q:Exit→Act→World→Prop}
theorem wM {t u ty:TypeId} {v:Value} {l:List UInt8} {s:ByteArray} {i:TypeInfo} (ht:P.underlying t=some (.slice 5)) (hu:P.underlying u=some .string) (hi:P.info? 5 = some i) (hz:i.zero=some (.int .u8 0)) (hz1:i.size=1) (hz2:i.bytes=1) (hr:ByteRow w v l) (h0:0<s.size) (hm:l.length+s.size≤70368744177664) :
 ∃ v' w',(Builtin.append_ #[t,u] ty #[v,.string s]).run P w = .ok v' w'∧ByteRow w' v' (l ++ s.data.toList)∧cu w w' v v':=by
 have hsl:s.data.toList.length=s.size:=by simp
 have hgc:=fun n old=>grownCap_ge w n old 5
 have hgm:=fun n old (h:n≤maxLen)=>grownCap_le_maxLen w n old 5 h
 have wN:∀ old,ByteRow (w.drew.alloc (.cells ((bf (l ++ s.data.toList)).toArray ++ Builtin.zeroCells (Value.cells (.int .u8 0)) (grownCap w (l.length+s.size) old 5 - (l.length+s.size))) 5)) (.slice (some ⟨w.heap.size,0,none⟩) (l.length+s.size) (grownCap w (l.length+s.size) old 5)) (l ++ s.data.toList) ∧
  cu w (w.drew.alloc (.cells ((bf (l ++ s.data.toList)).toArray ++ Builtin.zeroCells (Value.cells (.int .u8 0)) (grownCap w (l.length+s.size) old 5 - (l.length+s.size))) 5)) v (.slice (some ⟨w.heap.size,0,none⟩) (l.length+s.size) (grownCap w (l.length+s.size) old 5)):=by
  intro old
  obtain⟨k,hk⟩:∃ k,grownCap w (l.length+s.size) old 5 = l.length+s.size+k:=⟨_,(Nat.add_sub_cancel' (hgc _ old)).symm⟩
  have hgm':=hgm (l.length+s.size) old (by unfold maxLen; omega)
  rw [hk,Nat.add_sub_cancel_left,zY] at *
  have hl:((l ++ s.data.toList) ++ List.replicate k 0).length=l.length+s.size+k:=by simp; omega
  have hz:(l ++ s.data.toList).length=l.length+s.size:=by simp
  have hbz:Below w.heap.size w (w.drew.alloc (.cells ((bf (l ++ s.data.toList)).toArray ++ (bf (List.replicate k 0)).toArray) 5)):=(Below.refl _ _).drew.alloc (Nat.le_refl _) _
  refine⟨.inr ⟨w.heap.size,List.replicate k 0,by rw [hl,hz],by rw [hl]; exact hgm',?_⟩,⟨⟨hbz.os,hbz.tape,hbz.output,hbz.size,fun k hk _=>hbz.block k hk⟩,.inr ⟨w.heap.size,rfl,Nat.le_refl _⟩⟩⟩
  have h:=heap_alloc_new w.drew (.cells ((bf (l ++ s.data.toList)).toArray ++ (bf (List.replicate k 0)).toArray) 5)
  rw [eV (l ++ s.data.toList)]
  simpa [Blk] using h
 rcases hr with ⟨rfl,rfl⟩ | ⟨g,more,rfl,hcm,hb⟩
 · have hr:=run_append_nil_string (P:=P) w t u ty 5 i _ ht hu hi hz s h0 (by omega) (by rw [hz2]; omega)
   have hN:=wN 0
   simp only [List.length_nil,Nat.zero_add,List.nil_append] at hN
   refine⟨_,_,hr,?_⟩
   rw [show s.data.map (fun b=>Value.int .u8 (b.toNat:Int))=(bf s.data.toList).toArray from by apply Array.ext'; simp [bf]]
   exact hN
 · by_cases hroom:l.length+s.size≤(l ++ more).length
   · have hr:=Lib.run_append_room_string (P:=P) w t u ty 5 i ht hu hi hz1 g l.length (l ++ more).length _ hb s hroom (by simp [dN] at hroom ⊢; omega)
     have hcs:(((bf (l ++ more)).toArray.toList.take l.length ++ Lib.strCells s ++ (bf (l ++ more)).toArray.toList.drop (l.length+s.size)).toArray:Array Value)=(bf ((l ++ s.data.toList) ++ more.drop s.size)).toArray:=by
      rw [show Lib.strCells s=bf s.data.toList from rfl]
      simp only [eV,List.append_assoc]
      congr 1
      rw [List.take_left' (dN l)]
      congr 2
      rw [← dN l,List.drop_append]
      simp [bf,List.map_drop]
     rw [hcs] at hr
     have hgr:w.grownBy (w.setRow g (bf ((l ++ s.data.toList) ++ more.drop s.size)).toArray) (some g):=⟨rfl,rfl,rfl,by simp,fun k _ hk=>setRow_other w g k _ (fun e=>hk (by simp [e]))⟩
     have hlen:((l ++ s.data.toList) ++ more.drop s.size).length=(l ++ more).length:=by simp at hroom ⊢; omega
     exact⟨_,_,hr,.inr ⟨g,more.drop s.size,by rw [hlen]; simp,by rw [hlen]; exact hcm,setRow_heap w g _ _ 5 _ hb⟩,⟨hgr,.inl rfl⟩⟩
   · have hr:=Lib.run_append_grow_string (P:=P) w t u ty 5 i _ ht hu hi hz ⟨g,0,none⟩ l.length (l ++ more).length (bf l) (by rw [hz1,dN,Nat.mul_one]) (fun j x hx=>by
      rw [Addr.add_lit]; have:=hb.cell (0+j); rw [this,Nat.zero_add,eV]; simp only [List.getElem?_toArray]; rw [List.getElem?_append_left (List.getElem?_eq_some_iff.1 hx).1]; exact hx) s (by omega) (by omega) (growslice_fits (by omega) (by rw [hz2]; omega))
     rw [show (bf l).toArray ++ (Lib.strCells s).toArray=(bf (l ++ s.data.toList)).toArray by rw [eV,show Lib.strCells s=bf s.data.toList from rfl]; simp] at hr
     exact⟨_,_,hr,(wN _).1,(wN _).2⟩
end
theorem Dp {w:World} {ops:Array Oper} {rest:List Oper} {o:Oper} {a:Act} {Q:Exit→Act→World→Prop} (hgd:o.guard=none) (s x:Operand) (ho:o.op = .call { callee:=.builtin .append,args:=#[s,x],argTypes:=#[129,9] })
 (v:Value) (l:List UInt8) (hs:a.eval s=v) (hr:ByteRow w v l) (t:ByteArray) (hx:a.eval x = .string t) (h0:0<t.size) (hm:l.length+t.size≤70368744177664)
 (h:∀ v' w',ByteRow w' v' (l ++ t.data.toList)→cu w w' v v'→wpList Tryz.prog ops Q rest (a.put o.dst v') w'):wpList Tryz.prog ops Q (o :: rest) a w:=by
 obtain⟨i0,hi,hz0,hz1,hz2⟩:=info_parts Tryz.infoU8
 obtain⟨v',w',hrun,h1,h2⟩:=wM (P:=Tryz.prog) (w:=w) (ty:=o.type) Tryz.underlying129 Tryz.underlying9 hi hz0 hz1 hz2 hr h0 hm
 refine wpList_plain hgd fun _ hK=>?_
 unfold Oper.wp execOp
 simp only [ho,resolve,invoke,builtin,Sem.run_bind,Sem.run_pure,Result.andThen_ok,List.map_toArray,List.map_cons,List.map_nil,hs,hx,hrun]
 exact hK _ _ (h v' w' h1 h2)
end Go.Proofs.YtoeejfhdjmkpcaaGreatDoor
/- The walks of serve.New, (*Server).State and (*Server).Now. -/
namespace Go.Proofs.YtoeejfhdjmkpcaaGreatDoor
open Go.Lib (hid)
open Go.RowKit
def pN (st:ah) (w:World) (e:Ending) (w':World):Prop:=
 Below w.heap.size w w'∧((aG st≠0∧e = .returned (.tuple #[.pointer none,.int .i64 (aG st)])) ∨
  (aG st=0∧∃ V x',e = .returned (.tuple #[.pointer (some ⟨V,0,none⟩),.int .i64 0])∧w.heap.size≤V∧SrvAt w' 109 V st x' 0))
theorem Dq {w:World} {B:Nat} {st:ah} {x:StA} (h:StAt w B st x):lB st.jobs∧jR st.nodes∧iS st.leases:=⟨h.oj,h.on_,h.ol⟩
theorem vF (st:ah) (x:StA) (w:World) (hS:StAt w w.heap.size st x) (hT:Tabs w) :
 Calls Tryz.prog 12 #[.agg (stC st x)] w (pN st w):=by
 obtain⟨W,hW⟩:∃ W,w.alloc (.cells (stC st x) 26)=W:=⟨_,rfl⟩
 have hbW:Below w.heap.size w W:=by rw [← hW]; exact (Below.refl _ _).alloc (Nat.le_refl _) _
 have hB:Blk W w.heap.size 26 (stC st x):=by rw [← hW]; exact heap_alloc_new w _
 have hS1:=hS.upS hbW
 have HC:=hid (show Calls Tryz.prog 37 #[.agg #[.int .i64 st.rev,.slice x.aj x.nj x.cj,.slice x.an x.nn x.cn,.slice x.al x.nl x.cl]] W _ from l9 st x W hS1 (hT.below hbW))
 obtain⟨c0,c1,c2,c3⟩:=Blk.c4 (hB)
 have hlt:=hB.lt
 have HB:=hid hB
 have HbW:=hid hbW
 have HS:=hid hS1
 have HW:=hid hW
 obtain⟨E,hE⟩:∃ E,aG st=E:=⟨_,rfl⟩
 have HE:=hid hE
 clear hW hB hbW hS hS1 hT hE
 unfold stC at HW ⊢
 go_enter Tryz.func12,Tryz.ntmps12
 go_wp2_with fail
 try rw [HW.out]
 clear HW
 refine Calls.mono HC.out ?_
 rintro e w1 ⟨rfl,hb1⟩
 rw [HE.out]
 have HB1:=hid (HB.out.below hb1 HB.out.lt)
 have Hb1:=hid (HbW.out.trans (hb1.mono HbW.out.size))
 have HS1:=hid (HS.out.upS hb1)
 clear hb1 HC HB HbW HS c0 c1 c2 c3 hlt
 by_cases h0:E=0
 · have HE0:=hid (HE.out.trans h0)
   subst h0
   have hsz:=kA HS1.out HE0.out
   have HO:=hid (show Calls Tryz.prog 43 #[.agg #[.int .i64 st.rev,.slice x.aj x.nj x.cj,.slice x.an x.nn x.cn,.slice x.al x.nl x.cl]] w1 _ from kC st x w1 HS1.out (by omega) (by omega) (by omega))
   have Hsz:=hid hsz
   clear hsz HE
   obtain⟨c0,c1,c2,c3⟩:=Blk.c4 (HB1.out)
   have hlt:=HB1.out.lt
   go_wp2_with fail
   refine Calls.mono HO.out ?_
   rintro e w2 ⟨y,rfl,e1,e2,e3,ho,hb2⟩
   obtain⟨oj,on_,ol⟩:=Dq HS1.out
   have hA2:=ho.at2 (by have:=Hsz.out; omega) (by have:=Hsz.out; omega) (by have:=Hsz.out; omega) oj on_ ol
   have Hb2:=hid (Hb1.out.trans (hb2.mono Hb1.out.size))
   have HA2:=hid hA2
   have hb3:Below w2.heap.size w2 (w2.alloc (.cells (sV st y 0) 109)):=(Below.refl _ _).alloc (Nat.le_refl _) _
   have aV:=hid (show pN st w (.returned (.tuple #[.pointer (some ⟨w2.heap.size,0,none⟩),.int .i64 0])) (w2.alloc (.cells #[.int .i64 st.rev,.slice y.aj y.nj y.cj,.slice y.an y.nn y.cn,.slice y.al y.nl y.cl,.int .i64 0] 109)) from ⟨Hb2.out.trans (hb3.mono Hb2.out.size),.inr ⟨HE0.out,w2.heap.size,y,rfl,Hb2.out.size,heap_alloc_new w2 _,hA2.upS hb3,HE0.out,by omega⟩⟩)
   clear hA2 ho hb2 hb3 HO c0 c1 c2 c3 hlt oj on_ ol e1 e2 e3 Hsz
   unfold stC
   go_wp2
   go_ret2
   exact aV.out
 · have d1:(E != 0)=true:=by simpa using h0
   have aV:=hid (show pN st w (.returned (.tuple #[.pointer none,.int .i64 E])) w1 from ⟨Hb1.out,.inl ⟨by rw [HE.out]; exact h0,by rw [HE.out]⟩⟩)
   go_wp2
   go_ret2
   exact aV.out
def nU (st:ah) (w:World) (e:Ending) (w':World):Prop:=∃ y,e = .returned (.agg (stC st y))∧StAt w' w'.heap.size st y∧Below w.heap.size w w'
theorem kW (st:ah) (x:StA) (now:Int) (V:Nat) (w:World) (h:SrvAt w 109 V st x now) :
 Calls Tryz.prog 14 #[.pointer (some ⟨V,0,none⟩)] w (nU st w):=by
 obtain⟨W,hW⟩:∃ W,w.alloc (.cells uY 26)=W:=⟨_,rfl⟩
 have hbW:Below w.heap.size w W:=by rw [← hW]; exact (Below.refl _ _).alloc (Nat.le_refl _) _
 have hR:Blk W w.heap.size 26 uY:=by rw [← hW]; exact heap_alloc_new w _
 have h1:=h.below hbW
 have hsz:=kA h1.at_ h1.ok
 have HO:=hid (show Calls Tryz.prog 43 #[.agg #[.int .i64 st.rev,.slice x.aj x.nj x.cj,.slice x.an x.nn x.cn,.slice x.al x.nl x.cl]] W _ from kC st x W h1.at_ (by omega) (by omega) (by omega))
 obtain⟨c0,c1,c2,c3⟩:=Blk.c4 (h.blk)
 have hlt:=h1.blk.lt
 have hlV:=h.blk.lt
 have HR:=hid hR
 have HbW:=hid hbW
 have H1:=hid h1
 have HW:=hid hW
 have Hsz:=hid hsz
 clear hW hR hbW h h1 hsz
 go_enter Tryz.func14,Tryz.ntmps14
 go_wp2_with fail
 try rw [HW.out]
 clear HW
 refine Calls.mono HO.out ?_
 rintro e w2 ⟨y,rfl,e1,e2,e3,ho,hb2⟩
 obtain⟨oj,on_,ol⟩:=Dq H1.out.at_
 have hA2:=ho.at2 (by have:=Hsz.out; omega) (by have:=Hsz.out; omega) (by have:=Hsz.out; omega) oj on_ ol
 have hR2:=HR.out.below hb2 HR.out.lt
 have hB2:=HbW.out.trans (hb2.mono HbW.out.size)
 obtain⟨z0,z1,z2,z3⟩:=Blk.z4 (hR2)
 obtain⟨r0,r1,r2,r3⟩:=Blk.c4 (hR2)
 obtain⟨hR3,hG3⟩:=Blk.S4 (hR2) (.int .i64 st.rev) (.slice y.aj y.nj y.cj) (.slice y.an y.nn y.cn) (.slice y.al y.nl y.cl)
 obtain⟨y0,y1,y2,y3⟩:=Blk.c4 hR3
 have hlr:=hR2.lt
 have aV:=hid (show nU st w (.returned (.agg (stC st y))) _ from ⟨y,rfl,(hA2.gG hR2 (pL ⟨0,[],[],[]⟩ ⟨none,0,0,none,0,0,none,0,0⟩) hG3).more hG3.size,dz hB2 hG3 (Nat.le_refl _)⟩)
 clear hA2 ho hb2 hR2 hB2 hR3 hG3 HO c0 c1 c2 c3 hlt e1 e2 e3 oj on_ ol Hsz HR HbW H1
 unfold stC
 go_wp2
 refine bodyPost_ret (v:=.agg (stC st y)) (by simp [results,Tryz.results14,go_sem,stC, *]) rfl ?_
 exact aV.out
end Go.Proofs.YtoeejfhdjmkpcaaGreatDoor
/- The walks of delta.Diff and of the reference's Diff. -/
namespace Go.Proofs.YtoeejfhdjmkpcaaGreatDoor
open Go.Lib (hid)
open Go.RowKit
theorem sW {α:Type} {a b:List α} {x:α} (h:x ∈ newL a b):x ∈ b:=(List.mem_filter.1 h).1
theorem qO {α:Type} {key:α→ByteArray} {a b:List α} {s:ByteArray} (h:s ∈ bU key a b):∃ x ∈ a,key x=s:=by
 obtain⟨x,hx,e⟩:=List.mem_map.1 h
 exact⟨x,(List.mem_filter.1 hx).1,e⟩
theorem uZ {w w':World} {B B':Nat} {a b:ah} {x y:StA} (hA:StAt w B a x) (hB:StAt w' B' b y) (ha:aG a=0) (hb:aG b=0):Bp (eQ a b):=by
 obtain⟨a1,a2,a3⟩:=x9 ha
 obtain⟨b1,b2,b3⟩:=x9 hb
 exact⟨Nat.le_trans (sX _ _) b1,Nat.le_trans (sX _ _) b2,Nat.le_trans (sX _ _) b3,Nat.le_trans (qP _ _ _) a1,Nat.le_trans (qP _ _ _) a2,Nat.le_trans (qP _ _ _) a3,
  fun r hr=>hB.oj r (sW hr),fun r hr=>hB.on_ r (sW hr),fun r hr=>hB.ol r (sW hr),
  fun s hs=>(by obtain⟨r,hr,rfl⟩:=qO hs; exact (hA.oj r hr).1),fun s hs=>(by obtain⟨r,hr,rfl⟩:=qO hs; exact (hA.on_ r hr).1),fun s hs=>(by obtain⟨r,hr,rfl⟩:=qO hs; exact (hA.ol r hr).1)⟩
theorem lO (w:World) (ca cb cc:Array Value) {ta tb tc:TypeId}:Blk (((w.alloc (.cells ca ta)).alloc (.cells cb tb)).alloc (.cells cc tc)) w.heap.size ta ca∧Blk (((w.alloc (.cells ca ta)).alloc (.cells cb tb)).alloc (.cells cc tc)) (w.heap.size+1) tb cb ∧
 Blk (((w.alloc (.cells ca ta)).alloc (.cells cb tb)).alloc (.cells cc tc)) (w.heap.size+2) tc cc∧Below w.heap.size w (((w.alloc (.cells ca ta)).alloc (.cells cb tb)).alloc (.cells cc tc)):=by
 have h1:Blk (w.alloc (.cells ca ta)) w.heap.size ta ca:=heap_alloc_new w _
 have h2:=heap_alloc_new (w.alloc (.cells ca ta)) (.cells cb tb)
 rw [show (w.alloc (.cells ca ta)).heap.size=w.heap.size+1 by simp] at h2
 have h3:=heap_alloc_new ((w.alloc (.cells ca ta)).alloc (.cells cb tb)) (.cells cc tc)
 rw [show ((w.alloc (.cells ca ta)).alloc (.cells cb tb)).heap.size=w.heap.size+2 by simp] at h3
 exact⟨(h1.alloc _).alloc _,(show Blk _ _ _ _ from h2).alloc _,h3,(((Below.refl _ _).alloc (Nat.le_refl _) _).alloc (by simp) _).alloc (by simp; omega) _⟩
theorem pK.low {w:World} {g g':Nat} {d:aX} {x:fH} (h:pK w g d x) (hg:g'<g):pK w g' d x:=by
 obtain⟨⟨b1,h1,o1⟩,⟨b2,h2,o2⟩,⟨b3,h3,o3⟩,⟨b4,h4,o4⟩,⟨b5,h5,o5⟩,⟨b6,h6,o6⟩,l1,l2,l3,l4,l5,l6⟩:=h
 exact⟨⟨b1,by omega,o1⟩,⟨b2,by omega,o2⟩,⟨b3,by omega,o3⟩,⟨b4,by omega,o4⟩,⟨b5,by omega,o5⟩,⟨b6,by omega,o6⟩,l1,l2,l3,l4,l5,l6⟩
end Go.Proofs.YtoeejfhdjmkpcaaGreatDoor
/- Words for Encode: a writer just made; how long what is written is. -/
namespace Go.Proofs.YtoeejfhdjmkpcaaGreatDoor
open Go.Lib (hid)
open Go.RowKit
theorem vG (n:Nat):(bI n).length≤4000:=by have:=dB n; omega
theorem jY {α:Type} {enc:α→List UInt8} {xs:List α} (h:∀ x,(enc x).length≤85) (hn:xs.length≤40):(jI enc xs).length≤4000:=by
 have h1:=lP h xs
 have h2:=cO xs.length
 unfold jI
 rw [List.length_append]; omega
theorem oM (x:ByteArray):(fV x).length≤85:=by have:=dR x; omega
theorem fI.new {w:World} {base:Nat} (hT:Tabs w) (h3:ren.g 3<base) (h4:ren.g 4<base) (hb:base≤w.heap.size):fI (w.alloc (.cells #[.slice none 0 0] 131)) base w.heap.size []:=
 have hbl:Below w.heap.size w (w.alloc (.cells #[.slice none 0 0] 131)):=(Below.refl _ _).alloc (Nat.le_refl _) _
 ⟨⟨hb,none,0,0,heap_alloc_new w _,World.ownsRow_nil _ _ _ _⟩,hT.below hbl,h3,h4,Nat.le_trans hb hbl.size⟩
theorem Tabs.lt {w:World} (h:Tabs w):ren.g 3<w.heap.size∧ren.g 4<w.heap.size:=by
 have lt:∀ {a:Addr} {v:Value},w.cell? a=some v→a.block<w.heap.size:=fun {a v} hc=>by
  rcases Nat.lt_or_ge a.block w.heap.size with h' | h'
  · exact h'
  · simp [World.cell?,Array.getElem?_eq_none h'] at hc
 exact⟨lt (h.1 0 (by decide)),lt (h.2 0 (by decide)).1⟩
end Go.Proofs.YtoeejfhdjmkpcaaGreatDoor
/- req.Encode at a job that is put. -/
namespace Go.Proofs.YtoeejfhdjmkpcaaGreatDoor
open Go.Lib (hid)
open Go.RowKit
theorem Dr (base g P:Nat) (l:List UInt8) (x:aD) (w:World) (hp:Blk w P 327 #[.string x.name,.int .i64 x.prio,.int .i64 x.need,.int .i64 x.tries,.string x.tag]) (hx:u7 x) (h:fI w base g l) (hl:l.length≤90000000) :
 Calls Tryz.prog 468 #[.pointer (some ⟨P,0,none⟩),.pointer (some ⟨g,0,none⟩)] w (gy base g (l ++ eU x 3) w):=by
 have HJ:=hid (show Calls Tryz.prog 62 #[.pointer (some ⟨g,0,none⟩),.agg #[.string x.name,.int .i64 x.prio,.int .i64 x.need,.int .i64 x.tries,.string x.tag],.int .i64 3] w _ from yh base g l x 3 w hx h hl)
 obtain⟨p0,p1,p2,p3,p4⟩:=Blk.c5 (hp)
 have hlp:=hp.lt
 clear hp hx h hl
 go_enter Tryz.func468,Tryz.ntmps468
 go_wp2_with fail
 refine Calls.mono HJ.out ?_
 rintro e w1 hp
 have HP:=hid hp
 obtain⟨rfl,_⟩:=hp
 clear HJ p0 p1 p2 p3 p4
 go_wp2
 go_end0
 exact HP.out
theorem Ds {x:aD} (h:fF x=0):u7 x:=by
 have hz:=iJ h
 have h1:=eB hz.1
 have h2:=jc hz.2.1
 exact⟨by omega,by omega,by omega,by omega,by omega⟩
def EncQ (q:aH) (L:List UInt8) (w:World) (e:Ending) (w':World):Prop:=e = .returned (.tuple #[.string (BA L),.int .i64 0])∧Below w.heap.size w w'
theorem Dt (q:aH) (w:World) (hq:q.kind=1) (hok:ROk q) (hT:Tabs w) (h0:bK q=0) :
 Calls Tryz.prog 56 #[bP q] w (EncQ q (bI 1 ++ eU q.job 3) w):=by
 obtain⟨W,hW⟩:∃ W,w.alloc (.cells (aB q) 40)=W:=⟨_,rfl⟩
 have hb:Blk W w.heap.size 40 (aB q):=by rw [← hW]; exact heap_alloc_new w _
 have hbW:Below w.heap.size w W:=by rw [← hW]; exact (Below.refl _ _).alloc (Nat.le_refl _) _
 have hck:=sY q W hq hok (hT.below hbW)
 rw [h0] at hck
 have hjE:fF q.job=0:=by
  have how:kB q=⟨q.kind,q.job,aU,aI,⟨#[]⟩,0⟩:=by unfold kB; simp [hq]
  have hpe:cN q=fF q.job:=by unfold cN; simp [hq]
  unfold bK at h0
  rw [if_neg (by rw [hq]; decide)] at h0
  split at h0
  · cases h0
  · rw [hpe] at h0; exact h0
 have HJW:=hid (Ds hjE)
 obtain⟨c0,c1,c2,c3,c4,c5,c6,c7,c8,c9,c10,c11,c12,c13⟩:=Blk.c14 (hb)
 have hlt:=hb.lt
 have HCk:=hid hck
 have Hb:=hid hb
 have HbW:=hid hbW
 have HT:=hid hT
 have HW:=hid hW
 have Hq:=hid hq
 clear hb hbW hT hW hck hok h0 hjE hq
 unfold bP at HCk ⊢
 unfold aB at HCk HW ⊢
 go_enter Tryz.func56,Tryz.ntmps56
 go_wp2_with fail
 try simp only [HW.out]
 clear HW
 refine Calls.mono HCk.out ?_
 rintro e w1 ⟨rfl,hb1⟩
 have hB1:=HbW.out.trans (hb1.mono HbW.out.size)
 have hQ1:=Hb.out.below hb1 Hb.out.lt
 obtain⟨w2,hw2⟩:∃ w2,w1.alloc (.cells #[.slice none 0 0] 131)=w2:=⟨_,rfl⟩
 have hb2:Below w1.heap.size w1 w2:=by rw [← hw2]; exact (Below.refl _ _).alloc (Nat.le_refl _) _
 have hT2:=HT.out.below (hB1.trans (hb2.mono hB1.size))
 have hlts:=(HT.out.below hB1).lts
 have hwr:fI w2 w1.heap.size w1.heap.size []:=⟨⟨Nat.le_refl _,none,0,0,by rw [← hw2]; exact heap_alloc_new w1 _,World.ownsRow_nil _ _ _ _⟩,hT2,hlts.1,hlts.2,hb2.size⟩
 have hQ2:=hQ1.below hb2 hQ1.lt
 have HN:=hid (kD w1.heap.size w1.heap.size [] 1 w2 (by omega) hwr (by simp))
 have k0:w1.cell? ⟨w.heap.size,0,none⟩=some (.int .i64 1):=by rw [← Hq.out]; exact hQ1.cell 0
 have hlt2:=hQ1.lt
 have HB2:=hid (hB1.trans (hb2.mono hB1.size))
 have HQ2:=hid hQ2
 have Hw2:=hid hw2
 have Hsz:=hid hb2.size
 have FE:=hid hQ1.lt
 clear hb1 hB1 hQ1 hb2 hT2 hlts hwr hQ2 hw2 HCk Hb HbW c0 c1 c2 c3 c4 c5 c6 c7 c8 c9 c10 c11 c12 c13 hlt
 go_wp2_with fail
 try simp only [Hw2.out]
 clear Hw2
 refine Calls.mono HN.out ?_
 rintro e w3 ⟨rfl,hwr3,hk3⟩
 have hQ3:Blk w3 w.heap.size 40 (aB q):=hk3.blk HQ2.out (by decide) (Nat.ne_of_lt FE.out)
 obtain⟨d0,d1,d2,d3,d4,d5,d6,d7,d8,d9,d10,d11,d12,d13⟩:=Blk.c14 (hQ3)
 have hlt3:=hQ3.lt
 have HP:=hid (show Calls Tryz.prog 133 #[.agg (mg q)] w3 _ from zZ q w3 Hq.out)
 have Hwr3:=hid hwr3
 have Hk3:=hid hk3
 clear hwr3 hk3 hQ3 HN HQ2 k0 hlt2
 have hm : ∀ w P, (method 606 325 (.pointer (some ⟨P, 0, none⟩)) "bracken/req.put").run Tryz.prog w = .ok (468, .pointer (some ⟨P, 0, none⟩)) w := fun _ _ => by kernel_rfl
 go_wp2_with fail
 refine Calls.mono HP.out ?_
 rintro e w4 ⟨P,rfl,hP,hpb,hb4⟩
 have hwr4:=Hwr3.out.below hb4
 have hl4:([] ++ bI (Int.toNat 1)).length≤90000000:=by rw [List.nil_append]; have:=dB (Int.toNat 1); omega
 have HPut:=hid (Dr w1.heap.size w1.heap.size P _ q.job w4 hpb HJW.out hwr4 hl4)
 have FF:=Hk3.out.below (Nat.le_refl _) Hsz.out
 have HB4:=hid ((HB2.out.trans (FF.mono (Nat.le_of_lt FE.out))).trans (hb4.mono (HB2.out.trans (FF.mono (Nat.le_of_lt FE.out))).size))
 have Hs4:=hid (Nat.le_trans Hsz.out (Nat.le_trans FF.size hb4.size))
 clear hP hpb hb4 hwr4 hl4 FF HP Hwr3 Hk3 d0 d1 d2 d3 d4 d5 d6 d7 d8 d9 d10 d11 d12 d13 hlt3
 go_wp2_with fail
 refine Calls.mono HPut.out ?_
 rintro e w5 ⟨rfl,hwr5,hk5⟩
 have HK5:=hid (HB4.out.trans ((hk5.below (Nat.le_refl _) Hs4.out).mono (Nat.le_of_lt FE.out)))
 obtain⟨_,AA,m,cc,hBW,ho⟩:=hwr5.at_
 have z0:w5.cell? ⟨w1.heap.size,0,none⟩=some (.slice AA m cc):=hBW.cell 0
 have hlw5:=hBW.lt
 have hrun:=gJ (P:=Tryz.prog) Tryz.underlying129 Tryz.underlying5 Tryz.underlying9 ho
 clear hwr5 hk5 hBW ho HPut hm
 go_wp2
 go_ret2
 exact⟨rfl,HK5.out⟩
end Go.Proofs.YtoeejfhdjmkpcaaGreatDoor
/- A server of the call's own. -/
namespace Go.Proofs.YtoeejfhdjmkpcaaGreatDoor
open Go.Lib (hid)
open Go.RowKit
structure AgS (w0 w:World) (V:Nat) (st:ah) (now:Int) (x:StA):Prop where
 below:Below w0.heap.size w0 w
 v:SrvAt w 109 V st x now
 vs:w0.heap.size≤V
theorem AgS.kept {w0 w w':World} {V:Nat} {st:ah} {now:Int} {x:StA} (h:AgS w0 w V st now x) (hb:Below w.heap.size w w'):AgS w0 w' V st now x:=
 ⟨h.below.trans (hb.mono h.below.size),h.v.below hb,h.vs⟩
theorem AgS.asked {w0 w w':World} {V:Nat} {st st':ah} {now now':Int} {x x':StA} (h:AgS w0 w V st now x) (hg:w.grownBy w' (some V)) (hb:Blk w' V 109 (sV st' x' now')) (hs:StAt w' w'.heap.size st' x') (hc:aG st'=0) (ht:0≤now'∧now'≤1099511627776):AgS w0 w' V st' now' x':=
 ⟨dz h.below hg h.vs,⟨hb,hs,hc,ht⟩,h.vs⟩
end Go.Proofs.YtoeejfhdjmkpcaaGreatDoor
