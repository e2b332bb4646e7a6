/- Of the proof of a statement: ByteRow, ArgSt. -/
import Derived.Deep.Slices
import Derived.Lib.SmallJoins
import Derived.Test.YtbllgmociapjeaaGreatDoorVPlFrBack
set_option linter.unusedVariables false
set_option linter.unusedSimpArgs false
set_option maxRecDepth 100000
set_option maxHeartbeats 8000000
/- A row of bytes of the call's own, whose whole block is bytes: a text put behind it. -/
namespace Go.Proofs.YtbllgmociapjeaaGreatDoor
open Go.Lib (hid)
open Go.RowKit
def ByteRow (w:World) (v:Value) (l:List UInt8):Prop:=
 (v = .slice none 0 0∧l=[])∨∃ g more,v = .slice (some ⟨g,0,none⟩) l.length (l ++ more).length∧(l ++ more).length≤maxLen∧Blk w g 5 (bf (l ++ more)).toArray
theorem ByteRow.blk {w:World} {v:Value} {l:List UInt8} (h:ByteRow w v l) {g:Nat} (hg:v.ownBlock=some g):∃ cs,Blk w g 5 cs∧jf cs:=by
 rcases h with ⟨rfl,_⟩ | ⟨q,more,rfl,_,hb⟩
 · cases hg
 · injection hg with hg
   subst hg
   refine⟨_,hb,lH fun u hu s e=>?_⟩
   subst e
   simp [bf] at hu
theorem ByteRow.keep {w w':World} {v:Value} {l:List UInt8} (h:ByteRow w v l) (hk:∀ g,v.ownBlock=some g→w'.heap[g]? = w.heap[g]?):ByteRow w' v l:=by
 rcases h with h | ⟨g,more,rfl,hm,hb⟩
 · exact .inl h
 · exact .inr ⟨g,more,rfl,hm,(hk g rfl).trans hb⟩
theorem ByteRow.owns {w:World} {v:Value} {l:List UInt8} (h:ByteRow w v l):w.ownsRow 0 5 1 v l.length (bf l):=by
 refine⟨by rw [eu,Nat.mul_one],?_⟩
 rcases h with ⟨rfl,rfl⟩ | ⟨g,more,rfl,hm,hb⟩
 · exact .inl ⟨rfl,rfl⟩
 · refine .inr ⟨g,_,_,rfl,Nat.zero_le _,hb,by rw [List.length_append]; omega,hm,by simp [eu],?_⟩
   rw [Nat.mul_one,fG]
   simp only
   rw [List.take_left' (eu l)]
theorem ByteRow.shape {w:World} {v:Value} {l:List UInt8} (h:ByteRow w v l):∃ A c,v = .slice A l.length c:=by
 rcases h with ⟨rfl,rfl⟩ | ⟨g,more,rfl,_⟩
 · exact⟨_,_,rfl⟩
 · exact⟨_,_,rfl⟩
theorem ByteRow.nil (w:World):ByteRow w (.slice none 0 0) []:=.inl ⟨rfl,rfl⟩
theorem Bq (k:Nat):Builtin.zeroCells (Value.cells (.int .u8 0)) k=(bf (List.replicate k 0)).toArray:=by
 have h:∀ k,(Builtin.zeroCells (Value.cells (.int .u8 0)) k).toList=bf (List.replicate k 0):=by
  intro k
  simp only [Builtin.zeroCells,Value.cells,bf,Array.toList_map,Array.toList_range,List.map_replicate]
  apply List.ext_getElem
  · simp
  · intro j h1 h2
    simp [Nat.mod_one]
 rw [← h k]
section
variable {P:Program} {w:World} {ops:Array Oper} {rest:List Oper} {o:Oper} {a:Act} {Q:Exit→Act→World→Prop}
theorem yG {t u ty:TypeId} {v:Value} {l:List UInt8} {s:ByteArray} {i:TypeInfo} (ht:P.underlying t=some (.slice 5)) (hu:P.underlying u=some .string) (hi:P.info? 5 = some i) (hz:i.zero=some (.int .u8 0)) (hz1:i.size=1) (hz2:i.bytes=1) (hr:ByteRow w v l) (h0:0<s.size) (hm:l.length+s.size≤70368744177664) :
 ∃ v' w',(Builtin.append_ #[t,u] ty #[v,.string s]).run P w = .ok v' w'∧ByteRow w' v' (l ++ s.data.toList)∧bZ w w' v v':=by
 have hsl:s.data.toList.length=s.size:=by simp
 have hgc:=fun n old=>grownCap_ge w n old 5
 have hgm:=fun n old (h:n≤maxLen)=>grownCap_le_maxLen w n old 5 h
 have yH:∀ old,ByteRow (w.drew.alloc (.cells ((bf (l ++ s.data.toList)).toArray ++ Builtin.zeroCells (Value.cells (.int .u8 0)) (grownCap w (l.length+s.size) old 5 - (l.length+s.size))) 5)) (.slice (some ⟨w.heap.size,0,none⟩) (l.length+s.size) (grownCap w (l.length+s.size) old 5)) (l ++ s.data.toList) ∧
  bZ w (w.drew.alloc (.cells ((bf (l ++ s.data.toList)).toArray ++ Builtin.zeroCells (Value.cells (.int .u8 0)) (grownCap w (l.length+s.size) old 5 - (l.length+s.size))) 5)) v (.slice (some ⟨w.heap.size,0,none⟩) (l.length+s.size) (grownCap w (l.length+s.size) old 5)):=by
  intro old
  obtain⟨k,hk⟩:∃ k,grownCap w (l.length+s.size) old 5 = l.length+s.size+k:=⟨_,(Nat.add_sub_cancel' (hgc _ old)).symm⟩
  have hgm':=hgm (l.length+s.size) old (by unfold maxLen; omega)
  rw [hk,Nat.add_sub_cancel_left,Bq] at *
  have hl:((l ++ s.data.toList) ++ List.replicate k 0).length=l.length+s.size+k:=by simp; omega
  have hz:(l ++ s.data.toList).length=l.length+s.size:=by simp
  have hbz:Below w.heap.size w (w.drew.alloc (.cells ((bf (l ++ s.data.toList)).toArray ++ (bf (List.replicate k 0)).toArray) 5)):=(Below.refl _ _).drew.alloc (Nat.le_refl _) _
  refine⟨.inr ⟨w.heap.size,List.replicate k 0,by rw [hl,hz],by rw [hl]; exact hgm',?_⟩,⟨⟨hbz.os,hbz.tape,hbz.output,hbz.size,fun k hk _=>hbz.block k hk⟩,.inr ⟨w.heap.size,rfl,Nat.le_refl _⟩⟩⟩
  have h:=heap_alloc_new w.drew (.cells ((bf (l ++ s.data.toList)).toArray ++ (bf (List.replicate k 0)).toArray) 5)
  rw [fG (l ++ s.data.toList)]
  simpa [Blk] using h
 rcases hr with ⟨rfl,rfl⟩ | ⟨g,more,rfl,hcm,hb⟩
 · have hr:=run_append_nil_string (P:=P) w t u ty 5 i _ ht hu hi hz s h0 (by omega) (by rw [hz2]; omega)
   have hN:=yH 0
   simp only [List.length_nil,Nat.zero_add,List.nil_append] at hN
   refine⟨_,_,hr,?_⟩
   rw [show s.data.map (fun b=>Value.int .u8 (b.toNat:Int))=(bf s.data.toList).toArray from by apply Array.ext'; simp [bf]]
   exact hN
 · by_cases hroom:l.length+s.size≤(l ++ more).length
   · have hr:=Lib.run_append_room_string (P:=P) w t u ty 5 i ht hu hi hz1 g l.length (l ++ more).length _ hb s hroom (by simp [eu] at hroom ⊢; omega)
     have hcs:(((bf (l ++ more)).toArray.toList.take l.length ++ Lib.strCells s ++ (bf (l ++ more)).toArray.toList.drop (l.length+s.size)).toArray:Array Value)=(bf ((l ++ s.data.toList) ++ more.drop s.size)).toArray:=by
      rw [show Lib.strCells s=bf s.data.toList from rfl]
      simp only [fG,List.append_assoc]
      congr 1
      rw [List.take_left' (eu l)]
      congr 2
      rw [← eu l,List.drop_append]
      simp [bf,List.map_drop]
     rw [hcs] at hr
     have hgr:w.grownBy (w.setRow g (bf ((l ++ s.data.toList) ++ more.drop s.size)).toArray) (some g):=⟨rfl,rfl,rfl,by simp,fun k _ hk=>setRow_other w g k _ (fun e=>hk (by simp [e]))⟩
     have hlen:((l ++ s.data.toList) ++ more.drop s.size).length=(l ++ more).length:=by simp at hroom ⊢; omega
     exact⟨_,_,hr,.inr ⟨g,more.drop s.size,by rw [hlen]; simp,by rw [hlen]; exact hcm,setRow_heap w g _ _ 5 _ hb⟩,⟨hgr,.inl rfl⟩⟩
   · have hr:=Lib.run_append_grow_string (P:=P) w t u ty 5 i _ ht hu hi hz ⟨g,0,none⟩ l.length (l ++ more).length (bf l) (by rw [hz1,eu,Nat.mul_one]) (fun j x hx=>by
      rw [Addr.add_lit]; have:=hb.cell (0+j); rw [this,Nat.zero_add,fG]; simp only [List.getElem?_toArray]; rw [List.getElem?_append_left (List.getElem?_eq_some_iff.1 hx).1]; exact hx) s (by omega) (by omega) (growslice_fits (by omega) (by rw [hz2]; omega))
     rw [show (bf l).toArray ++ (Lib.strCells s).toArray=(bf (l ++ s.data.toList)).toArray by rw [fG,show Lib.strCells s=bf s.data.toList from rfl]; simp] at hr
     exact⟨_,_,hr,(yH _).1,(yH _).2⟩
end
theorem zJ {w:World} {ops:Array Oper} {rest:List Oper} {o:Oper} {a:Act} {Q:Exit→Act→World→Prop} (hgd:o.guard=none) (s x:Operand) (ho:o.op = .call { callee:=.builtin .append,args:=#[s,x],argTypes:=#[84,9] })
 (v:Value) (l:List UInt8) (hs:a.eval s=v) (hr:ByteRow w v l) (t:ByteArray) (hx:a.eval x = .string t) (h0:0<t.size) (hm:l.length+t.size≤70368744177664)
 (h:∀ v' w',ByteRow w' v' (l ++ t.data.toList)→bZ w w' v v'→wpList Tryz.prog ops Q rest (a.put o.dst v') w'):wpList Tryz.prog ops Q (o :: rest) a w:=by
 obtain⟨i0,hi,hz0,hz1,hz2⟩:=info_parts Tryz.infoU8
 obtain⟨v',w',hrun,h1,h2⟩:=yG (P:=Tryz.prog) (w:=w) (ty:=o.type) Tryz.underlying84 Tryz.underlying9 hi hz0 hz1 hz2 hr h0 hm
 refine wpList_plain hgd fun _ hK=>?_
 unfold Oper.wp execOp
 simp only [ho,resolve,invoke,builtin,Sem.run_bind,Sem.run_pure,Result.andThen_ok,List.map_toArray,List.map_cons,List.map_nil,hs,hx,hrun]
 exact hK _ _ (h v' w' h1 h2)
end Go.Proofs.YtbllgmociapjeaaGreatDoor
/- An argument that is a state, opened. -/
namespace Go.Proofs.YtbllgmociapjeaaGreatDoor
open Go.Lib (hid)
open Go.ChangeShapes Go.WideShapes Go.ChangeAt Go.RowKit
def I64 (n:Int):Prop:=-9223372036854775808≤n∧n≤9223372036854775807
def Short (s:ByteArray):Prop:=s.size≤9223372036854775807
def uD (j:aC):Prop:=Short j.name∧I64 j.prio∧I64 j.need∧I64 j.tries∧Short j.tag
def qJ (n:aA):Prop:=Short n.name∧I64 n.room∧Short n.zone
def oU (l:ak):Prop:=Short l.job∧Short l.node∧I64 l.till
theorem oV {H α:Type} {enc:TypeId × Value→H} {W:World} {held:Bool} {fuel:Nat} {cs:List Value} {x:DataW H × List MemPlace} {t e:TypeId} {sz:Nat} (DA:α→List Value) (ok:α→Prop) (a0:α)
 (ht : Tryz.prog.underlying t=some (.slice e)) (hc : Tryz.prog.cellsOf e=sz) (hsz:0<sz) (hlen:∀ a,(DA a).length=sz)
 (each:∀ n cs' y,DataW.trod enc Tryz.prog W 0 (fun _=>true) held n e cs'=some y→∃ a:α,cs'=DA a∧ok a)
 (h:DataW.trod enc Tryz.prog W 0 (fun _=>true) held fuel t cs=some x) (hlt:∀ z ∈ x.2,z.block<W.heap.size) :
 ∃ (xs:List α) (A:Option Addr) (n c:Nat),cs=[.slice A n c]∧xs.length=n∧n≤9223372036854775807∧aU W W.heap.size sz A n (au DA xs)∧∀ a ∈ xs,ok a:=by
 haveI:Inhabited α:=⟨a0⟩
 rcases Go.Deep.open_slice ht h with ⟨rfl,-⟩ | ⟨a,len,cap,m,n,D,Pl,rfl,hb,hl,hm,hmm,rfl,hx⟩
 · exact⟨[],none,0,0,rfl,rfl,by omega,aU.nil,by simp⟩
 · simp only [if_true] at hmm
   subst hmm
   rw [hc] at hx hlt
   obtain⟨f,hf⟩:=Go.Deep.choose_lt (α:=α) (p:=fun i u=>W.cells? 0 (a.add (i*sz)) sz=some (DA u)∧ok u) (fun i hi=>by
    obtain⟨cs',h1,h2⟩:=hx i hi
    obtain⟨u,rfl,hu⟩:=each _ _ _ h2
    exact⟨u,h1,hu⟩)
   have hcell:∀ i,i<m→∀ j,j<sz→W.cell? ((a.add (i*sz)).add j)=(DA (f i))[j]?:=fun i hi j hj=>(World.cells?_some (hf i hi).1).2.2 j hj
   refine⟨(List.range len).map f,some a,len,m,rfl,by simp,by unfold maxLen at hm; omega,⟨by rw [kO hlen]; simp,fun hn=>?_⟩,fun u hu=>?_⟩
   · have hfst:∃ v,W.cell? ((a.add (0*sz)).add 0)=some v:=by
      rw [hcell 0 (by omega) 0 hsz]
      exact⟨_,List.getElem?_eq_getElem (by rw [hlen]; exact hsz)⟩
     obtain⟨v,hv⟩:=hfst
     obtain⟨b,off,spot⟩:=a
     have hspot:spot=none:=by simpa [Addr.add] using World.cell?_spot hv
     subst hspot
     refine⟨b,off,rfl,?_,fun j u hu=>?_⟩
     · refine hlt (.cell b off) (List.mem_append_left _ (MemPlace.mem_row.2 ⟨0,?_,rfl⟩))
       exact Nat.mul_pos (by omega) hsz
     · have hj:j<len*sz:=by
        rcases Nat.lt_or_ge j (len*sz) with h1 | h1
        · exact h1
        · rw [List.getElem?_eq_none (by rw [kO hlen]; simpa using h1)] at hu; cases hu
       have hq:j / sz<len:=Nat.div_lt_of_lt_mul (by rw [Nat.mul_comm]; exact hj)
       have hr:j % sz<sz:=Nat.mod_lt _ hsz
       have hjd:j=j / sz*sz+j % sz:=by rw [Nat.mul_comm]; exact (Nat.div_add_mod j sz).symm
       have h1:=hcell (j / sz) (by omega) (j % sz) hr
       rw [add_plain,add_plain,Nat.add_assoc,← hjd] at h1
       rw [h1,← hu]
       conv=>rhs; rw [hjd]
       rw [rZ hlen _ _ _ (f (j / sz)) (by simp [hq]) hr]
   · obtain⟨i,hi,rfl⟩:=List.mem_map.1 hu
     exact (hf i (by have:=List.mem_range.1 hi; omega)).2
theorem zN : Tryz.prog.cellsOf 32 = 5:=by kernel_rfl
theorem xI : Tryz.prog.cellsOf 34 = 3:=by kernel_rfl
theorem uN : Tryz.prog.cellsOf 36 = 3:=by kernel_rfl
theorem Br : Tryz.prog.cellsOf 26 = 4:=by kernel_rfl
theorem lG {s:ByteArray} (h:s.size≤maxLen):Short s:=by unfold maxLen at h; unfold Short; omega
theorem CY {H:Type} {enc:TypeId × Value→H} {W:World} {held:Bool} (n:Nat) (cs:List Value) (y:DataW H × List MemPlace) (h:DataW.trod enc Tryz.prog W 0 (fun _=>true) held n 32 cs=some y):∃ a:aC,cs=aI a∧uD a:=by
 obtain⟨xs,m,-,-,hl,hxs,hall⟩:=DataW.trod_struct Tryz.underlying32 h
 have hl2:cs.length=5:=hl.trans zN
 have Kw:xs.length=5:=hxs
 match cs,hl2 with
 | [v0,v1,v2,v3,v4],_=>
  have q0:=hall 0 _ rfl
  rw [List.getElem?_eq_getElem (by omega)] at q0
  obtain⟨s0,e0,-,z0⟩:=DataW.trod_string Tryz.underlying9 q0
  replace e0:[v0]=[_]:=e0
  obtain rfl:=(List.cons.inj e0).1
  have q1:=hall 1 _ rfl
  rw [List.getElem?_eq_getElem (by omega)] at q1
  obtain⟨s1,e1,-,z1⟩:=DataW.trod_int Tryz.underlying3 q1
  replace e1:[v1]=[_]:=e1
  obtain rfl:=(List.cons.inj e1).1
  have q2:=hall 2 _ rfl
  rw [List.getElem?_eq_getElem (by omega)] at q2
  obtain⟨s2,e2,-,z2⟩:=DataW.trod_int Tryz.underlying3 q2
  replace e2:[v2]=[_]:=e2
  obtain rfl:=(List.cons.inj e2).1
  have q3:=hall 3 _ rfl
  rw [List.getElem?_eq_getElem (by omega)] at q3
  obtain⟨s3,e3,-,z3⟩:=DataW.trod_int Tryz.underlying3 q3
  replace e3:[v3]=[_]:=e3
  obtain rfl:=(List.cons.inj e3).1
  have q4:=hall 4 _ rfl
  rw [List.getElem?_eq_getElem (by omega)] at q4
  obtain⟨s4,e4,-,z4⟩:=DataW.trod_string Tryz.underlying9 q4
  replace e4:[v4]=[_]:=e4
  obtain rfl:=(List.cons.inj e4).1
  exact⟨⟨s0,s1,s2,s3,s4⟩,rfl,lG z0,eP z1,eP z2,eP z3,lG z4⟩
theorem zM {H:Type} {enc:TypeId × Value→H} {W:World} {held:Bool} (n:Nat) (cs:List Value) (y:DataW H × List MemPlace) (h:DataW.trod enc Tryz.prog W 0 (fun _=>true) held n 34 cs=some y):∃ a:aA,cs=aB a∧qJ a:=by
 obtain⟨xs,m,-,-,hl,hxs,hall⟩:=DataW.trod_struct Tryz.underlying34 h
 have hl2:cs.length=3:=hl.trans xI
 have Kw:xs.length=3:=hxs
 match cs,hl2 with
 | [v0,v1,v2],_=>
  have q0:=hall 0 _ rfl
  rw [List.getElem?_eq_getElem (by omega)] at q0
  obtain⟨s0,e0,-,z0⟩:=DataW.trod_string Tryz.underlying9 q0
  replace e0:[v0]=[_]:=e0
  obtain rfl:=(List.cons.inj e0).1
  have q1:=hall 1 _ rfl
  rw [List.getElem?_eq_getElem (by omega)] at q1
  obtain⟨s1,e1,-,z1⟩:=DataW.trod_int Tryz.underlying3 q1
  replace e1:[v1]=[_]:=e1
  obtain rfl:=(List.cons.inj e1).1
  have q2:=hall 2 _ rfl
  rw [List.getElem?_eq_getElem (by omega)] at q2
  obtain⟨s2,e2,-,z2⟩:=DataW.trod_string Tryz.underlying9 q2
  replace e2:[v2]=[_]:=e2
  obtain rfl:=(List.cons.inj e2).1
  exact⟨⟨s0,s1,s2⟩,rfl,lG z0,eP z1,lG z2⟩
theorem xH {H:Type} {enc:TypeId × Value→H} {W:World} {held:Bool} (n:Nat) (cs:List Value) (y:DataW H × List MemPlace) (h:DataW.trod enc Tryz.prog W 0 (fun _=>true) held n 36 cs=some y):∃ a:ak,cs=av a∧oU a:=by
 obtain⟨xs,m,-,-,hl,hxs,hall⟩:=DataW.trod_struct Tryz.underlying36 h
 have hl2:cs.length=3:=hl.trans uN
 have Kw:xs.length=3:=hxs
 match cs,hl2 with
 | [v0,v1,v2],_=>
  have q0:=hall 0 _ rfl
  rw [List.getElem?_eq_getElem (by omega)] at q0
  obtain⟨s0,e0,-,z0⟩:=DataW.trod_string Tryz.underlying9 q0
  replace e0:[v0]=[_]:=e0
  obtain rfl:=(List.cons.inj e0).1
  have q1:=hall 1 _ rfl
  rw [List.getElem?_eq_getElem (by omega)] at q1
  obtain⟨s1,e1,-,z1⟩:=DataW.trod_string Tryz.underlying9 q1
  replace e1:[v1]=[_]:=e1
  obtain rfl:=(List.cons.inj e1).1
  have q2:=hall 2 _ rfl
  rw [List.getElem?_eq_getElem (by omega)] at q2
  obtain⟨s2,e2,-,z2⟩:=DataW.trod_int Tryz.underlying3 q2
  replace e2:[v2]=[_]:=e2
  obtain rfl:=(List.cons.inj e2).1
  exact⟨⟨s0,s1,s2⟩,rfl,lG z0,lG z1,eP z2⟩
structure Fo (st:ah):Prop where
 rev:I64 st.rev
 jobs:∀ j ∈ st.jobs,uD j
 nodes:∀ n ∈ st.nodes,qJ n
 leases:∀ l ∈ st.leases,oU l
theorem Bs {H:Type} {enc:TypeId × Value→H} {W:World} {r:Reach} {b0:Nat} {held:Bool} {v:Value} {d:DataW H} {p:List MemPlace}
 (hval:Value.okWide Tryz.prog W r b0 26 v) (hd:DataW.Trod enc Tryz.prog W 0 (fun _=>true) held 26 v d p) (hlt:∀ x ∈ p,x.block<W.heap.size) :
 ∃ (st:ah) (x:StA),v = .agg (stC st x)∧StAt W W.heap.size st x∧Fo st:=by
 obtain⟨v0,v1,v2,v3,y0,y1,y2,y3,n,rfl,rfl,rfl,h0,h1,h2,h3⟩:=Joins.open_agg4 Tryz.underlying26 (by kernel_rfl) Br hval hd
 obtain⟨rev,e0,-,zr⟩:=DataW.trod_int Tryz.underlying3 h0
 obtain⟨js,aj,nj,cj,e1,lj,bj,hj,oj⟩:=oV aI uD ⟨⟨#[]⟩,0,0,0,⟨#[]⟩⟩ Tryz.underlying22 zN (by omega) aV (fun n cs y h=>CY n cs y h) h1 (fun z hz=>hlt z (by simp [hz]))
 obtain⟨ns,an,nn,cn,e2,ln,bn,hn,on_⟩:=oV aB qJ ⟨⟨#[]⟩,0,⟨#[]⟩⟩ Tryz.underlying23 xI (by omega) aJ (fun n cs y h=>zM n cs y h) h2 (fun z hz=>hlt z (by simp [hz]))
 obtain⟨ls,al,nl,cl,e3,ll,bl,hl,ol⟩:=oV av oU ⟨⟨#[]⟩,⟨#[]⟩,0⟩ Tryz.underlying24 uN (by omega) aG (fun n cs y h=>xH n cs y h) h3 (fun z hz=>hlt z (by simp [hz]))
 obtain rfl:=(List.cons.inj e0).1
 obtain rfl:=(List.cons.inj e1).1
 obtain rfl:=(List.cons.inj e2).1
 obtain rfl:=(List.cons.inj e3).1
 exact⟨⟨rev,js,ns,ls⟩,⟨aj,nj,cj,an,nn,cn,al,nl,cl⟩,rfl,⟨hj,hn,hl,lj,ln,ll,bj,bn,bl,fun x hx=>⟨(oj x hx).1,(oj x hx).2.2.2.2⟩,fun x hx=>⟨(on_ x hx).1,(on_ x hx).2.2⟩,fun x hx=>⟨(ol x hx).1,(ol x hx).2.1⟩⟩,
  ⟨eP zr,oj,on_,ol⟩⟩
end Go.Proofs.YtbllgmociapjeaaGreatDoor
