/- Of the proof of a statement: ByteRow, SdE, SvSame, RcF, RcG, ArgReq. -/
import Derived.Test.YtoeejfhdjmkpcaaGreatDoorURcE
set_option linter.unusedVariables false
set_option linter.unusedSimpArgs false
set_option maxRecDepth 100000
set_option maxHeartbeats 8000000
/- A row of bytes of the call's own, whose whole block is bytes: a text put behind it. -/
namespace Go.Proofs.YtoeejfhdjmkpcaaGreatDoor
open Go.Lib (hid)
open Go.RowKit
def ByteRow (w:World) (v:Value) (l:List UInt8):Prop:=
 (v = .slice none 0 0∧l=[])∨∃ g more,v = .slice (some ⟨g,0,none⟩) l.length (l ++ more).length∧(l ++ more).length≤maxLen∧Blk w g 5 (bq (l ++ more)).toArray
theorem ByteRow.blk {w:World} {v:Value} {l:List UInt8} (h:ByteRow w v l) {g:Nat} (hg:v.ownBlock=some g):∃ cs,Blk w g 5 cs∧jC cs:=by
 rcases h with ⟨rfl,_⟩ | ⟨q,more,rfl,_,hb⟩
 · cases hg
 · injection hg with hg
   subst hg
   refine⟨_,hb,lV fun u hu s e=>?_⟩
   subst e
   simp [bq] at hu
theorem ByteRow.keep {w w':World} {v:Value} {l:List UInt8} (h:ByteRow w v l) (hk:∀ g,v.ownBlock=some g→w'.heap[g]? = w.heap[g]?):ByteRow w' v l:=by
 rcases h with h | ⟨g,more,rfl,hm,hb⟩
 · exact .inl h
 · exact .inr ⟨g,more,rfl,hm,(hk g rfl).trans hb⟩
theorem ByteRow.owns {w:World} {v:Value} {l:List UInt8} (h:ByteRow w v l):w.ownsRow 0 5 1 v l.length (bq l):=by
 refine⟨by rw [eu,Nat.mul_one],?_⟩
 rcases h with ⟨rfl,rfl⟩ | ⟨g,more,rfl,hm,hb⟩
 · exact .inl ⟨rfl,rfl⟩
 · refine .inr ⟨g,_,_,rfl,Nat.zero_le _,hb,by rw [List.length_append]; omega,hm,by simp [eu],?_⟩
   rw [Nat.mul_one,fM]
   simp only
   rw [List.take_left' (eu l)]
theorem ByteRow.shape {w:World} {v:Value} {l:List UInt8} (h:ByteRow w v l):∃ A c,v = .slice A l.length c:=by
 rcases h with ⟨rfl,rfl⟩ | ⟨g,more,rfl,_⟩
 · exact⟨_,_,rfl⟩
 · exact⟨_,_,rfl⟩
theorem ByteRow.nil (w:World):ByteRow w (.slice none 0 0) []:=.inl ⟨rfl,rfl⟩
theorem CI (k:Nat):Builtin.zeroCells (Value.cells (.int .u8 0)) k=(bq (List.replicate k 0)).toArray:=by
 have h:∀ k,(Builtin.zeroCells (Value.cells (.int .u8 0)) k).toList=bq (List.replicate k 0):=by
  intro k
  simp only [Builtin.zeroCells,Value.cells,bq,Array.toList_map,Array.toList_range,List.map_replicate]
  apply List.ext_getElem
  · simp
  · intro j h1 h2
    simp [Nat.mod_one]
 rw [← h k]
section
variable {P:Program} {w:World} {ops:Array Oper} {rest:List Oper} {o:Oper} {a:Act} {Q:Exit→Act→World→Prop}
theorem Aa {t u ty:TypeId} {v:Value} {l:List UInt8} {s:ByteArray} {i:TypeInfo} (ht:P.underlying t=some (.slice 5)) (hu:P.underlying u=some .string) (hi:P.info? 5 = some i) (hz:i.zero=some (.int .u8 0)) (hz1:i.size=1) (hz2:i.bytes=1) (hr:ByteRow w v l) (h0:0<s.size) (hm:l.length+s.size≤70368744177664) :
 ∃ v' w',(Builtin.append_ #[t,u] ty #[v,.string s]).run P w = .ok v' w'∧ByteRow w' v' (l ++ s.data.toList)∧cE w w' v v':=by
 have hsl:s.data.toList.length=s.size:=by simp
 have hgc:=fun n old=>grownCap_ge w n old 5
 have hgm:=fun n old (h:n≤maxLen)=>grownCap_le_maxLen w n old 5 h
 have Ab:∀ old,ByteRow (w.drew.alloc (.cells ((bq (l ++ s.data.toList)).toArray ++ Builtin.zeroCells (Value.cells (.int .u8 0)) (grownCap w (l.length+s.size) old 5 - (l.length+s.size))) 5)) (.slice (some ⟨w.heap.size,0,none⟩) (l.length+s.size) (grownCap w (l.length+s.size) old 5)) (l ++ s.data.toList) ∧
  cE w (w.drew.alloc (.cells ((bq (l ++ s.data.toList)).toArray ++ Builtin.zeroCells (Value.cells (.int .u8 0)) (grownCap w (l.length+s.size) old 5 - (l.length+s.size))) 5)) v (.slice (some ⟨w.heap.size,0,none⟩) (l.length+s.size) (grownCap w (l.length+s.size) old 5)):=by
  intro old
  obtain⟨k,hk⟩:∃ k,grownCap w (l.length+s.size) old 5 = l.length+s.size+k:=⟨_,(Nat.add_sub_cancel' (hgc _ old)).symm⟩
  have hgm':=hgm (l.length+s.size) old (by unfold maxLen; omega)
  rw [hk,Nat.add_sub_cancel_left,CI] at *
  have hl:((l ++ s.data.toList) ++ List.replicate k 0).length=l.length+s.size+k:=by simp; omega
  have hz:(l ++ s.data.toList).length=l.length+s.size:=by simp
  have hbz:Below w.heap.size w (w.drew.alloc (.cells ((bq (l ++ s.data.toList)).toArray ++ (bq (List.replicate k 0)).toArray) 5)):=(Below.refl _ _).drew.alloc (Nat.le_refl _) _
  refine⟨.inr ⟨w.heap.size,List.replicate k 0,by rw [hl,hz],by rw [hl]; exact hgm',?_⟩,⟨⟨hbz.os,hbz.tape,hbz.output,hbz.size,fun k hk _=>hbz.block k hk⟩,.inr ⟨w.heap.size,rfl,Nat.le_refl _⟩⟩⟩
  have h:=heap_alloc_new w.drew (.cells ((bq (l ++ s.data.toList)).toArray ++ (bq (List.replicate k 0)).toArray) 5)
  rw [fM (l ++ s.data.toList)]
  simpa [Blk] using h
 rcases hr with ⟨rfl,rfl⟩ | ⟨g,more,rfl,hcm,hb⟩
 · have hr:=run_append_nil_string (P:=P) w t u ty 5 i _ ht hu hi hz s h0 (by omega) (by rw [hz2]; omega)
   have hN:=Ab 0
   simp only [List.length_nil,Nat.zero_add,List.nil_append] at hN
   refine⟨_,_,hr,?_⟩
   rw [show s.data.map (fun b=>Value.int .u8 (b.toNat:Int))=(bq s.data.toList).toArray from by apply Array.ext'; simp [bq]]
   exact hN
 · by_cases hroom:l.length+s.size≤(l ++ more).length
   · have hr:=Lib.run_append_room_string (P:=P) w t u ty 5 i ht hu hi hz1 g l.length (l ++ more).length _ hb s hroom (by simp [eu] at hroom ⊢; omega)
     have hcs:(((bq (l ++ more)).toArray.toList.take l.length ++ Lib.strCells s ++ (bq (l ++ more)).toArray.toList.drop (l.length+s.size)).toArray:Array Value)=(bq ((l ++ s.data.toList) ++ more.drop s.size)).toArray:=by
      rw [show Lib.strCells s=bq s.data.toList from rfl]
      simp only [fM,List.append_assoc]
      congr 1
      rw [List.take_left' (eu l)]
      congr 2
      rw [← eu l,List.drop_append]
      simp [bq,List.map_drop]
     rw [hcs] at hr
     have hgr:w.grownBy (w.setRow g (bq ((l ++ s.data.toList) ++ more.drop s.size)).toArray) (some g):=⟨rfl,rfl,rfl,by simp,fun k _ hk=>setRow_other w g k _ (fun e=>hk (by simp [e]))⟩
     have hlen:((l ++ s.data.toList) ++ more.drop s.size).length=(l ++ more).length:=by simp at hroom ⊢; omega
     exact⟨_,_,hr,.inr ⟨g,more.drop s.size,by rw [hlen]; simp,by rw [hlen]; exact hcm,setRow_heap w g _ _ 5 _ hb⟩,⟨hgr,.inl rfl⟩⟩
   · have hr:=Lib.run_append_grow_string (P:=P) w t u ty 5 i _ ht hu hi hz ⟨g,0,none⟩ l.length (l ++ more).length (bq l) (by rw [hz1,eu,Nat.mul_one]) (fun j x hx=>by
      rw [Addr.add_lit]; have:=hb.cell (0+j); rw [this,Nat.zero_add,fM]; simp only [List.getElem?_toArray]; rw [List.getElem?_append_left (List.getElem?_eq_some_iff.1 hx).1]; exact hx) s (by omega) (by omega) (growslice_fits (by omega) (by rw [hz2]; omega))
     rw [show (bq l).toArray ++ (Lib.strCells s).toArray=(bq (l ++ s.data.toList)).toArray by rw [fM,show Lib.strCells s=bq s.data.toList from rfl]; simp] at hr
     exact⟨_,_,hr,(Ab _).1,(Ab _).2⟩
end
theorem Gv {w:World} {ops:Array Oper} {rest:List Oper} {o:Oper} {a:Act} {Q:Exit→Act→World→Prop} (hgd:o.guard=none) (s x:Operand) (ho:o.op = .call { callee:=.builtin .append,args:=#[s,x],argTypes:=#[129,9] })
 (v:Value) (l:List UInt8) (hs:a.eval s=v) (hr:ByteRow w v l) (t:ByteArray) (hx:a.eval x = .string t) (h0:0<t.size) (hm:l.length+t.size≤70368744177664)
 (h:∀ v' w',ByteRow w' v' (l ++ t.data.toList)→cE w w' v v'→wpList Tryz.prog ops Q rest (a.put o.dst v') w'):wpList Tryz.prog ops Q (o :: rest) a w:=by
 obtain⟨i0,hi,hz0,hz1,hz2⟩:=info_parts Tryz.infoU8
 obtain⟨v',w',hrun,h1,h2⟩:=Aa (P:=Tryz.prog) (w:=w) (ty:=o.type) Tryz.underlying129 Tryz.underlying9 hi hz0 hz1 hz2 hr h0 hm
 refine wpList_plain hgd fun _ hK=>?_
 unfold Oper.wp execOp
 simp only [ho,resolve,invoke,builtin,Sem.run_bind,Sem.run_pure,Result.andThen_ok,List.map_toArray,List.map_cons,List.map_nil,hs,hx,hrun]
 exact hK _ _ (h v' w' h1 h2)
end Go.Proofs.YtoeejfhdjmkpcaaGreatDoor
/- The end of a server's Do, in the program and in the reference: what has been made is stored. -/
namespace Go.Proofs.YtoeejfhdjmkpcaaGreatDoor
open Go.Lib (hid)
open Go.RowKit
abbrev zD:aM:=⟨0,0,[],[],[],[],[],[]⟩
abbrev zA:eI:=⟨none,0,0,none,0,0,none,0,0,none,0,0,none,0,0,none,0,0⟩
theorem uq {l:List ByteArray} {n:Nat} (h:l.length=n) (hn:0<n):∃ s,(au jh l)[0]? = some (.string s):=by
 match l,h with
 | [],h=>simp at h; omega
 | a :: l,_=>exact⟨a,rfl⟩
theorem mL (d:aM) (x:eI):jC (dC d x):=lV (by
 intro v hv s
 simp only [dC,List.mem_toArray,List.mem_cons,List.not_mem_nil,or_false] at hv
 rcases hv with rfl | rfl | rfl | rfl | rfl | rfl | rfl | rfl <;> simp)
theorem dH.gS {w w':World} {B g:Nat} {t:TypeId} {cs:Array Value} {d:aM} {x:eI} (h:dH w B d x) (hb:Blk w g t cs) (hc:jC cs) (hg:w.grownBy w' (some g)):dH w' B d x:=
 ⟨h.j.gS hb hc (uw h.lj) hg,h.n.gS hb hc (qZ h.ln) hg,h.l.gS hb hc (oS h.ll) hg,h.gj.gS hb hc (uq h.lgj) hg,h.gn.gS hb hc (uq h.lgn) hg,h.gl.gS hb hc (uq h.lgl) hg,
  h.lj,h.ln,h.ll,h.lgj,h.lgn,h.lgl,h.bj,h.bn,h.bl,h.bgj,h.bgn,h.bgl,h.oj,h.on_,h.ol,h.ogj,h.ogn,h.ogl⟩
theorem dH.drew {w:World} {B:Nat} {d:aM} {x:eI} (h:dH w B d x):dH w.drew B d x:=
 ⟨h.j.drew,h.n.drew,h.l.drew,h.gj.drew,h.gn.drew,h.gl.drew,h.lj,h.ln,h.ll,h.lgj,h.lgn,h.lgl,h.bj,h.bn,h.bl,h.bgj,h.bgn,h.bgl,h.oj,h.on_,h.ol,h.ogj,h.ogn,h.ogl⟩
theorem dH.upS {w w':World} {d:aM} {x:eI} (h:dH w w.heap.size d x) (hb:Below w.heap.size w w'):dH w' w'.heap.size d x:=(h.below hb).more hb.size
theorem zm {w0 a b:World} {V g:Nat} (h:w0.grownBy a (some V)) (hg:a.grownBy b (some g)) (hn:w0.heap.size≤g):w0.grownBy b (some V):=
 ⟨hg.os.trans h.os,hg.tape.trans h.tape,hg.output.trans h.output,Nat.le_trans h.size hg.size,fun k hk hne=>(hg.block k (Nat.lt_of_lt_of_le hk h.size) (by simp; omega)).trans (h.block k hk hne)⟩
theorem grown_of {w0 a:World} (V:Nat) (h:Below w0.heap.size w0 a):w0.grownBy a (some V):=
 ⟨h.os,h.tape,h.output,h.size,fun k hk _=>h.block k hk⟩
structure SdE (T:TypeId) (w0:World) (V DD:Nat) (st1:ak) (x1:StA) (wY:Int) (D:aM) (dx:eI) (rc dc:Array Value) (w:World):Prop where
 v:Blk w V T (wZ st1 x1 wY)
 at_:StAt w w.heap.size st1 x1
 del:dH w w.heap.size D dx
 db:Blk w DD 45 (dC D dx)
 r:Blk w (w0.heap.size+1) 42 rc
 d:Blk w (w0.heap.size+2) 45 dc
 gr:w0.grownBy w (some V)
 lt:V<w0.heap.size
 dd:w0.heap.size+3≤DD
section
variable {T:TypeId} {w0 w w':World} {V DD:Nat} {st1:ak} {x1:StA} {wY:Int} {D:aM} {dx:eI} {rc dc rc' dc':Array Value}
theorem SdE.drew (h:SdE T w0 V DD st1 x1 wY D dx rc dc w):SdE T w0 V DD st1 x1 wY D dx rc dc w.drew:=
 ⟨h.v,h.at_.drew,h.del.drew,h.db,h.r,h.d,⟨h.gr.os,h.gr.tape,h.gr.output,h.gr.size,h.gr.block⟩,h.lt,h.dd⟩
theorem SdE.CJ (h:SdE T w0 V DD st1 x1 wY D dx rc dc w) (hn:jC rc) (hg:w.grownBy w' (some (w0.heap.size+1))) (hb:Blk w' (w0.heap.size+1) 42 rc'):SdE T w0 V DD st1 x1 wY D dx rc' dc w':=by
 have h1:=h.lt
 have h2:=h.dd
 exact⟨aE hg h.v (by omega),(h.at_.gS h.r hn hg).more hg.size,(h.del.gS h.r hn hg).more hg.size,aE hg h.db (by omega),hb,aE hg h.d (by omega),zm h.gr hg (by omega),h.lt,h.dd⟩
theorem SdE.CK (h:SdE T w0 V DD st1 x1 wY D dx rc dc w) (hn:jC dc) (hg:w.grownBy w' (some (w0.heap.size+2))) (hb:Blk w' (w0.heap.size+2) 45 dc'):SdE T w0 V DD st1 x1 wY D dx rc dc' w':=by
 have h1:=h.lt
 have h2:=h.dd
 exact⟨aE hg h.v (by omega),(h.at_.gS h.d hn hg).more hg.size,(h.del.gS h.d hn hg).more hg.size,aE hg h.db (by omega),aE hg h.r (by omega),hb,zm h.gr hg (by omega),h.lt,h.dd⟩
theorem SdE.LA (h:SdE T w0 V DD st1 x1 wY D dx rc dc w) (m:Int):SdE T w0 V DD st1 x1 m D dx rc dc (w.setCell ⟨V,4,none⟩ (.int .i64 m)):=by
 have h1:=h.lt
 have h2:=h.dd
 have hg:=aD w V 4 (.int .i64 m)
 exact⟨Blk.eq (h.v.set 4 _) rfl,(h.at_.gS h.v (nu _ _ _) hg).more hg.size,(h.del.gS h.v (nu _ _ _) hg).more hg.size,aE hg h.db (by omega),aE hg h.r (by omega),aE hg h.d (by omega),dI h.gr hg,h.lt,h.dd⟩
theorem SdE.end_ (h:SdE T w0 V DD st1 x1 wY D dx rc dc w) {st:ak} {R:qI} (h1:R.st=st1) (h2:R.now=wY) (h3:D=if R.ch=true then cM st R.st else zD):mM T V st R w0 (.returned (.tuple #[.agg #[.int .i64 R.e,.int .i64 R.st.rev],.agg (dC D dx),.bool R.ch])) w:=
 ⟨D,dx,x1,rfl,h3,h.del,by rw [h1,h2]; exact h.v,by rw [h1]; exact h.at_,h.gr⟩
end
theorem eJ {st:ak} (h:aG st=0):mU st.jobs∧lB st.nodes∧jK st.leases:=by
 obtain⟨_,_,h3,h4,h5,_⟩:=bC.1 h
 refine⟨fun j hj=>?_,fun n hn=>?_,fun l hl=>?_⟩
 · have hz:=gP (eQ h3 hj)
   have:=eO hz.1
   have:=jS hz.2.1
   omega
 · have hz:=jT (eQ h4 hn)
   have:=eO hz.1
   have:=jS hz.2.1
   omega
 · have hz:=eQ h5 hl
   unfold fN at hz
   split at hz
   · rename_i hb
     simp only [Bool.and_eq_true] at hb
     obtain⟨j,hj⟩:=Option.isSome_iff_exists.1 hb.1
     obtain⟨n,hn⟩:=Option.isSome_iff_exists.1 hb.2
     have ej:j.name=l.job:=by simpa using List.find?_some hj
     have en:n.name=l.node:=by simpa using List.find?_some hn
     have hj2:=eO (gP (eQ h3 (List.mem_of_find?_eq_some hj))).1
     have hn2:=eO (jT (eQ h4 (List.mem_of_find?_eq_some hn))).1
     rw [ej] at hj2
     rw [en] at hn2
     omega
   · omega
theorem nU {q:aU} (h:eF q=0):1≤q.kind∧q.kind≤9∧(q.kind=7→0≤q.n∧q.n≤1099511627776):=by
 unfold eF at h
 split at h
 · cases h
 rename_i hr
 split at h
 · cases h
 have hk:1≤q.kind∧q.kind≤9:=by
  cases h1:ranged q.kind 1 9 with
  | false=>exact absurd h1 hr
  | true=>exact aZ.1 h1
 refine⟨hk.1,hk.2,fun hk=>?_⟩
 unfold eV at h
 rw [hk] at h
 simp only [show ¬ (7:Int)=1 from by decide,show ¬ (7:Int)=2 from by decide,show ¬ (7:Int)=3 from by decide,show ¬ (7:Int)=4 from by decide,show ¬ (7:Int)=5 from by decide,show ¬ (7:Int)=6 from by decide,or_false,if_false,if_true] at h
 by_cases hr:ranged q.n 0 1099511627776=true
 · exact aZ.1 hr
 · rw [if_neg hr] at h; cases h
def rcP (E rev:Int):Nat→Array Value
 | 0=>#[.int .i64 0,.int .i64 0]
 | _=>#[.int .i64 E,.int .i64 rev]
def dcP (D:aM) (dx:eI):Nat→Array Value
 | 0=>#[.int .i64 0,.int .i64 0,.slice none 0 0,.slice none 0 0,.slice none 0 0,.slice none 0 0,.slice none 0 0,.slice none 0 0]
 | 1=>#[.int .i64 0,.int .i64 0,.slice none 0 0,.slice none 0 0,.slice none 0 0,.slice none 0 0,.slice none 0 0,.slice none 0 0]
 | _=>dC D dx
def Gw (V:Nat) (st1:ak) (E:Int) (D:aM) (dx:eI) (ch:Bool):Nat→Value→Prop
 | 0,u=>u = .int .i64 E
 | 1,u=>u = .pointer (some ⟨V,0,none⟩)
 | 2,u=>u = .pointer (some ⟨V,0,none⟩)
 | 3,u=>u = .pointer (some ⟨V,0,none⟩)
 | 4,u=>u = .pointer (some ⟨V,0,none⟩)
 | 5,u=>u = .int .i64 st1.rev
 | 6,u=>u = .agg #[.int .i64 E,.int .i64 st1.rev]
 | 7,u=>u = .agg #[.int .i64 D.from_,.int .i64 D.to_,.slice dx.aj dx.nj dx.cj,.slice dx.an dx.nn dx.cn,.slice dx.al dx.nl dx.cl,.slice dx.agj dx.ngj dx.cgj,.slice dx.agn dx.ngn dx.cgn,.slice dx.agl dx.ngl dx.cgl]
 | 8,u=>u = .bool ch
 | 11,u=>u = .bool ch
 | _,_=>True
end Go.Proofs.YtoeejfhdjmkpcaaGreatDoor
/- serve.same: do two states hold the same rows? -/
namespace Go.Proofs.YtoeejfhdjmkpcaaGreatDoor
open Go.Lib (hid)
open Go.RowKit
def qd (a b:ak) (w:World) (e:Ending) (w':World):Prop:=
 ∃ t:Bool,e = .returned (.bool t)∧(t=true↔a.jobs=b.jobs∧a.nodes=b.nodes∧a.leases=b.leases)∧Below w.heap.size w w'
structure wP (w:World) (a b:ak) (x y:StA) (wx:World):Prop where
 below:Below w.heap.size w wx
 b1:Blk wx w.heap.size 26 (stC a x)
 b2:Blk wx (w.heap.size+1) 26 (stC b y)
theorem wP.next {w w' wx:World} {a b:ak} {x y:StA} (h:wP w a b x y wx) (hb:Below wx.heap.size wx w'):wP w a b x y w':=
 ⟨h.below.trans (hb.mono h.below.size),h.b1.below hb h.b1.lt,h.b2.below hb h.b2.lt⟩
theorem zn {w wx:World} {sz n:Nat} {A:Option Addr} {xs:List Value} (h:aQ w w.heap.size sz A n xs) (hb:Below w.heap.size w wx):aQ wx wx.heap.size sz A n xs:=(h.below hb).more hb.size
theorem uy (a b:ak) (x y:StA) (w:World) (hA:StAt w w.heap.size a x) (hB:StAt w w.heap.size b y) :
 Calls Tryz.prog 46 #[.agg (stC a x),.agg (stC b y)] w (qd a b w):=by
 obtain⟨W,hW⟩:∃ W,(w.alloc (.cells (stC a x) 26)).alloc (.cells (stC b y) 26)=W:=⟨_,rfl⟩
 have H0:=hid (show wP w a b x y W from by
  rw [← hW]
  refine⟨((Below.refl _ _).alloc (Nat.le_refl _) _).alloc (by simp) _,Blk.alloc (show Blk _ _ _ _ from heap_alloc_new w _) _,?_⟩
  have:=heap_alloc_new (w.alloc (.cells (stC a x) 26)) (.cells (stC b y) 26)
  rwa [show (w.alloc (.cells (stC a x) 26)).heap.size=w.heap.size+1 by simp] at this)
 have HA:=hid hA
 have HB:=hid hB
 clear hA hB
 have x1:W.cell? ⟨w.heap.size,1,none⟩=some (.slice x.aj x.nj x.cj):=H0.out.b1.cell 1
 have y1:W.cell? ⟨w.heap.size+1,1,none⟩=some (.slice y.aj y.nj y.cj):=H0.out.b2.cell 1
 have HJ:=hid (Gx a.jobs b.jobs x.aj y.aj x.nj y.nj x.cj y.cj W (zn HA.out.j H0.out.below) (zn HB.out.j H0.out.below) HA.out.lj HB.out.lj HA.out.bj HB.out.bj)
 unfold stC at hW ⊢
 go_enter Tryz.func46,Tryz.ntmps46
 go_wp2_with fail
 try rw [hW]
 clear hW
 refine Calls.mono HJ.out ?_
 rintro e w1 ⟨t1,rfl,ht1,hb1⟩
 have H1:=hid (H0.out.next hb1)
 have Ht1:=hid ht1
 clear hb1 ht1 HJ x1 y1 H0
 cases t1
 · have fin:=hid (show qd a b w (.returned (.bool false)) w1 from ⟨false,rfl,⟨fun h=>(by cases h),fun h=>absurd (Ht1.out.2 h.1) (by decide)⟩,H1.out.below⟩)
   go_wp2
   go_ret
   exact fin.out
 have x2:w1.cell? ⟨w.heap.size,2,none⟩=some (.slice x.an x.nn x.cn):=H1.out.b1.cell 2
 have y2:w1.cell? ⟨w.heap.size+1,2,none⟩=some (.slice y.an y.nn y.cn):=H1.out.b2.cell 2
 have HN:=hid (EK a.nodes b.nodes x.an y.an x.nn y.nn x.cn y.cn w1 (zn HA.out.n H1.out.below) (zn HB.out.n H1.out.below) HA.out.ln HB.out.ln HA.out.bn HB.out.bn)
 go_wp2_with fail
 refine Calls.mono HN.out ?_
 rintro e w2 ⟨t2,rfl,ht2,hb2⟩
 have H2:=hid (H1.out.next hb2)
 have Ht2:=hid ht2
 clear hb2 ht2 HN x2 y2 H1
 cases t2
 · have fin:=hid (show qd a b w (.returned (.bool false)) w2 from ⟨false,rfl,⟨fun h=>(by cases h),fun h=>absurd (Ht2.out.2 h.2.1) (by decide)⟩,H2.out.below⟩)
   go_wp2
   go_ret
   exact fin.out
 have x3:w2.cell? ⟨w.heap.size,3,none⟩=some (.slice x.al x.nl x.cl):=H2.out.b1.cell 3
 have y3:w2.cell? ⟨w.heap.size+1,3,none⟩=some (.slice y.al y.nl y.cl):=H2.out.b2.cell 3
 have HL:=hid (CD a.leases b.leases x.al y.al x.nl y.nl x.cl y.cl w2 (zn HA.out.l H2.out.below) (zn HB.out.l H2.out.below) HA.out.ll HB.out.ll HA.out.bl HB.out.bl)
 go_wp2_with fail
 refine Calls.mono HL.out ?_
 rintro e w3 ⟨t3,rfl,ht3,hb3⟩
 have H3:=hid (H2.out.next hb3)
 have Ht3:=hid ht3
 clear hb3 ht3 HL x3 y3 H2
 have fin:=hid (show qd a b w (.returned (.bool t3)) w3 from ⟨t3,rfl,⟨fun h=>⟨Ht1.out.1 (by trivial),Ht2.out.1 (by trivial),Ht3.out.1 h⟩,fun h=>Ht3.out.2 h.2.2⟩,H3.out.below⟩)
 cases t3
 · go_wp2
   go_ret
   exact fin.out
 · go_wp2
   go_ret
   exact fin.out
end Go.Proofs.YtoeejfhdjmkpcaaGreatDoor
/- req.Check at the kinds without a part, and at no kind; req.Check at any request. -/
namespace Go.Proofs.YtoeejfhdjmkpcaaGreatDoor
open Go.Lib (hid)
open Go.RowKit
theorem LB (q:aU) (w:World) (hq:q.kind=8):Calls Tryz.prog 133 #[bT q] w fun e w'=>e = .returned (.iface 338 (.agg #[]))∧Below w.heap.size w w':=by
 obtain⟨W,hW⟩:∃ W,w.alloc (.cells (aT q) 40)=W:=⟨_,rfl⟩
 have hb:Blk W w.heap.size 40 (aT q):=by rw [← hW]; exact heap_alloc_new w _
 have hbW:Below w.heap.size w W:=by rw [← hW]; exact (Below.refl _ _).alloc (Nat.le_refl _) _
 have h0:W.cell? ⟨w.heap.size,0,none⟩=some (.int .i64 8):=by rw [hb.cell 0,← hq]; rfl
 have HbW:=hid hbW
 unfold bT
 unfold aT at hW ⊢
 clear hq hb hbW
 go_enter Tryz.func133,Tryz.ntmps133
 go_wp2
 try rw [hW]
 clear hW
 go_ret
 exact⟨rfl,HbW.out⟩
theorem LC (q:aU) (w:World) (hq:q.kind=9):Calls Tryz.prog 133 #[bT q] w fun e w'=>e = .returned (.iface 338 (.agg #[]))∧Below w.heap.size w w':=by
 obtain⟨W,hW⟩:∃ W,w.alloc (.cells (aT q) 40)=W:=⟨_,rfl⟩
 have hb:Blk W w.heap.size 40 (aT q):=by rw [← hW]; exact heap_alloc_new w _
 have hbW:Below w.heap.size w W:=by rw [← hW]; exact (Below.refl _ _).alloc (Nat.le_refl _) _
 have h0:W.cell? ⟨w.heap.size,0,none⟩=some (.int .i64 9):=by rw [hb.cell 0,← hq]; rfl
 have HbW:=hid hbW
 unfold bT
 unfold aT at hW ⊢
 clear hq hb hbW
 go_enter Tryz.func133,Tryz.ntmps133
 go_wp2
 try rw [hW]
 clear hW
 go_ret
 exact⟨rfl,HbW.out⟩
theorem LD (q:aU) (w:World) (hq:ranged q.kind 1 9=false):Calls Tryz.prog 133 #[bT q] w fun e w'=>e = .returned .nilIface∧Below w.heap.size w w':=by
 obtain⟨W,hW⟩:∃ W,w.alloc (.cells (aT q) 40)=W:=⟨_,rfl⟩
 have hb:Blk W w.heap.size 40 (aT q):=by rw [← hW]; exact heap_alloc_new w _
 have hbW:Below w.heap.size w W:=by rw [← hW]; exact (Below.refl _ _).alloc (Nat.le_refl _) _
 have h0:W.cell? ⟨w.heap.size,0,none⟩=some (.int .i64 q.kind):=hb.cell 0
 have hk:=iw.1 hq
 have d1:(q.kind == 1)=false:=beq_false_of_ne (by omega)
 have d2:(q.kind == 2)=false:=beq_false_of_ne (by omega)
 have d3:(q.kind == 3)=false:=beq_false_of_ne (by omega)
 have d4:(q.kind == 4)=false:=beq_false_of_ne (by omega)
 have d5:(q.kind == 5)=false:=beq_false_of_ne (by omega)
 have d6:(q.kind == 6)=false:=beq_false_of_ne (by omega)
 have d7:(q.kind == 7)=false:=beq_false_of_ne (by omega)
 have d8:(q.kind == 8)=false:=beq_false_of_ne (by omega)
 have d9:(q.kind == 9)=false:=beq_false_of_ne (by omega)
 have HbW:=hid hbW
 unfold bT
 unfold aT at hW ⊢
 clear hq hb hbW hk
 go_enter Tryz.func133,Tryz.ntmps133
 go_wp2
 try rw [hW]
 clear hW
 go_ret
 exact⟨rfl,HbW.out⟩
theorem EL (p:Value) (w:World):Calls Tryz.prog 487 #[.agg #[],p] w fun e w'=>e = .returned (.tuple #[])∧Below w.heap.size w w':=by
 go_enter Tryz.func487,Tryz.ntmps487
 go_wp2
 go_end0
 exact⟨rfl,(Below.refl _ _).alloc (Nat.le_refl _) _⟩
theorem vF (w:World):Calls Tryz.prog 486 #[.agg #[]] w (cL 0 w):=by
 go_enter Tryz.func486,Tryz.ntmps486
 go_wp2
 go_ret
 exact⟨rfl,(Below.refl _ _).alloc (Nat.le_refl _) _⟩
end Go.Proofs.YtoeejfhdjmkpcaaGreatDoor
/- req.Check at the kinds without a part, and at no kind; req.Check at any request. -/
namespace Go.Proofs.YtoeejfhdjmkpcaaGreatDoor
open Go.Lib (hid)
open Go.RowKit
theorem xg (q:aU) (w:World):Calls Tryz.prog 134 #[.int .i64 q.kind,.iface 338 (.agg #[])] w fun e w'=>e = .returned (bT (iZ q.kind))∧Below w.heap.size w w':=
 lL q.kind _ _ 487 _ w (fun _=>by kernel_rfl) (fun _ _=>by kernel_rfl) (fun W S hb hS hs=>(EL _ W).mono fun e w' h=>⟨h.1,hs.below h.2 hs.lt,fun g hg _=>h.2.block g hg,h.2.mono (Nat.le_of_lt hs.lt)⟩)
theorem Gy (q:aU) (w:World) (hq:q.kind=8):Calls Tryz.prog 44 #[bT q] w (cL (eF q) w):=by
 refine gB q (iZ q.kind) w 338 486 0 (fun v _=>v = .agg #[]) (fun _ _ _ h _=>h) ?_ (nV (by rw [hq]; rfl) (by unfold q8; simp [hq,iZ]) (by unfold eV; simp [hq])) (fun w=>(LB q w hq).mono fun e w' h=>⟨_,h.1,rfl,h.2⟩) ?_ ?_ ?_ ?_
 · exact fun _ _=>rfl
 · rintro v wx rfl
   exact xg q wx
 · rintro v wx rfl w'
   kernel_rfl
 · exact fun _ _=>by kernel_rfl
 · rintro v wy rfl hb
   exact vF wy
theorem Gz (q:aU) (w:World) (hq:q.kind=9):Calls Tryz.prog 44 #[bT q] w (cL (eF q) w):=by
 refine gB q (iZ q.kind) w 338 486 0 (fun v _=>v = .agg #[]) (fun _ _ _ h _=>h) ?_ (nV (by rw [hq]; rfl) (by unfold q8; simp [hq,iZ]) (by unfold eV; simp [hq])) (fun w=>(LC q w hq).mono fun e w' h=>⟨_,h.1,rfl,h.2⟩) ?_ ?_ ?_ ?_
 · exact fun _ _=>rfl
 · rintro v wx rfl
   exact xg q wx
 · rintro v wx rfl w'
   kernel_rfl
 · exact fun _ _=>by kernel_rfl
 · rintro v wy rfl hb
   exact vF wy
theorem GA (q:aU) (w:World) (hq:ranged q.kind 1 9=false):Calls Tryz.prog 44 #[bT q] w (cL (eF q) w):=by
 obtain⟨W,hW⟩:∃ W,w.alloc (.cells (aT q) 40)=W:=⟨_,rfl⟩
 have hb:Blk W w.heap.size 40 (aT q):=by rw [← hW]; exact heap_alloc_new w _
 have hbW:Below w.heap.size w W:=by rw [← hW]; exact (Below.refl _ _).alloc (Nat.le_refl _) _
 have HPt:=hid (LD q W hq)
 have hre:eF q=1:=by unfold eF; rw [if_pos hq]
 rw [hre]
 obtain⟨c0,c1,c2,c3,c4,c5,c6,c7,c8,c9,c10,c11,c12,c13⟩:=Blk.c14 (hb)
 have hlt:=hb.lt
 have HbW:=hid hbW
 have HW:=hid hW
 clear hb hbW hre hW hq
 unfold bT at HPt ⊢
 unfold aT at HPt ⊢
 unfold aT at HW
 have hn:∀ (w:World),(binOp .eql 225 .nilIface .nilIface).run Tryz.prog w = .ok (.bool true) w:=fun _=>rfl
 go_enter Tryz.func44,Tryz.ntmps44
 go_wp2_with fail
 try simp only [HW.out]
 clear HW
 refine Calls.mono HPt.out ?_
 rintro e w1 ⟨rfl,hb1⟩
 have bO:=hid (show cL 1 w (.returned (.int .i64 1)) w1 from ⟨rfl,HbW.out.trans (hb1.mono HbW.out.size)⟩)
 clear hb1 HPt c0 c1 c2 c3 c4 c5 c6 c7 c8 c9 c10 c11 c12 c13 hlt
 go_wp2
 go_ret
 exact bO.out
theorem kE (q:aU) (w:World) (hok:ROk q) (hT:Tabs w):Calls Tryz.prog 44 #[bT q] w (cL (eF q) w):=by
 cases hr:ranged q.kind 1 9 with
 | false=>exact GA q w hr
 | true=>
  obtain⟨h1,h2⟩:=aZ.1 hr
  have:q.kind=1∨q.kind=2∨q.kind=3∨q.kind=4∨q.kind=5∨q.kind=6∨q.kind=7∨q.kind=8∨q.kind=9:=by omega
  rcases this with h | h | h | h | h | h | h | h | h
  · exact xq q w h hok hT
  · exact GB q w h hok hT
  · exact GC q w h hok hT
  · exact GD q w h hok hT
  · exact GE q w h hok hT
  · exact GF q w h hok hT
  · exact GG q w h hok hT
  · exact Gy q w h
  · exact Gz q w h
end Go.Proofs.YtoeejfhdjmkpcaaGreatDoor
/- An argument that is a list of requests, opened. -/
namespace Go.Proofs.YtoeejfhdjmkpcaaGreatDoor
open Go.Lib (hid)
open Go.ChangeShapes Go.WideShapes Go.ChangeAt Go.RowKit
structure sF (q:aU):Prop where
 kind:I64 q.kind
 job:wO q.job
 node:sE q.node
 lease:pZ q.lease
 name:Short q.name
 n:I64 q.n
def GH (q:aU):List Value:=(aT q).toList
theorem A8 (q:aU):(GH q).length=14:=rfl
theorem A9 : Tryz.prog.cellsOf 40 = 14:=by kernel_rfl
theorem JJ {H:Type} {enc:TypeId × Value→H} {W:World} {held:Bool} (n:Nat) (cs:List Value) (y:DataW H × List MemPlace) (h:DataW.trod enc Tryz.prog W 0 (fun _=>true) held n 40 cs=some y):∃ a:aU,cs=GH a∧sF a:=by
 obtain⟨xs,m,-,-,hl,hxs,hall⟩:=DataW.trod_struct Tryz.underlying40 h
 have hl2:cs.length=14:=hl.trans A9
 have Lz:xs.length=6:=hxs
 match cs,hl2 with
 | [v0,v1,v2,v3,v4,v5,v6,v7,v8,v9,v10,v11,v12,v13],_=>
  have q0:=hall 0 _ rfl
  rw [List.getElem?_eq_getElem (by omega)] at q0
  obtain⟨kd,e0,-,z0⟩:=DataW.trod_int Tryz.underlying3 q0
  replace e0:[v0]=[_]:=e0
  obtain rfl:=(List.cons.inj e0).1
  have q1:=hall 1 _ rfl
  rw [List.getElem?_eq_getElem (by omega)] at q1
  obtain⟨jb,e1,z1⟩:=Ea _ _ _ q1
  replace e1:[v1,v2,v3,v4,v5]=aJ jb:=e1
  simp only [aJ,List.cons.injEq,and_true] at e1
  obtain⟨rfl,rfl,rfl,rfl,rfl⟩:=e1
  have q2:=hall 2 _ rfl
  rw [List.getElem?_eq_getElem (by omega)] at q2
  obtain⟨nd,e2,z2⟩:=A6 _ _ _ q2
  replace e2:[v6,v7,v8]=aB nd:=e2
  simp only [aB,List.cons.injEq,and_true] at e2
  obtain⟨rfl,rfl,rfl⟩:=e2
  have q3:=hall 3 _ rfl
  rw [List.getElem?_eq_getElem (by omega)] at q3
  obtain⟨ls,e3,z3⟩:=zl _ _ _ q3
  replace e3:[v9,v10,v11]=ay ls:=e3
  simp only [ay,List.cons.injEq,and_true] at e3
  obtain⟨rfl,rfl,rfl⟩:=e3
  have q4:=hall 4 _ rfl
  rw [List.getElem?_eq_getElem (by omega)] at q4
  obtain⟨nm,e4,-,z4⟩:=DataW.trod_string Tryz.underlying9 q4
  replace e4:[v12]=[_]:=e4
  obtain rfl:=(List.cons.inj e4).1
  have q5:=hall 5 _ rfl
  rw [List.getElem?_eq_getElem (by omega)] at q5
  obtain⟨nn,e5,-,z5⟩:=DataW.trod_int Tryz.underlying3 q5
  replace e5:[v13]=[_]:=e5
  obtain rfl:=(List.cons.inj e5).1
  exact⟨⟨kd,jb,nd,ls,nm,nn⟩,rfl,eM z0,z1,z2,z3,lU z4,eM z5⟩
theorem EM {H:Type} {enc:TypeId × Value→H} {W:World} {r:Reach} {b0:Nat} {held:Bool} {v:Value} {d:DataW H} {p:List MemPlace}
 (hval:Value.okWide Tryz.prog W r b0 27 v) (hd:DataW.Trod enc Tryz.prog W 0 (fun _=>true) held 27 v d p) (hlt:∀ x ∈ p,x.block<W.heap.size) :
 ∃ (qs:List aU) (A:Option Addr) (n c:Nat),v = .slice A n c∧qs.length=n∧n≤9223372036854775807∧aQ W W.heap.size 14 A n (au GH qs)∧∀ q ∈ qs,sF q:=by
 obtain⟨A,n,c,rfl⟩:=okWide_slice Tryz.underlying27 hval
 obtain⟨fuel,hf⟩:=hd
 obtain⟨qs,A',n',c',e,h1,h2,h3,h4⟩:=p9 GH sF ⟨0,⟨⟨#[]⟩,0,0,0,⟨#[]⟩⟩,⟨⟨#[]⟩,0,⟨#[]⟩⟩,⟨⟨#[]⟩,⟨#[]⟩,0⟩,⟨#[]⟩,0⟩ Tryz.underlying27 A9 (by omega) A8 (fun n cs y h=>JJ n cs y h) hf hlt
 simp only [Value.cells,List.cons.injEq,Value.slice.injEq,and_true] at e
 obtain⟨rfl,rfl,rfl⟩:=e
 exact⟨qs,_,_,_,rfl,h1,h2,h3,h4⟩
end Go.Proofs.YtoeejfhdjmkpcaaGreatDoor
