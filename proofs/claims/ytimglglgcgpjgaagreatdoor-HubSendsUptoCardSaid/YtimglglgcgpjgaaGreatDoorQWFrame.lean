/- Of the proof of a statement: ByteRow, ButFd, PlJp, SdE, SvSame, WFrame, RqRd, Frames, Frm, ArgSt, WServeL. -/
import Derived.Lib.AtoiAll
import Derived.Lib.AtoiAllCases
import Derived.Lib.Small
import Derived.Test.YtimglglgcgpjgaaGreatDoorRows
import Derived.WalkKit
import Derived.ProofKit
import Derived.OpenShut
import Derived.ShutString
import Derived.ChangeOld
import Derived.Below
import Derived.Lib.SmallJoins
import Derived.Deep.Slices
import Derived.Test.YtimglglgcgpjgaaGreatDoorQRcE
import Derived.Test.YtimglglgcgpjgaaGreatDoorQWPutV
set_option linter.unusedVariables false
set_option linter.unusedSimpArgs false
set_option maxRecDepth 100000
set_option maxHeartbeats 8000000
namespace Go.Proofs.YtimglglgcgpjgaaGreatDoor
open Go.RowKit
open Go.Lib (hasPrefix trimPrefix itoa atoiAll atoiSat decDigits)
open Go.ChangeShapes Go.WideShapes Go.ChangeAt Go.RowKit
def ByteRow (w:World) (v:Value) (l:List UInt8):Prop:=
 (v = .slice none 0 0/\l=[])\/∃ g more,v = .slice (some ⟨g,0,none⟩) l.length (l ++ more).length/\(l ++ more).length<=maxLen/\Blk w g 5 (bK (l ++ more)).toArray
theorem ByteRow.blk {w:World} {v:Value} {l:List UInt8} (h:ByteRow w v l) {g:Nat} (b:v.ownBlock=some g):∃ cs,Blk w g 5 cs/\gL cs:=by
 rcases h with ⟨rfl,_⟩ | ⟨q,more,rfl,_,c⟩
 · cases b
 · injection b with b;subst b;refine⟨_,c,nT fun u d s e=>?_⟩;subst e;simp [bK] at d
theorem ByteRow.keep {w w':World} {v:Value} {l:List UInt8} (h:ByteRow w v l) (c:∀ g,v.ownBlock=some g->w'.heap[g]? = w.heap[g]?):ByteRow w' v l:=by
 rcases h with h | ⟨g,more,rfl,d,b⟩
 · exact .inl h
 · exact .inr ⟨g,more,rfl,d,(c g rfl).trans b⟩
theorem ByteRow.owns {w:World} {v:Value} {l:List UInt8} (h:ByteRow w v l):w.ownsRow 0 5 1 v l.length (bK l):=by
 refine⟨by rw [fF,Nat.mul_one],?_⟩;rcases h with ⟨rfl,rfl⟩ | ⟨g,more,rfl,c,b⟩
 · exact .inl ⟨rfl,rfl⟩
 · refine .inr ⟨g,_,_,rfl,Nat.zero_le _,b,by rw [List.length_append]; omega,c,by simp [fF],?_⟩;rw [Nat.mul_one,iA];simp only;rw [List.take_left' (fF l)]
theorem ByteRow.shape {w:World} {v:Value} {l:List UInt8} (h:ByteRow w v l):∃ A c,v = .slice A l.length c:=by
 rcases h with ⟨rfl,rfl⟩ | ⟨g,more,rfl,_⟩
 · exact⟨_,_,rfl⟩
 · exact⟨_,_,rfl⟩
theorem ByteRow.nil (w:World):ByteRow w (.slice none 0 0) []:=.inl ⟨rfl,rfl⟩
theorem GN (k:Nat):Builtin.zeroCells (Value.cells (.int .u8 0)) k=(bK (List.replicate k 0)).toArray:=by
 have h:∀ k,(Builtin.zeroCells (Value.cells (.int .u8 0)) k).toList=bK (List.replicate k 0):=by
  intro k;simp only [Builtin.zeroCells,Value.cells,bK,Array.toList_map,Array.toList_range,List.map_replicate]
  apply List.ext_getElem
  · simp
  · intro j b c;simp [Nat.mod_one]
 rw [<- h k]
section
variable {P:Program} {w:World} {ops:Array Oper} {rest:List Oper} {o:Oper} {a:Act} {Q:Exit->Act->World->Prop}
theorem Dq {t u ty:TypeId} {v:Value} {l:List UInt8} {s:ByteArray} {i:TypeInfo} (q:P.underlying t=some (.slice 5)) (r:P.underlying u=some .string) (hi:P.info? 5 = some i) (f:i.zero=some (.int .u8 0)) (B:i.size=1) (C:i.bytes=1) (c:ByteRow w v l) (G:0<s.size) (O:l.length+s.size<=70368744177664) :
 ∃ v' w',(Builtin.append_ #[t,u] ty #[v,s]).run P w = .ok v' w'/\ByteRow w' v' (l ++ s.data.toList)/\cY w w' v v':=by
 have R:s.data.toList.length=s.size:=by simp
 have J:=fun n b=>grownCap_ge w n b 5;have K:=fun n b (j:n<=maxLen)=>grownCap_le_maxLen w n b 5 j
 have h:∀ b,ByteRow (w.drew.alloc (.cells ((bK (l ++ s.data.toList)).toArray ++ Builtin.zeroCells (Value.cells (.int .u8 0)) (grownCap w (l.length+s.size) b 5 - (l.length+s.size))) 5)) (.slice (some ⟨w,0,none⟩) (l.length+s.size) (grownCap w (l.length+s.size) b 5)) (l ++ s.data.toList) /\
  cY w (w.drew.alloc (.cells ((bK (l ++ s.data.toList)).toArray ++ Builtin.zeroCells (Value.cells (.int .u8 0)) (grownCap w (l.length+s.size) b 5 - (l.length+s.size))) 5)) v (.slice (some ⟨w,0,none⟩) (l.length+s.size) (grownCap w (l.length+s.size) b 5)):=by
  intro b;obtain⟨k,e⟩:∃ k,grownCap w (l.length+s.size) b 5 = l.length+s.size+k:=⟨_,(Nat.add_sub_cancel' (J _ b)).symm⟩;have L:=K (l.length+s.size) b (by unfold maxLen; omega);rw [e,Nat.add_sub_cancel_left,GN] at *;have y:((l ++ s.data.toList) ++ List.replicate k 0).length=l.length+s.size+k:=by simp; omega
  have f:(l ++ s.data.toList).length=l.length+s.size:=by simp
  have d:Below w w (w.drew.alloc (.cells ((bK (l ++ s.data.toList)).toArray ++ (bK (List.replicate k 0)).toArray) 5)):=(θ).drew.alloc lJ _;refine⟨.inr ⟨w.heap.size,List.replicate k 0,by rw [y,f],by rw [y]; exact L,?_⟩,⟨⟨d.os,d.tape,d.output,d.size,fun k e _=>d.block k e⟩,.inr ⟨w.heap.size,rfl,lJ⟩⟩⟩;have j:=n5 w.drew (.cells ((bK (l ++ s.data.toList)).toArray ++ (bK (List.replicate k 0)).toArray) 5);rw [iA (l ++ s.data.toList)];simpa [Blk] using j
 rcases c with ⟨rfl,rfl⟩ | ⟨g,more,rfl,H,m⟩
 · have c:=run_append_nil_string (P:=P) w t u ty 5 i _ q r hi f s G (by omega) (by rw [C]; omega);have x:=h 0;simp only [List.length_nil,Nat.zero_add,List.nil_append] at x;refine⟨_,_,c,?_⟩;rw [show s.data.map (fun E=>Value.int .u8 (E.toNat:Int))=(bK s.data.toList).toArray from by apply Array.ext'; simp [bK]];exact x
 · by_cases p:l.length+s.size<=(l ++ more).length
   · have c:=Lib.run_append_room_string (P:=P) w t u ty 5 i q r hi B g l.length (l ++ more).length _ m s p (by simp [fF] at p |-; omega)
     have I:(((bK (l ++ more)).toArray.toList.take l.length ++ Lib.strCells s ++ (bK (l ++ more)).toArray.toList.drop (l.length+s.size)).toArray:Array Value)=(bK ((l ++ s.data.toList) ++ more.drop s.size)).toArray:=by
      rw [show Lib.strCells s=bK s.data.toList from rfl];simp only [iA,List.append_assoc]
      congr 1
      rw [List.take_left' (fF l)]
      congr 2
      rw [<- fF l,List.drop_append];simp [bK,List.map_drop]
     rw [I] at c;have M:w.grownBy (w.setRow g (bK ((l ++ s.data.toList) ++ more.drop s.size)).toArray) (some g):=⟨rfl,rfl,rfl,by simp,fun k _ e=>setRow_other w g k _ (fun F=>e (by simp [F]))⟩;have z:((l ++ s.data.toList) ++ more.drop s.size).length=(l ++ more).length:=by simp at p |-; omega
     exact⟨_,_,c,.inr ⟨g,more.drop s.size,by rw [z]; simp,by rw [z]; exact H,setRow_heap w g _ _ 5 _ m⟩,⟨M,.inl rfl⟩⟩
   · have c:=Lib.run_append_grow_string (P:=P) w t u ty 5 i _ q r hi f ⟨g,0,none⟩ l.length (l ++ more).length (bK l) (by rw [B,fF,Nat.mul_one]) (fun N S A=>by
      rw [Addr.add_lit]; have:=m.cell (0+N); rw [this,Nat.zero_add,iA]; simp only [List.getElem?_toArray]; rw [List.getElem?_append_left (List.getElem?_eq_some_iff.1 A).1]; exact A) s (by omega) (by omega) (growslice_fits (by omega) (by rw [C]; omega))
     rw [show (bK l).toArray ++ (Lib.strCells s).toArray=(bK (l ++ s.data.toList)).toArray by rw [iA,show Lib.strCells s=bK s.data.toList from rfl]; simp] at c;exact⟨_,_,c,(h _).1,(h _).2⟩
end
theorem DJ {w:World} {ops:Array Oper} {rest:List Oper} {o:Oper} {a:Act} {Q:Exit->Act->World->Prop} (f:o.guard=none) (s x:Operand) (j:o.op = .call { callee:=.builtin .append,args:=#[s,x],argTypes:=#[55,9] })
 (v:Value) (l:List UInt8) (n:a.eval s=v) (k:ByteRow w v l) (t:ByteArray) (p:a.eval x = .string t) (b:0<t.size) (i:l.length+t.size<=70368744177664)
 (h:∀ v' w',ByteRow w' v' (l ++ t.data.toList)->cY w w' v v'->wpList Tryz.prog ops Q rest (a.put o.dst v') w'):wpList Tryz.prog ops Q (o :: rest) a w:=by
 obtain⟨y,g,q,r,u⟩:=info_parts Tryz.infoU8;obtain⟨v',w',m,c,d⟩:=Dq (P:=Tryz.prog) (w:=w) (ty:=o.type) Tryz.underlying55 Tryz.underlying9 g q r u k b i;refine wpList_plain f fun _ e=>?_;unfold Oper.wp execOp;simp only [j,resolve,invoke,builtin,Sem.run_bind,Sem.run_pure,Result.andThen_ok,List.map_toArray,List.map_cons,List.map_nil,n,p,m];exact e _ _ (h v' w' c d)
theorem bC.vZ {W l:World} {B g sz n:Nat} {rest:ByteArray} {a st:Int} {A:Option Addr} {xs:List Value} (k:bC W B sz A n xs) (r:kB W g rest a st) (m:0<n->∃ s,xs[0]? = some (.string s)) (p:0<n->∃ (j:Nat) (u:Value),xs[j]? = some u/\(#[rest,a,st]:Array Value)[j]? ≠ some u)
 (v:W.grownBy l (some g)):bC l B sz A n xs:=
 ⟨k.len,fun d=>by
  obtain⟨i,b,e,q,f⟩:=k.at_ d;obtain⟨s,z⟩:=m d;obtain⟨j,u,h,x⟩:=p d;have c0:=f 0 _ z;have c:=f j _ h
  have t:i≠g:=fun e=>by
   subst e;rw [Blk.cell r] at c0 c
   have y:b=0:=by
    rcases b with _ | _ | _ | b
    · rfl
    · simp at c0
    · simp at c0
    · simp at c0
   subst y;rw [Nat.zero_add] at c;exact x c
  exact⟨i,b,e,q,fun j u h=>v.cell (f j u h) (fun e=>t (by simpa using e))⟩⟩
theorem uA {α:Type} {enc:α->List Value} {l:List α} {n:Nat} (h:l.length=n) (c:0<n):∃ a,∀ (j:Nat) u,(enc a)[j]? = some u->(au enc l)[j]? = some u:=by
 cases l with
 | nil=>simp at h; omega
 | cons a l=>
  refine⟨a,fun j u b=>?_⟩;obtain⟨hlt,_⟩:=List.getElem?_eq_some_iff.1 b;unfold au;rw [List.flatMap_cons,List.getElem?_append_left hlt]; exact b
theorem StAt.vZ {W e:World} {B g:Nat} {rest:ByteArray} {a st:Int} {s:ah} {x:StA} (h:StAt W B s x) (c:kB W g rest a st) (d:W.grownBy e (some g)):StAt e B s x:=
 ⟨h.j.vZ c (pz h.lj) (fun b=>by obtain⟨a,ha⟩:=uA (enc:=aS) h.lj b; exact⟨3,_,ha 3 _ rfl,by simp⟩) d,
  h.n.vZ c (nK h.ln) (fun b=>by obtain⟨a,ha⟩:=uA (enc:=aH) h.ln b; exact⟨2,_,ha 2 _ rfl,by simp⟩) d,
  h.l.vZ c (mg h.ll) (fun b=>by obtain⟨a,ha⟩:=uA (enc:=aB) h.ll b; exact⟨1,_,ha 1 _ rfl,by simp⟩) d,
  h.lj,h.ln,h.ll,h.bj,h.bn,h.bl,h.oj,h.on_,h.ol⟩
def BA (l:List UInt8):ByteArray:=⟨l.toArray⟩
theorem NM (s:ByteArray):BA s.data.toList=s:=rfl
theorem G4 (l:List UInt8):(BA l).data.toList=l:=rfl
theorem oO (l:List UInt8):(BA l).size=l.length:=by show l.toArray.size=l.length; simp
theorem By (s:ByteArray):s.data.toList.length=s.size:=by rw [Array.length_toList]; rfl
theorem Ml (s:ByteArray) (k:Nat):(s.extract k s.size).data.toList=s.data.toList.drop k:=by
 rw [ByteArray.data_extract,Array.toList_extract,List.extract_eq_take_drop,List.take_of_length_le];rw [List.length_drop,By];exact lJ
theorem LN (l:List UInt8) (k:Nat):(BA l).extract k (BA l).size=BA (l.drop k):=by
 have h:=Ml (BA l) k;rw [G4] at h;rw [<- NM ((BA l).extract k (BA l).size),h]
abbrev zD:aX:=⟨0,0,[],[],[],[],[],[]⟩
abbrev zA:eF:=⟨none,0,0,none,0,0,none,0,0,none,0,0,none,0,0,none,0,0⟩
theorem pA {l:List ByteArray} {n:Nat} (h:l.length=n) (b:0<n):∃ s,(au lR l)[0]? = some (.string s):=by
 match l,h with
 | [],h=>simp at h; omega
 | a :: l,_=>exact⟨a,rfl⟩
theorem rL (d:aX) (x:eF):gL (dC d x):=nT (by
 intro v b s;simp only [dC,List.mem_toArray,List.mem_cons,List.not_mem_nil,or_false] at b;rcases b with rfl | rfl | rfl | rfl | rfl | rfl | rfl | rfl <;> simp)
theorem dz.fY {w w':World} {B g:Nat} {t:TypeId} {cs:Array Value} {d:aX} {x:eF} (h:dz w B d x) (b:Blk w g t cs) (c:gL cs) (e:w.grownBy w' (some g)):dz w' B d x:=
 ⟨h.j.fY b c (pz h.lj) e,h.n.fY b c (nK h.ln) e,h.l.fY b c (mg h.ll) e,h.gj.fY b c (pA h.lgj) e,h.gn.fY b c (pA h.lgn) e,h.gl.fY b c (pA h.lgl) e,
  h.lj,h.ln,h.ll,h.lgj,h.lgn,h.lgl,h.bj,h.bn,h.bl,h.bgj,h.bgn,h.bgl,h.oj,h.on_,h.ol,h.ogj,h.ogn,h.ogl⟩
theorem dz.oB {w:World} {B V:Nat} {t:TypeId} {cs:Array Value} {d:aX} {x:eF} (h:dz w B d x) (b:Blk w V t cs) (c:gL cs):AX V x:=
 ⟨h.j.oB b c (pz h.lj),h.n.oB b c (nK h.ln),h.l.oB b c (mg h.ll),h.gj.oB b c (pA h.lgj),h.gn.oB b c (pA h.lgn),h.gl.oB b c (pA h.lgl)⟩
theorem dz.drew {w:World} {B:Nat} {d:aX} {x:eF} (h:dz w B d x):dz w.drew B d x:=
 ⟨h.j.drew,h.n.drew,h.l.drew,h.gj.drew,h.gn.drew,h.gl.drew,h.lj,h.ln,h.ll,h.lgj,h.lgn,h.lgl,h.bj,h.bn,h.bl,h.bgj,h.bgn,h.bgl,h.oj,h.on_,h.ol,h.ogj,h.ogn,h.ogl⟩
theorem dz.upS {w w':World} {d:aX} {x:eF} (h:dz w w d x) (b:Below w w w'):dz w' w' d x:=(h.below b).more b.size
theorem uq {w0 a b:World} {V g:Nat} (h:w0.grownBy a (some V)) (c:a.grownBy b (some g)) (f:w0.heap.size<=g):w0.grownBy b (some V):=
 ⟨c.os.trans h.os,c.tape.trans h.tape,c.output.trans h.output,v6 h.size c.size,fun k d e=>(c.block k (u7 d h.size) (by simp; omega)).trans (h.block k d e)⟩
theorem grown_of {w0 a:World} (V:Nat) (h:Below w0 w0 a):w0.grownBy a (some V):=
 ⟨h.os,h.tape,h.output,h.size,fun k b _=>h.block k b⟩
structure SdE (tl:List Value) (T:TypeId) (w0:World) (V DD:Nat) (st1:ah) (x1:StA) (yQ:Int) (D:aX) (dx:eF) (rc dc:Array Value) (w:World):Prop where
 v:Blk w V T (EH tl st1 x1 yQ)
 at_:StAt w w st1 x1
 del:dz w w D dx
 db:Blk w DD 95 (dC D dx)
 r:Blk w (w0.heap.size+1) 92 rc
 d:Blk w (w0.heap.size+2) 95 dc
 gr:w0.grownBy w (some V)
 lt:V<w0.heap.size
 dd:w0.heap.size+3<=DD
 far:Far V x1
 fd:AX V dx
section
variable {tl:List Value} {T:TypeId} {w0 w w':World} {V DD:Nat} {st1:ah} {x1:StA} {yQ:Int} {D:aX} {dx:eF} {rc dc rc' dc':Array Value}
theorem SdE.drew (h:SdE tl T w0 V DD st1 x1 yQ D dx rc dc w):SdE tl T w0 V DD st1 x1 yQ D dx rc dc w.drew:=
 ⟨h.v,h.at_.drew,h.del.drew,h.db,h.r,h.d,⟨h.gr.os,h.gr.tape,h.gr.output,h.gr.size,h.gr.block⟩,h.lt,h.dd,h.far,h.fd⟩
theorem SdE.BM (h:SdE tl T w0 V DD st1 x1 yQ D dx rc dc w) (c:gL rc) (b:w.grownBy w' (some (w0.heap.size+1))) (e:Blk w' (w0.heap.size+1) 92 rc'):SdE tl T w0 V DD st1 x1 yQ D dx rc' dc w':=by
 have f:=h.lt;have g:=h.dd;exact⟨ay b h.v (by omega),(h.at_.fY h.r c b).more b.size,(h.del.fY h.r c b).more b.size,ay b h.db (by omega),e,ay b h.d (by omega),uq h.gr b (by omega),h.lt,h.dd,h.far,h.fd⟩
theorem SdE.M9 (h:SdE tl T w0 V DD st1 x1 yQ D dx rc dc w) (c:gL dc) (b:w.grownBy w' (some (w0.heap.size+2))) (e:Blk w' (w0.heap.size+2) 95 dc'):SdE tl T w0 V DD st1 x1 yQ D dx rc dc' w':=by
 have f:=h.lt;have g:=h.dd;exact⟨ay b h.v (by omega),(h.at_.fY h.d c b).more b.size,(h.del.fY h.d c b).more b.size,ay b h.db (by omega),ay b h.r (by omega),e,uq h.gr b (by omega),h.lt,h.dd,h.far,h.fd⟩
theorem SdE.Pg (h:SdE tl T w0 V DD st1 x1 yQ D dx rc dc w) (m:Int):SdE tl T w0 V DD st1 x1 m D dx rc dc (sX w V 4 (.int .i64 m)):=by
 have c:=h.lt;have e:=h.dd;have b:=aR w V 4 (.int .i64 m);exact⟨Blk.eq (h.v.set 4 _) rfl,(h.at_.qR h.far b).more b.size,(h.del.qR h.fd b).more b.size,ay b h.db (by omega),ay b h.r (by omega),ay b h.d (by omega),aP h.gr b,h.lt,h.dd,h.far,h.fd⟩
theorem SdE.end_ (h:SdE tl T w0 V DD st1 x1 yQ D dx rc dc w) {st:ah} {R:lF} (b:R.st=st1) (c:R.now=yQ) (d:D=if R.ch=true then dL st R.st else zD):ou tl T V st R w0 (.returned (.tuple #[.agg #[R.e,R.st.rev],.agg (dC D dx),.bool R.ch])) w:=
 ⟨D,dx,x1,rfl,d,h.del,h.fd,by rw [b,c]; exact h.v,by rw [b]; exact h.at_,h.far,h.gr⟩
theorem SdE.NK (h:SdE [] T w0 V DD st1 x1 yQ D dx rc dc w) {st:ah} {R:lF} (c:R.st=st1) (d:R.now=yQ) (f:D=if R.ch=true then dL st R.st else zD) (g:∀ b,b<w0.heap.size->sE T V w0 b->Far b x1):lL T V st R w0 (.returned (.tuple #[.agg #[R.e,R.st.rev],.agg (dC D dx),.bool R.ch])) w:=
 ⟨D,dx,x1,rfl,f,h.del,by rw [c,d]; exact h.v,by rw [c]; exact h.at_,h.gr,g⟩
end
theorem gu {st:ah} (k:aE st=0):oF st.jobs/\mP st.nodes/\lI st.leases:=by
 obtain⟨_,_,f,g,m,_⟩:=cV.1 k;refine⟨fun j c=>?_,fun n d=>?_,fun l q=>?_⟩
 · have b:=oX (fC f c);have:=eV b.1;have:=nH b.2.1;omega
 · have b:=pM (fC g d);have:=eV b.1;have:=nH b.2.1;omega
 · have b:=fC m q;unfold dN at b
   split at b
   · rename_i e
     simp only [Bool.and_eq_true] at e;obtain⟨j,c⟩:=Option.isSome_iff_exists.1 e.1;obtain⟨n,d⟩:=Option.isSome_iff_exists.1 e.2;have h:j.name=l.job:=by simpa using List.find?_some c
     have i:n.name=l.node:=by simpa using List.find?_some d
     have p:=eV (oX (fC f (List.mem_of_find?_eq_some c))).1;have r:=eV (pM (fC g (List.mem_of_find?_eq_some d))).1;rw [h] at p;rw [i] at r;omega
   · omega
theorem AZ {q:aK} (h:cO q=0):1<=q.kind/\q.kind<=9/\(q.kind=7->0<=q.n/\q.n<=1099511627776):=by
 unfold cO at h
 split at h
 · cases h
 rename_i c
 split at h
 · cases h
 have b:1<=q.kind/\q.kind<=9:=by
  cases d:ranged q.kind 1 9 with
  | false=>exact absurd d c
  | true=>exact aM.1 d
 refine⟨b.1,b.2,fun b=>?_⟩;unfold eQ at h;rw [b] at h;simp only [show ¬ (7:Int)=1 from by decide,show ¬ (7:Int)=2 from by decide,show ¬ (7:Int)=3 from by decide,show ¬ (7:Int)=4 from by decide,show ¬ (7:Int)=5 from by decide,show ¬ (7:Int)=6 from by decide,or_false,if_false,if_true] at h;by_cases c:ranged q.n 0 1099511627776=true
 · exact aM.1 c
 · rw [if_neg c] at h; cases h
def rcP (E rev:Int):Nat->Array Value
 | 0=>#[.int .i64 0,.int .i64 0]
 | _=>#[.int .i64 E,.int .i64 rev]
def dcP (D:aX) (dx:eF):Nat->Array Value
 | 0=>#[.int .i64 0,.int .i64 0,.slice none 0 0,.slice none 0 0,.slice none 0 0,.slice none 0 0,.slice none 0 0,.slice none 0 0]
 | 1=>#[.int .i64 0,.int .i64 0,.slice none 0 0,.slice none 0 0,.slice none 0 0,.slice none 0 0,.slice none 0 0,.slice none 0 0]
 | _=>dC D dx
def EI (V:Nat) (st1:ah) (E:Int) (D:aX) (dx:eF) (b:Bool):Nat->Value->Prop
 | 0,u=>u = .int .i64 E
 | 1,u=>u = π V 0
 | 2,u=>u = π V 0
 | 3,u=>u = π V 0
 | 4,u=>u = π V 0
 | 5,u=>u = .int .i64 st1.rev
 | 6,u=>u = .agg #[.int .i64 E,.int .i64 st1.rev]
 | 7,u=>u = .agg #[.int .i64 D.from_,.int .i64 D.to_,.slice dx.aj dx.nj dx.cj,.slice dx.an dx.nn dx.cn,.slice dx.al dx.nl dx.cl,.slice dx.agj dx.ngj dx.cgj,.slice dx.agn dx.ngn dx.cgn,.slice dx.agl dx.ngl dx.cgl]
 | 8,u=>u = .bool b
 | 11,u=>u = .bool b
 | _,_=>True
def uB (a b:ah) (w:World) (e:Ending) (w':World):Prop:=
 ∃ t:Bool,e = .returned (.bool t)/\(t=true↔a.jobs=b.jobs/\a.nodes=b.nodes/\a.leases=b.leases)/\Below w w w'
structure zV (w:World) (a b:ah) (x y:StA) (wx:World):Prop where
 below:Below w w wx
 b1:Blk wx w 26 (stC a x)
 b2:Blk wx (w.heap.size+1) 26 (stC b y)
theorem zV.next {w w' d:World} {a b:ah} {x y:StA} (h:zV w a b x y d) (c:Below d d w'):zV w a b x y w':=
 ⟨h.below.trans (c.mono h.below.size),h.b1.below c h.b1.lt,h.b2.below c h.b2.lt⟩
theorem Cy {w b:World} {sz n:Nat} {A:Option Addr} {xs:List Value} (h:bC w w sz A n xs) (c:Below w w b):bC b b sz A n xs:=(h.below c).more c.size
theorem yN (a b:ah) (x y:StA) (w:World) (F:StAt w w a x) (G:StAt w w b y) :
 ψ 82 #[.agg (stC a x),.agg (stC b y)] w (uB a b w):=by
 obtain⟨W,m⟩:∃ W,(w.alloc (.cells (stC a x) 26)).alloc (.cells (stC b y) 26)=W:=⟨_,rfl⟩
 have i:=ω (show zV w a b x y W from by
  rw [<- m];refine⟨((θ).alloc lJ _).alloc (by simp) _,Blk.alloc (show Blk _ _ _ _ from n5 w _) _,?_⟩;have:=n5 (χ w (stC a x) 26) (.cells (stC b y) 26);rwa [show (w.alloc (.cells (stC a x) 26)).heap.size=w.heap.size+1 by simp] at this)
 have c:=ω F;have d:=ω G;clear F G;have x1:ζ W w 1 (.slice x.aj x.nj x.cj):=i.b1.cell 1;have Y:ζ W (w.heap.size+1) 1 (.slice y.aj y.nj y.cj):=i.b2.cell 1;have s:=ω (Bo.1 a.jobs b.jobs x.aj y.aj x.nj y.nj x.cj y.cj W (Cy c.j i.below) (Cy d.j i.below) c.lj d.lj c.bj d.bj);unfold stC at m |-;go_enter Tryz.func82,Tryz.ntmps82
 go_wp2_with fail
 try rw [m]
 clear m;refine s.mono ?_;rintro E p ⟨O,rfl,K,H⟩;have e:=ω (i.next H);have z:=ω K;clear H K s x1 Y i;cases O
 · have k:=ω (show uB a b w (.returned (.bool false)) p from ⟨false,rfl,⟨fun h=>(by cases h),fun h=>absurd (z.z.2 h.1) (by decide)⟩,e.below⟩);go_wp2;go_ret;exact k
 have U:ζ p w 2 (.slice x.an x.nn x.cn):=e.b1.cell 2;have Z:ζ p (w.heap.size+1) 2 (.slice y.an y.nn y.cn):=e.b2.cell 2;have v:=ω (Bo.2 a.nodes b.nodes x.an y.an x.nn y.nn x.cn y.cn p (Cy c.n e.below) (Cy d.n e.below) c.ln d.ln c.bn d.bn)
 go_wp2_with fail
 refine v.mono ?_;rintro E q ⟨R,rfl,L,I⟩;have g:=ω (e.next I);have B:=ω L;clear I L v U Z e;cases R
 · have k:=ω (show uB a b w (.returned (.bool false)) q from ⟨false,rfl,⟨fun h=>(by cases h),fun h=>absurd (B.z.2 h.2.1) (by decide)⟩,g.below⟩);go_wp2;go_ret;exact k
 have X:ζ q w 3 (.slice x.al x.nl x.cl):=g.b1.cell 3;have y3:ζ q (w.heap.size+1) 3 (.slice y.al y.nl y.cl):=g.b2.cell 3;have u:=ω (GO a.leases b.leases x.al y.al x.nl y.nl x.cl y.cl q (Cy c.l g.below) (Cy d.l g.below) c.ll d.ll c.bl d.bl)
 go_wp2_with fail
 refine u.mono ?_;rintro E S ⟨r,rfl,M,J⟩;have N:=ω (g.next J);have C:=ω M;clear J M u X y3 g;have k:=ω (show uB a b w (.returned (.bool r)) S from ⟨r,rfl,⟨fun h=>⟨z.z.1 (by trivial),B.z.1 (by trivial),C.z.1 h⟩,fun h=>C.z.2 h.2.2⟩,N.below⟩);cases r
 · go_wp2;go_ret;exact k
 · go_wp2;go_ret;exact k
def lA (st:ah) (v:Int):ByteArray × Int:=if (jY st v).2≠0 then (⟨#[]⟩,(jY st v).2) else (uU v 1 (jY st v).1)
def q8 (st:ah) (v:Int) (w:World) (e:Ending) (w':World):Prop:=e = .returned (.tuple #[.string (lA st v).1,.int .i64 (lA st v).2])/\Below w w w'
theorem q8.mk' {st:ah} {v E:Int} {s:ByteArray} {w w':World} (h:lA st v=(s,E)) (b:Below w w w'):q8 st v w (.returned (.tuple #[s,E])) w':=⟨by rw [h],b⟩
theorem wu :
 (∀ (st:ah) (x:StA) (v:Int) (w:World) (d:StAt w w st x) (p:Tabs w),ψ 86 #[.agg (stC st x),v] w (q8 st v w)) /\
 (∀ (st:ah) (x:StA) (v:Int) (w:World) (d:StAt w w st x),ψ 59 #[.agg (stC st x),v] w (q8 st v w)):=by
 refine⟨@fun st x v w d p=>(fun(i:Unit)=>?_) (),@fun st x v w d=>(fun(z:Unit)=>?_) ()⟩<;>(
 first|(guard_hyp i;have B:=@G3)|(have B:=@Eo)
 have g:Below w w (χ w (stC st x) 26):=(θ).alloc lJ _
 first
  |(
   guard_hyp i
   have e:=Fh st x v _ (d.up g) (p.below g))
  |(
   guard_hyp z
   have e:=Fi st x v _ (d.up g))
 have y:=ω (fun I E (G:lA st v=(I,E)) w'=>q8.mk' (w:=w) (w':=w') G);have j:=ω (show lA st v=if (jY st v).2≠0 then (⟨#[]⟩,(jY st v).2) else (uU v 1 (jY st v).1) from rfl);have u:=ω g;unfold vT at e;obtain⟨T,q⟩:∃ T,(jY st v).1=T:=⟨_,rfl⟩;obtain⟨E,m⟩:∃ E,(jY st v).2=E:=⟨_,rfl⟩;rw [q,m] at e j;have s:=ω e
 first
  |(
   guard_hyp i
   clear g d e q m p)
  |(
   guard_hyp z
   clear g d e q m)
 obtain⟨rev,jobs,nodes,leases⟩:=st;obtain⟨K,U,N,M,X,R,L,W,O⟩:=x;unfold stC at *;dsimp only at *
 first|(guard_hyp i;go_enter Tryz.func86,Tryz.ntmps86)|go_enter Tryz.func59,Tryz.ntmps59
 go_wp2_with fail
 refine s.mono ?_;rintro F J ⟨rfl,c⟩;have k:=ω (u.trans (c.mono u.size));clear c s;by_cases l:E=0;rotate_left
 · have S:(E != 0)=true:=bne_iff_ne.2 l;have r:=ω (y.z _ _ (by rw [j.z,if_pos l]) _ k.z);go_wp2;go_ret2;exact r
 subst l;have n:=j.z;rw [if_neg (by simp)] at n;have h:=B v 1 T J;unfold iq at h;obtain⟨a,ha⟩:∃ a,(uU v 1 T).1=a:=⟨_,rfl⟩;obtain⟨b,c⟩:∃ b,(uU v 1 T).2=b:=⟨_,rfl⟩;rw [ha,c] at h;have C:=ω h;have r:=ω (y.z a b (by rw [n,<- ha,<- c]));clear h ha c n
 go_wp2_with fail
 refine C.mono ?_;rintro F Y ⟨rfl,c⟩;have H:=ω (r.z _ (k.trans (c.mono k.size)));clear c;go_wp2;go_ret2;exact H)
theorem GP {s:ByteArray} (h:s.size≠0):(s.toList != [])=true:=by unfold bne; rw [oN h]; rfl
theorem Ds {s:ByteArray} (h:s.size≠0):(s.toList != ByteArray.toList ⟨#[]⟩)=true:=by unfold bne; rw [mZ h]; rfl
theorem P0 (g:Nat) (σ:RR Unit) (w:World) (j:RxS w g σ) (n:σ.Good Bk) :
 ψ 78 #[π g 0] w fun l w'=>l = .returned (.int .i64 (Ag σ:Int))/\w.grownBy w' (some g):=by
 obtain⟨s,x,d,h⟩:∃ (s:ByteArray) (x:Nat),rR w g s x/\((x=0/\Ag σ=(if s.size=0 then 0 else 4))\/(x≠0/\Ag σ=x)):=by
  cases σ with
  | ok C s=>exact⟨s,0,j,.inl ⟨rfl,rfl⟩⟩
  | bad x=>obtain⟨s,_,d⟩:=j; exact⟨s,x,d,.inr ⟨n.1,rfl⟩⟩
 obtain⟨E,m⟩:∃ E,Ag σ=E:=⟨_,rfl⟩;rw [m] at h |-;have u:ζ w g 0 (.string s):=Blk.cell d 0;have v:ζ w g 1 (.int .i64 (x:Int)):=Blk.cell d 1;have p:=ω d;clear j m d n;by_cases c:s.size=0
 · obtain rfl:=nP c
   have i:E=x:=by
    rcases h with ⟨e,b⟩ | ⟨e,b⟩
    · rw [if_pos c] at b; omega
    · exact b
   subst i;clear h c;go_enter Tryz.func78,Tryz.ntmps78;go_wp2;go_ret;exact⟨rfl,bO _ _⟩
 · have y:=GP c;have z:=Ds c;have B:=AU c
   have i:(if x=0 then 4 else x)=E:=by
    rcases h with ⟨e,b⟩ | ⟨e,b⟩
    · rw [if_neg c] at b; rw [if_pos e]; exact b.symm
    · rw [if_neg e]; exact b.symm
   have q:=ω i;clear h c i;go_enter Tryz.func78,Tryz.ntmps78
   go_wp2_with fail
   refine Calls.mono (Dn g s 4 x _ p.z) ?_;rintro l t ⟨rfl,k,r⟩;rw [q.z] at k;have x1:ζ t g 1 (.int .i64 (E:Int)):=Blk.cell k 1;clear k u v;go_wp2;go_ret;exact⟨rfl,r⟩
theorem Nr {v k:Int} {p s:ByteArray} {x:Int} (h:uU v k p=(s,x)) (w:World) :
 ψ 64 #[.agg #[v,k,p]] w fun e w'=>e = .returned (.tuple #[s,x])/\Below w w w':=
 (Eo v k p w).mono fun e w' ⟨b,c⟩=>⟨by rw [b,h],c⟩
theorem own:ownKnob Tryz.prog.godebug=none:=by kernel_rfl
theorem laidOut:laidOutB Tryz.prog = true:=by kernel_rfl
theorem jQ {n:Int} (h:(Lit.int .i64 n).wf=true) : -9223372036854775808<=n/\n<=9223372036854775807:=by
 simp only [Lit.wf,IntKind.min,IntKind.max,IntKind.signed,IntKind.bits,Bool.and_eq_true,decide_eq_true_eq,if_true] at h;omega
def I64 (n:Int):Prop:=-9223372036854775808<=n/\n<=9223372036854775807
def Short (s:ByteArray):Prop:=s.size<=9223372036854775807
def Dt (j:aC):Prop:=Short j.name/\I64 j.prio/\I64 j.need/\I64 j.tries/\Short j.tag
def Bz (n:av):Prop:=Short n.name/\I64 n.room/\Short n.zone
def yR (l:ak):Prop:=Short l.job/\Short l.node/\I64 l.till
theorem yT {H α:Type} {enc:TypeId × Value->H} {W:World} {t:Bool} {O:Nat} {cs:List Value} {x:DataW H × List MemPlace} {K e:TypeId} {sz:Nat} (f:α->List Value) (ok:α->Prop) (M:α)
 (ht : Tryz.prog.underlying K=some (.slice e)) (U : Tryz.prog.cellsOf e=sz) (k:0<sz) (h:∀ a,(f a).length=sz)
 (N:∀ n l y,DataW.trod enc Tryz.prog W 0 (fun _=>true) t n e l=some y->∃ a:α,l=f a/\ok a)
 (R:DataW.trod enc Tryz.prog W 0 (fun _=>true) t O K cs=some x) (hlt:∀ z ∈ x.2,z.block<W.heap.size) :
 ∃ (xs:List α) (A:Option Addr) (n c:Nat),cs=[.slice A n c]/\xs.length=n/\n<=9223372036854775807/\bC W W sz A n (au f xs)/\∀ a ∈ xs,ok a:=by
 haveI:Inhabited α:=⟨M⟩
 rcases Go.Deep.open_slice ht R with ⟨rfl,-⟩ | ⟨a,len,ab,I,n,D,Pl,rfl,hb,hl,X,E,rfl,G⟩
 · exact⟨[],none,0,0,rfl,rfl,by omega,bC.nil,by simp⟩
 · simp only [if_true] at E;subst E;rw [U] at G hlt
   obtain⟨m,B⟩:=Go.Deep.choose_lt (α:=α) (p:=fun i u=>W.cells? 0 (a.add (i*sz)) sz=some (f u)/\ok u) (fun i g=>by
    obtain⟨l,b,S⟩:=G i g;obtain⟨u,rfl,d⟩:=N _ _ _ S;exact⟨u,b,d⟩)
   have s:∀ i,i<I->∀ j,j<sz->W.cell? ((a.add (i*sz)).add j)=(f (m i))[j]?:=fun i g j q=>(World.cells?_some (B i g).1).2.2 j q;refine⟨(List.range len).map m,some a,len,I,rfl,by simp,by unfold maxLen at X; omega,⟨by rw [jo h]; simp,fun hn=>?_⟩,fun u d=>?_⟩
   · have L:∃ v,W.cell? ((a.add (0*sz)).add 0)=some v:=by
      rw [s 0 (by omega) 0 k];exact⟨_,gO (by rw [h]; exact k)⟩
     obtain⟨v,hv⟩:=L;obtain⟨r,J,aa⟩:=a;have Z:aa=none:=by simpa [Addr.add] using World.cell?_spot hv
     subst Z;refine⟨r,J,rfl,?_,fun j u d=>?_⟩
     · refine hlt (.cell r J) (List.mem_append_left _ (MemPlace.mem_row.2 ⟨0,?_,rfl⟩));exact Nat.mul_pos (by omega) k
     · have q:j<len*sz:=by
        rcases Nat.lt_or_ge j (len*sz) with b | b
        · exact b
        · rw [List.getElem?_eq_none (by rw [jo h]; simpa using b)] at d; cases d
       have Y:j / sz<len:=Nat.div_lt_of_lt_mul (by rw [Nat.mul_comm]; exact q);have F:j % sz<sz:=Nat.mod_lt _ k;have C:j=j / sz*sz+j % sz:=by rw [Nat.mul_comm]; exact (Nat.div_add_mod j sz).symm
       have b:=s (j / sz) (by omega) (j % sz) F;rw [add_plain,add_plain,Nat.add_assoc,<- C] at b;rw [b,<- d]
       conv=>rhs; rw [C]
       rw [tS h _ _ _ (m (j / sz)) (by simp [Y]) F]
   · obtain⟨i,g,rfl⟩:=List.mem_map.1 d;exact (B i (by have:=List.mem_range.1 g; omega)).2
theorem Fj : Tryz.prog.cellsOf 85 = 5:=by kernel_rfl
theorem Cz : Tryz.prog.cellsOf 70 = 3:=by kernel_rfl
theorem BB : Tryz.prog.cellsOf 66 = 3:=by kernel_rfl
theorem GQ : Tryz.prog.cellsOf 26 = 4:=by kernel_rfl
theorem tQ {s:ByteArray} (h:s.size<=maxLen):Short s:=by unfold maxLen at h; unfold Short; omega
theorem NN {H:Type} {enc:TypeId × Value->H} {W:World} {p:Bool} (n:Nat) (cs:List Value) (y:DataW H × List MemPlace) (m:DataW.trod enc Tryz.prog W 0 (fun _=>true) p n 85 cs=some y):∃ a:aC,cs=aS a/\Dt a:=by
 obtain⟨J,O,-,-,q,s,b⟩:=DataW.trod_struct Tryz.underlying85 m;have r:cs.length=5:=q.trans Fj;have N:J.length=5:=s
 match cs,r with
 | [C,E,F,G,I],_=>
  have h:=b 0 _ rfl;rw [List.getElem?_eq_getElem (by omega)] at h;obtain⟨u,c,-,K⟩:=DataW.trod_string Tryz.underlying9 h;replace c:[C]=[_]:=c;obtain rfl:=(List.cons.inj c).1;have i:=b 1 _ rfl;rw [List.getElem?_eq_getElem (by omega)] at i;obtain⟨v,d,-,L⟩:=DataW.trod_int Tryz.underlying3 i;replace d:[E]=[_]:=d;obtain rfl:=(List.cons.inj d).1;have j:=b 2 _ rfl;rw [List.getElem?_eq_getElem (by omega)] at j;obtain⟨x,e,-,z2⟩:=DataW.trod_int Tryz.underlying3 j;replace e:[F]=[_]:=e;obtain rfl:=(List.cons.inj e).1;have k:=b 3 _ rfl;rw [List.getElem?_eq_getElem (by omega)] at k;obtain⟨z,f,-,M⟩:=DataW.trod_int Tryz.underlying3 k;replace f:[G]=[_]:=f;obtain rfl:=(List.cons.inj f).1;have l:=b 4 _ rfl;rw [List.getElem?_eq_getElem (by omega)] at l;obtain⟨B,g,-,z4⟩:=DataW.trod_string Tryz.underlying9 l;replace g:[I]=[_]:=g;obtain rfl:=(List.cons.inj g).1;exact⟨⟨u,v,x,z,B⟩,rfl,tQ K,jQ L,jQ z2,jQ M,tQ z4⟩
theorem BC :
 (∀ {H:Type} {enc:TypeId × Value->H} {W:World} {b:Bool} (n:Nat) (cs:List Value) (y:DataW H × List MemPlace) (h:DataW.trod enc Tryz.prog W 0 (fun _=>true) b n 70 cs=some y),∃ a:av,cs=aH a/\Bz a) /\
 (∀ {H:Type} {enc:TypeId × Value->H} {W:World} {b:Bool} (n:Nat) (cs:List Value) (y:DataW H × List MemPlace) (h:DataW.trod enc Tryz.prog W 0 (fun _=>true) b n 66 cs=some y),∃ a:ak,cs=aB a/\yR a):=by
 refine⟨@fun H enc W b n cs y h=>(fun(g:Unit)=>?_) (),@fun H enc W b n cs y h=>?_⟩<;>(
 first|(guard_hyp g;have k:=@Tryz.underlying70;have l:=@Cz;have m:=@jQ;have p:=@tQ)|(have k:=@Tryz.underlying66;have l:=@BB;have m:=@tQ;have p:=@jQ)
 obtain⟨G,K,-,-,v,z,f⟩:=DataW.trod_struct k h;have x:cs.length=3:=v.trans l;have J:G.length=3:=z
 match cs,x with
 | [C,E,F],_=>
  have q:=f 0 _ rfl;rw [List.getElem?_eq_getElem (by omega)] at q;obtain⟨B,e,-,I⟩:=DataW.trod_string Tryz.underlying9 q;replace e:[C]=[_]:=e;obtain rfl:=(List.cons.inj e).1;have i:=f 1 _ rfl;rw [List.getElem?_eq_getElem (by omega)] at i
  first|(guard_hyp g;obtain⟨r,c,-,u⟩:=DataW.trod_int Tryz.underlying3 i)|obtain⟨r,c,-,u⟩:=DataW.trod_string Tryz.underlying9 i
  replace c:[E]=[_]:=c;obtain rfl:=(List.cons.inj c).1;have j:=f 2 _ rfl;rw [List.getElem?_eq_getElem (by omega)] at j
  first|(guard_hyp g;obtain⟨s,d,-,z2⟩:=DataW.trod_string Tryz.underlying9 j)|obtain⟨s,d,-,z2⟩:=DataW.trod_int Tryz.underlying3 j
  replace d:[F]=[_]:=d;obtain rfl:=(List.cons.inj d).1;exact⟨⟨B,r,s⟩,rfl,tQ I,m u,p z2⟩)
structure Mn (st:ah):Prop where
 rev:I64 st.rev
 jobs:∀ j ∈ st.jobs,Dt j
 nodes:∀ n ∈ st.nodes,Bz n
 leases:∀ l ∈ st.leases,yR l
theorem Gk {H:Type} {enc:TypeId × Value->H} {W:World} {aa:Reach} {m:Nat} {O:Bool} {v:Value} {d:DataW H} {p:List MemPlace}
 (X:Value.okWide Tryz.prog W aa m 26 v) (N:DataW.Trod enc Tryz.prog W 0 (fun _=>true) O 26 v d p) (hlt:∀ x ∈ p,x.block<W.heap.size) :
 ∃ (st:ah) (x:StA),v = .agg (stC st x)/\StAt W W st x/\Mn st:=by
 obtain⟨v0,v1,v2,v3,y0,y1,y2,y3,n,rfl,rfl,rfl,J,K,L,M⟩:=Joins.open_agg4 Tryz.underlying26 (by kernel_rfl) GQ X N;obtain⟨rev,E,-,zr⟩:=DataW.trod_int Tryz.underlying3 J;obtain⟨Y,j,nj,u,F,Z,q,R,f⟩:=yT aS Dt ⟨⟨#[]⟩,0,0,0,⟨#[]⟩⟩ Tryz.underlying22 Fj (by omega) aT (fun n c y h=>NN n c y h) K (fun z e=>hlt z (by simp [e]));obtain⟨ns,l,nn,C,G,ln,s,U,i⟩:=yT aH Bz ⟨⟨#[]⟩,0,⟨#[]⟩⟩ Tryz.underlying23 Cz (by omega) aO (fun n c y h=>BC.1 n c y h) L (fun z e=>hlt z (by simp [e]));obtain⟨ls,k,nl,B,I,ll,r,S,g⟩:=yT aB yR ⟨⟨#[]⟩,⟨#[]⟩,0⟩ Tryz.underlying24 BB (by omega) aI (fun n c y h=>BC.2 n c y h) M (fun z e=>hlt z (by simp [e]));obtain rfl:=(List.cons.inj E).1;obtain rfl:=(List.cons.inj F).1;obtain rfl:=(List.cons.inj G).1;obtain rfl:=(List.cons.inj I).1
 exact⟨⟨rev,Y,ns,ls⟩,⟨j,nj,u,l,nn,C,k,nl,B⟩,rfl,⟨R,U,S,Z,ln,ll,q,s,r,fun x b=>⟨(f x b).1,(f x b).2.2.2.2⟩,fun x b=>⟨(i x b).1,(i x b).2.2⟩,fun x b=>⟨(g x b).1,(g x b).2.1⟩⟩,
  ⟨jQ zr,f,i,g⟩⟩
theorem Du {ops:Array Oper} {o p:Oper} {a:Act} {j t:Nat} {b:Bool} (c:ops[j]? = some p) (d:p.dst=some t) (e:a.tmps[t]? = some (.bool b)) (f:o.guard=some (j,b)):Region.wanted o (yielded ops a.tmps)=true:=by
 unfold Region.wanted yielded;rw [f];simp only [c,Option.bind_some,d,e];cases b <;> rfl
theorem GR {P:Program} {ops:Array Oper} {o p:Oper} {a:Act} {w:World} {j t:Nat} (b:Bool) {K:Act->World->Prop} {Q:Exit->Act->World->Prop} (d:ops[j]? = some p) (e:p.dst=some t) (f:o.guard=some (j,b)) (c:∃ u,a.tmps[t]? = some u/\u = .bool b) (g:o.wp P a w K Q):rP P ops o a w K Q:=by
 obtain⟨u,c,rfl⟩:=c;unfold rP;rw [Du d e c f,if_pos rfl];exact g
theorem okR {Γ:Type} {P:Program} {ops:Array Oper} {V:Γ->Nat->Value->Prop} {f:Act} {S:List Nat} {d:Nat->Γ->World->Prop} {Q:Exit->Act->World->Prop} {i:Nat} {o m:Oper} (b:Bool) (j t:Nat) (h:ops[j]? = some m) (k:m.dst=some t) (y:o.guard=some (j,b)) (G:∀ c u,V c j u->u = .bool b)
 (q:∀ p c a w,0<=p->p<=0->d p c w->Knows ops (V c) f i o a->o.wp P a w (fun n w'=>∃ u e,n=a.put o.dst u/\(∀ j v,j≠i->V c j v->V e j v)/\V e i u/\d p e w') Q)
 (r:i ∉ S:=by decide) (A:loB S o 0=true:=by decide +kernel) (z:hiB ops S i 0=true:=by decide +kernel) (s:waitsFor o j=true:=by decide +kernel):A9 P ops V S d f Q i o:=
 .inr ⟨r,0,0,A,z,fun p c a w E C B l=>GR b h k y (by obtain⟨u,F,x⟩:=l.g j t h k s; exact⟨u,F,G c u x⟩) (q p c a w E C B l)⟩
theorem SrvAt.drew {w:World} {T:TypeId} {B:Nat} {st:ah} {x:StA} {now:Int} (h:SrvAt w T B st x now):SrvAt w.drew T B st x now:=⟨h.blk,h.at_.drew,h.ok,h.t⟩
end Go.Proofs.YtimglglgcgpjgaaGreatDoor
