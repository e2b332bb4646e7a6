/- Of the proof of a statement: PlPlay, PlSends, ReqDM, SrcA, SrcRow. -/
import Derived.Test.YtimglglgcgpjgaaGreatDoorQDEnc
set_option linter.unusedVariables false
set_option linter.unusedSimpArgs false
set_option maxRecDepth 100000
set_option maxHeartbeats 8000000
namespace Go.Proofs.YtimglglgcgpjgaaGreatDoor
open Go.RowKit
theorem JJ (s:ByteArray):(jK s).1.pay.size<=s.size:=by
 unfold jK
 split
 · split
   split
   · split
     · exact Nat.zero_le _
     · split
       · exact Nat.zero_le _
       · split
         · simp only [ByteArray.size_extract]; omega
         · exact Nat.zero_le _
   · exact Nat.zero_le _
 · exact Nat.zero_le _
theorem Frs.pays {s:ByteArray} {a:List cM} {m e:Nat} (h:Frs s a m e):∀ f ∈ a,f.pay.size<=s.size:=by
 induction h with
 | stop _ _=>intro f d; cases d
 | @step s f n a m e c _ _ _ i=>
  intro g b;rcases List.mem_cons.1 b with rfl | b
  · have:=JJ s;rw [c] at this; exact this
  · have:=i g b;rw [ByteArray.size_extract] at this; omega
structure oo where
 conn:Int
 text:ByteArray
noncomputable def jM (s:ByteArray):List cM × Nat × Nat:=Classical.choose (show ∃ r:List cM × Nat × Nat,Frs s r.1 r.2.1 r.2.2 from by obtain⟨a,m,e,h⟩:=Frs.all s; exact⟨(a,m,e),h⟩)
theorem yj (s:ByteArray):Frs s (jM s).1 (jM s).2.1 (jM s).2.2:=Classical.choose_spec (show ∃ r:List cM × Nat × Nat,Frs s r.1 r.2.1 r.2.2 from by obtain⟨a,m,e,h⟩:=Frs.all s; exact⟨(a,m,e),h⟩)
section
variable (tl:ah->List UInt8) (rq:ByteArray->aK × Int)
noncomputable def zi (H:cL) (k:Nat) (p:ByteArray):cL:=
 jG tl rq H k ((H.cs k).rest ++ p) (jM ((H.cs k).rest ++ p)).1 (jM ((H.cs k).rest ++ p)).2.1 (jM ((H.cs k).rest ++ p)).2.2
end
section
variable {tl:ah->List UInt8} {rq:ByteArray->aK × Int}
theorem JK (st:ah) (b:ByteArray) (e:Int) (c:bf):(mD tl st b e c).closed=c.closed/\(mD tl st b e c).stuck=c.stuck/\(mD tl st b e c).rest=c.rest/\(mD tl st b e c).far=c.far:=by
 unfold mD
 split
 · exact⟨rfl,rfl,rfl,rfl⟩
 · split <;> exact⟨rfl,rfl,rfl,rfl⟩
theorem A6 (q:aK) (R:lF) (c:bf):(jw tl q R c).closed=c.closed/\(jw tl q R c).stuck=c.stuck/\(jw tl q R c).rest=c.rest/\(jw tl q R c).far=c.far:=by
 unfold jw
 split <;> exact⟨rfl,rfl,rfl,rfl⟩
theorem lu (H:cL) (D:aX) (i:Nat):((mE tl H D).cs i).closed=(H.cs i).closed/\((mE tl H D).cs i).stuck=(H.cs i).stuck/\((mE tl H D).cs i).rest=(H.cs i).rest/\((mE tl H D).cs i).far=(H.cs i).far:=by
 show (jF tl H.st (mh D).1 (mh D).2 H.cs 8 i).closed=_/\(jF tl H.st (mh D).1 (mh D).2 H.cs 8 i).stuck=_/\(jF tl H.st (mh D).1 (mh D).2 H.cs 8 i).rest=_/\(jF tl H.st (mh D).1 (mh D).2 H.cs 8 i).far=_
 unfold jF
 split
 · exact JK _ _ _ _
 · exact⟨rfl,rfl,rfl,rfl⟩
structure Feeds (k:Nat) (H H':cL):Prop where
 stuck:∀ i,(H'.cs i).stuck=(H.cs i).stuck
 rest:∀ i,(H'.cs i).rest=(H.cs i).rest
 far:∀ i,(H'.cs i).far=(H.cs i).far
 other:∀ i,i≠k->(H'.cs i).closed=(H.cs i).closed
 closed:∀ i,(H'.cs i).closed=false->(H.cs i).closed=false
theorem Feeds.refl (k:Nat) (H:cL):Feeds k H H:=⟨fun _=>rfl,fun _=>rfl,fun _=>rfl,fun _ _=>rfl,fun _ h=>h⟩
theorem Feeds.trans {k:Nat} {H c d:cL} (h:Feeds k H c) (a:Feeds k c d):Feeds k H d:=
 ⟨fun i=>(a.stuck i).trans (h.stuck i),fun i=>(a.rest i).trans (h.rest i),fun i=>(a.far i).trans (h.far i),fun i b=>(a.other i b).trans (h.other i b),fun i b=>h.closed i (a.closed i b)⟩
theorem yL {k:Nat} {H:cL} {st:ah} {now:Int} {c:bf} (d:c.stuck=(H.cs k).stuck) (g:c.rest=(H.cs k).rest) (j:c.far=(H.cs k).far) (l:c.closed=false->(H.cs k).closed=false):Feeds k H ⟨st,now,upd H.cs k c⟩:=by
 have b:∀ {m:Type} (f:bf->m),f c=f (H.cs k)->∀ i,f (upd H.cs k c i)=f (H.cs i):=fun f h i=>by
  by_cases e:i=k
  · subst e; rw [bL]; exact h
  · rw [upd_ne _ _ e]
 refine⟨b bf.stuck d,b bf.rest g,b bf.far j,fun i a=>?_,fun i a=>?_⟩
 · show (upd H.cs k c i).closed=_
   rw [upd_ne _ _ a]
 · have a:(upd H.cs k c i).closed=false:=a;by_cases e:i=k
   · subst e; rw [bL] at a; exact l a
   · rwa [upd_ne _ _ e] at a
theorem Fc (H:cL) (k:Nat) (f:cM):Feeds k H (jy tl rq H k f):=by
 have a:∀ e,Feeds k H (jS H k e):=fun e=>yL rfl rfl rfl (fun h=>by cases h);unfold jy
 split
 · exact a _
 · split
   · exact a _
   · unfold lW;obtain⟨c,d,g,j⟩:=A6 (tl:=tl) (rq f.pay).1 (lO H.st H.now (lG H.st H.now (rq f.pay).1)) (H.cs k);have b:=yL (H:=H) (k:=k) (st:=(lO H.st H.now (lG H.st H.now (rq f.pay).1)).st) (now:=(lO H.st H.now (lG H.st H.now (rq f.pay).1)).now) d g j (fun h=>by rw [<- c]; exact h);dsimp only
     split
     · refine b.trans ⟨fun i=>(lu _ _ i).2.1,fun i=>(lu _ _ i).2.2.1,fun i=>(lu _ _ i).2.2.2,fun i _=>(lu _ _ i).1,fun i h=>?_⟩;rw [<- (lu (tl:=tl) _ _ i).1]; exact h
     · exact b
theorem xB {k:Nat}:∀ (a:List cM) (H:cL),Feeds k H (bZ tl rq k H a)
 | [],H=>.refl k H
 | f :: a,H=>by
  rw [bZ];refine Feeds.trans ?_ (xB a _)
  split
  · exact .refl k H
  · exact Fc H k f
theorem Bp (H:cL) (k:Nat) (s:ByteArray) (a:List cM) (m e:Nat):Feeds k ⟨H.st,H.now,upd H.cs k (mF (H.cs k) s m e)⟩ (jG tl rq H k s a m e)/\(((jG tl rq H k s a m e).cs k).closed=false->e=3):=by
 unfold jG;have c:=xB (tl:=tl) (rq:=rq) (k:=k) a ⟨H.st,H.now,upd H.cs k (mF (H.cs k) s m e)⟩;dsimp only
 split
 · refine⟨c.trans (yL rfl rfl rfl (fun h=>by cases h)),fun h=>?_⟩;have h:bf.closed (upd _ k (Ac _ _ _) k)=false:=h;rw [bL] at h;cases h
 · rename_i d
   exact⟨c,fun h=>by
    by_cases b:e=3
    · exact b
    · exact absurd ⟨b,h⟩ d⟩
theorem Mc (g:∀ st,(tl st).length<=7000) (H:cL) (k:Nat) (s:ByteArray) (a:List cM) (m e:Nat) (i:Nat):((jG tl rq H k s a m e).cs i).waits.length<=(H.cs i).waits.length+a.length*21000+6020:=by
 have b:=(nV (tl:=tl) (rq:=rq) (k:=k) g a ⟨H.st,H.now,upd H.cs k (mF (H.cs k) s m e)⟩).1 i
 have d:(upd H.cs k (mF (H.cs k) s m e) i).waits=(H.cs i).waits:=by
  by_cases h:i=k
  · subst h; rw [bL]; rfl
  · rw [upd_ne _ _ h]
 dsimp only at b;rw [d] at b;unfold jG;dsimp only
 split
 · obtain⟨G,f⟩:∃ G,bZ tl rq k ⟨H.st,H.now,upd H.cs k (mF (H.cs k) s m e)⟩ a=G:=⟨_,rfl⟩;rw [f] at b |-;exact v6 (wo (c:=Ac e G.st.rev (G.cs k)) (n:=6020) (ng e G.st.rev (G.cs k)) i) (by omega)
 · omega
theorem vR (H:cL) (k i:Nat):((mG H k).cs i).closed=(H.cs i).closed/\((mG H k).cs i).stuck=(H.cs i).stuck/\((mG H k).cs i).rest=(H.cs i).rest/\((mG H k).cs i).far=(H.cs i).far:=by
 show (upd H.cs k _ i).closed=_/\(upd H.cs k _ i).stuck=_/\(upd H.cs k _ i).rest=_/\(upd H.cs k _ i).far=_
 by_cases e:i=k
 · subst e; rw [bL]; exact⟨rfl,rfl,rfl,rfl⟩
 · rw [upd_ne _ _ e]; exact⟨rfl,rfl,rfl,rfl⟩
def jX (l:List oo):Nat:=(l.map fun a=>a.text.size).sum
theorem tO {b:List oo} {k:Nat} {a:oo} (h:b[k]? = some a):jX (b.take (k+1))=jX (b.take k)+a.text.size/\jX (b.take k)+a.text.size<=jX b:=by
 obtain⟨hlt,e⟩:=List.getElem?_eq_some_iff.1 h
 have c:jX (b.take (k+1))=jX (b.take k)+a.text.size:=by
  unfold jX;rw [List.take_succ_eq_append_getElem hlt,List.map_append,List.sum_append,e];simp
 refine⟨c,?_⟩;rw [<- c];unfold jX
 conv=>rhs; rw [<- List.take_append_drop (k+1) b]
 rw [List.map_append,List.sum_append];exact Nat.le_add_right _ _
end
section
variable (tl:ah->List UInt8) (rq:ByteArray->aK × Int)
noncomputable def pU (H:cL) (a:oo):cL:=
 if (0<=a.conn/\a.conn<=7)/\(H.cs a.conn.toNat).closed=false then mG (zi tl rq H a.conn.toNat a.text) a.conn.toNat else H
noncomputable def tC (H:cL) (a:oo):ByteArray × Int:=
 if 0<=a.conn/\a.conn<=7 then if (H.cs a.conn.toNat).closed=false then (BA ((zi tl rq H a.conn.toNat a.text).cs a.conn.toNat).waits,0) else (⟨#[]⟩,6) else (⟨#[]⟩,1)
noncomputable def Fd (H:cL) (i:Nat) (a:oo):cL:=if i % 3=0 then mG (pU tl rq H a) (i % 8) else pU tl rq H a
noncomputable def oI (st:ah) (l:List oo):Nat->cL
 | 0=>BK st
 | n+1=>match l[n]? with
  | some a=>Fd tl rq (oI st l n) n a
  | none=>oI st l n
end
def Bq (cs:Nat->bf):Nat:=(cs 0).rest.size+(cs 1).rest.size+(cs 2).rest.size+(cs 3).rest.size+(cs 4).rest.size+(cs 5).rest.size+(cs 6).rest.size+(cs 7).rest.size
theorem JL {cs:Nat->bf} {k:Nat} (a:k<8) (c:bf):Bq (upd cs k c)+(cs k).rest.size=Bq cs+c.rest.size:=by
 rcases lt8 a with rfl | rfl | rfl | rfl | rfl | rfl | rfl | rfl <;> simp [Bq,upd] <;> omega
theorem Br {cs a:Nat->bf} (h:∀ i,(a i).rest=(cs i).rest):Bq a=Bq cs:=by
 unfold Bq; simp only [h]
structure mY (b n:Nat) (H:cL):Prop where
 op:∀ k,(H.cs k).closed=false->(H.cs k).stuck=0/\(H.cs k).far+(H.cs k).rest.size<=b
 cap:∃ c,(∀ k,(H.cs k).waits.length<=21000*c+6020*n)/\c+Bq H.cs<=b
theorem JM (st:ah):mY 0 0 (BK st):=⟨fun _ _=>⟨rfl,lJ⟩,0,fun _=>lJ,lJ⟩
theorem mY.flush {b n:Nat} {H:cL} (g:mY b n H) (k:Nat):mY b n (mG H k):=by
 obtain⟨c,d,f⟩:=g.cap;refine⟨fun i a=>?_,c,fun i=>?_,?_⟩
 · obtain⟨h,j,l,m⟩:=vR H k i;rw [h] at a;rw [j,l,m];exact g.op i a
 · by_cases e:i=k
   · subst e
     show (upd H.cs i (xK (H.cs i)) i).waits.length<=_
     rw [bL];exact Nat.zero_le _
   · show (upd H.cs k (xK (H.cs k)) i).waits.length<=_
     rw [upd_ne _ _ e];exact d i
 · rw [Br fun i=>(vR H k i).2.2.1];exact f
theorem mY.more {b a n d:Nat} {H:cL} (g:mY b n H) (h:b<=a) (j:n<=d):mY a d H:=by
 obtain⟨e,f,i⟩:=g.cap;exact⟨fun k c=>⟨(g.op k c).1,v6 (g.op k c).2 h⟩,e,fun k=>v6 (f k) (by omega),by omega⟩
theorem mY.len {b n:Nat} {H:cL} (g:mY b n H) (e:b<=1048576) (f:n<=1048576) (k:Nat):(H.cs k).waits.length<=35000000000000:=by
 obtain⟨c,a,d⟩:=g.cap;have:=a k;omega
section
variable {tl:ah->List UInt8} {rq:ByteArray->aK × Int}
theorem zx {st:ah} {l:List oo} {n:Nat} {a:oo} (h:l[n]? = some a):oI tl rq st l (n+1)=Fd tl rq (oI tl rq st l n) n a:=by
 rw [oI,h]
theorem Ct (D:∀ st,(tl st).length<=7000) {b n:Nat} {H:cL} (g:mY b n H) (a:oo):mY (b+a.text.size) (n+1) (pU tl rq H a):=by
 unfold pU
 split
 · rename_i y
   obtain⟨J,o⟩:=y;have r:a.conn.toNat<8:=by omega
   obtain⟨c,z⟩:∃ c,a.conn.toNat=c:=⟨_,rfl⟩;rw [z] at o r |-;refine mY.flush ?_ c;obtain⟨L,M⟩:=g.op c o;obtain⟨s,t⟩:∃ s,(H.cs c).rest ++ a.text=s:=⟨_,rfl⟩;have K:s.size=(H.cs c).rest.size+a.text.size:=by rw [<- t,ByteArray.size_append]
   have C:zi tl rq H c a.text=jG tl rq H c s (jM s).1 (jM s).2.1 (jM s).2.2:=by unfold zi; rw [t]
   rw [C];obtain⟨h,i,j⟩:=(yj s).facts;generalize jM s=F at h i j |-;obtain⟨l,m,e⟩:=F;dsimp only at h i j |-;obtain⟨d,A⟩:=Bp (tl:=tl) (rq:=rq) H c s l m e;obtain⟨E,v,I⟩:=g.cap;refine⟨fun k p=>?_,E+m,fun k=>?_,?_⟩
   · rw [d.stuck k,d.rest k,d.far k];by_cases f:k=c
     · subst f;have u:=A p;subst u
       show (upd H.cs k _ k).stuck=0/\(upd H.cs k _ k).far+(upd H.cs k _ k).rest.size<=_
       rw [bL];refine⟨rfl,?_⟩
       show (H.cs k).far+m+(s.extract m s.size).size<=_
       rw [ByteArray.size_extract];omega
     · have B:=d.closed k p
       show (upd H.cs c _ k).stuck=0/\(upd H.cs c _ k).far+(upd H.cs c _ k).rest.size<=_
       rw [upd_ne _ _ f];have q:(upd H.cs c (mF (H.cs c) s m e) k).closed=false:=B;rw [upd_ne _ _ f] at q;obtain⟨G,N⟩:=g.op k q;exact⟨G,by omega⟩
   · have w:=Mc (tl:=tl) (rq:=rq) D H c s l m e k;have x:=v k;omega
   · rw [Br d.rest];dsimp only;have w:=JL (cs:=H.cs) r (mF (H.cs c) s m e)
     have x:(mF (H.cs c) s m e).rest.size<=s.size - m:=by
      show (if e=3 then s.extract m s.size else ⟨#[]⟩:ByteArray).size<=_
      split
      · rw [ByteArray.size_extract]; omega
      · exact Nat.zero_le _
     omega
 · exact g.more (by omega) (by omega)
theorem GF (c:∀ st,(tl st).length<=7000) {b n:Nat} {H:cL} (g:mY b n H) (i:Nat) (a:oo):mY (b+a.text.size) (n+1) (Fd tl rq H i a):=by
 unfold Fd
 split
 · exact (Ct c g a).flush _
 · exact Ct c g a
theorem zy (b:∀ st,(tl st).length<=7000) (st:ah) (a:List oo):∀ n,n<=a.length->mY (jX (a.take n)) n (oI tl rq st a n)
 | 0,_=>by rw [List.take_zero]; exact JM st
 | n+1,h=>by
  have c:=zy b st a n (by omega);have hlt:n<a.length:=by omega
  have ha:=gO hlt;rw [(tO ha).1,zx ha];exact GF b c n a[n]
end
theorem Gf (b:ByteArray) (w:World) (hb:b.size<=9223372036854775807) (hT:Tabs w):ψ 42 #[b] w (tA (rqF b).1 (rqF b).2 w):=by
 have aI:=Af b hb;have z:=jO hb;obtain⟨W,Q⟩:∃ W,(w.alloc (.cells (aV gH) 87)).alloc (.cells #[b,(0:Int)] 152)=W:=⟨_,rfl⟩;have au:Below w w (χ w (aV gH) 87):=(θ).alloc lJ _;have aw:Below w w W:=by rw [<- Q]; exact au.alloc au.size _
 have hR:Blk W w 87 (aV gH):=by rw [<- Q]; exact Blk.alloc (show Blk _ _ _ _ from n5 w _) _
 obtain⟨g,hg⟩:∃ g,w.heap.size+1=g:=⟨_,rfl⟩
 have aL:rR W g b 0:=by
  rw [<- Q,<- hg];have aX:=n5 (χ w (aV gH) 87) (.cells #[b,(0:Int)] 152);rwa [show (w.alloc (.cells (aV gH) 87)).heap.size=w.heap.size+1 by simp] at aX
 have bb:=hT.lts;have i:ko W g (.ok () b):=⟨aL,hb,hT.below aw,by omega,by omega⟩;have HN:=ω (show Calls Tryz.prog _ _ _ (oE g (dI b) _ _ _) from qD g (.ok () b) W i);have HR:=ω hR;have aG:=ω aw;have HW:=ω Q;unfold aV gH bJ aU aN at HW;have Hg:=ω hg;have Y:=ω aI;have M:=ω hT;have al:=ω z;have bk:=hR.lt;have bl:=i.at_.lt;have F:w.heap.size<g:=by omega
 clear au aw hR aL bb i hT Q hg aI hb z;go_enter Tryz.func42,Tryz.ntmps42
 go_wp2_with fail
 simp only [HW.z,Hg.z];clear HW;refine HN.mono ?_;rintro D a ⟨C,rfl,hv,i,ax⟩;have bm:=i.at_.lt;have c:=ω (ay ax HR.z (Nat.ne_of_lt F));have h:=ω (cU aG.z ax (Nat.le_of_lt F));clear ax HN HR aG;rcases l:dI b with ⟨k,G⟩ | x;rotate_left;rw [l] at i;have z:=al.z;rw [l] at z;obtain⟨G,_,hA⟩:=i.at_;obtain⟨e,d⟩:∃ e:Int,e=x:=⟨_,rfl⟩;have r:=ω (show rqF b=(gH,e) from by rw [d]; unfold rqF rqP; rw [l]; rfl);have U:ζ a g 1 (.int .i64 (x:Int)):=Blk.cell (show rR a g _ x from hA) 1;have e2:((x:Int) != 0)=true:=bne_iff_ne.2 (by have:=z.1; omega);have e1:((x:Int) == 0)=false:=beq_eq_false_iff_ne.2 (by have:=z.1; omega);have Z:=ω d;clear hv i z hA al l Y M Hg d;rotate_left
 focus
  rw [l] at i hv;obtain rfl:C=k:=hv;have ae:rqP b=jH C G:=by unfold rqP; rw [l]; rfl
  have U:ζ a g 1 (.int .i64 0):=Blk.cell (show rR a g _ 0 from i.at_) 1;have j:=ω i;clear i l al;cases R:ranged (C:Int) 1 9
  focus
   have s:=L0 (dH C) a R;dsimp only [bP,aV,dH,bJ,aU,aN] at s;have L:=ω s;have l:∀ (w:World),(binOp .eql 154 .nilIface .nilIface).run Tryz.prog w = .ok (.bool true) w:=fun _=>rfl
   have hp:jH C G = .bad 1:=by
    have:=fT.1 R;unfold jH;rw [if_neg (by omega),if_neg (by omega),if_neg (by omega),if_neg (by omega),if_neg (by omega),if_neg (by omega)]
   obtain⟨e,d⟩:∃ e:Int,e=1:=⟨_,rfl⟩;have r:=ω (show rqF b=(gH,e) from by rw [d]; unfold rqF; rw [ae,hp]; rfl);have Z:=ω d;clear R hp ae Y M d s
   go_wp2_with fail
   refine L.mono ?_;rintro D a ⟨rfl,o⟩;have c:=ω (c.below o c.lt);have h:=ω (h.trans (o.mono h.size));clear o U L j Hg
  rotate_left
  focus
   obtain⟨bi,bh,J0,J1,ap⟩:=IM C G R;have s:=ap.pt a;dsimp only [bP,aV,dH,bJ,aU,aN] at s;have L:=ω s;have p:=ω ap;have ao:=ω ae;clear R ae ap s
   go_wp2_with fail
   refine L.mono ?_;rintro D w3 ⟨v,rfl,ar,o⟩;have Pe:ko w3 g (.ok () G):=j.next (σ':=.ok () G) (Blk.below (show rR a g _ 0 from j.at_) o j.at_.lt) j.good (fU _ o);have aj:=p.tk a v w3 g ar j.at_.lt Pe;rw [<- ao.z] at aj;have aE:=ω aj;have hm:=p.hm a v w3 ar;have l:=p.hn;have hc:=p.hc;have aC:=ω (c.below o c.lt);have a8:=ω (h.trans (o.mono h.size));have bn:=Pe.at_.lt;clear ar o Pe L j U aj
   go_wp2_with fail
   refine aE.mono ?_;rintro D w4 ⟨rfl,⟨q,hq,aJ⟩,NF,t4⟩;have aD:=ω (aC.below t4 F);have a9:=ω (a8.trans (t4.mono (Nat.le_of_lt F)));have aB:=ω (P0 g _ w4 NF.at_ NF.good);have am:=ω aJ;have Hq:=ω hq;have bo:=NF.at_.lt;clear aJ hq NF t4 aE aC a8 hm hc
   go_wp2_with fail
   refine aB.mono ?_;rintro D a ⟨rfl,ac⟩;have c:=ω (ay ac aD.z (Nat.ne_of_lt F));have h:=ω (cU a9.z ac (Nat.le_of_lt F));have ak:=ω ac;clear ac aB aD a9 l;rcases Y.z with ⟨x,bc,O,P⟩ | ⟨q',s',az,O,P⟩;rw [O];obtain⟨e,d⟩:∃ e:Int,e=x:=⟨_,rfl⟩;have r:=ω (show rqF b=(gH,e) from by rw [d]; exact P);have Z:=ω d;have e2:((x:Int) != 0)=true:=bne_iff_ne.2 (by omega);have e1:((x:Int) == 0)=false:=beq_eq_false_iff_ne.2 (by omega);clear P O bc d ak Y p am Hq ao M;rotate_left
   focus
    rw [O];obtain rfl:=Hq.z q' s' az;have aF:=ω (p.wh q g v a (p.kp q g v w4 a am.z ak.z));have j:=ω (zQ az);have B:=ω P;clear O az P ak p am Hq ao
    go_wp2_with fail
    refine aF.mono ?_;rintro D H ⟨rfl,av⟩;have X:=ω (c.below av c.lt);have J:=ω (h.trans (av.mono h.size));obtain⟨T,S⟩:∃ T,H.alloc (.cells (aV q) 87)=T:=⟨_,rfl⟩;have aa:Below H H T:=by rw [<- S]; exact (θ).alloc lJ _
    have ad:Blk T H 87 (aV q):=by rw [<- S]; exact n5 H _
    have K:=zn q T j.z (M.below (J.trans (aa.mono J.size)));obtain⟨E,aq⟩:∃ E,cO q=E:=⟨_,rfl⟩;rw [aq] at K;unfold bP at K;unfold aV at K S;have aA:=ω K;have B:=ω (show rqF b=if E=0 then (q,0) else (gH,E) from by rw [<- aq]; exact B);obtain⟨d0,d1,d2,d3,d4,d5,d6,d7,d8,d9,aM,aO,aP,aQ⟩:=Blk.c14 (ad);have aH:=ω S;have ag:=ω ad;have bp:=ad.lt;have ai:=ω (X.below aa X.lt);have af:=ω (J.trans (aa.mono J.size));have bj:w.heap.size<H.heap.size:=X.lt;clear av S aa ad aF X J aq M j K;unfold bP;unfold aV
    go_wp2_with fail
    simp only [aH.z];clear aH;refine aA.mono ?_;rintro D a ⟨rfl,ab⟩;have c:=ω (ai.below ab ai.lt);have V:=ω (ag.below ab ag.lt);have h:=ω (af.trans (ab.mono af.size));clear ab aA ag ai af d0 d1 d2 d3 d4 d5 d6 d7 d8 d9 aM aO aP aQ;by_cases N:E=0
    · subst N;have r:=ω (show rqF b=(q,0) from by rw [B.z,if_pos rfl]);have ba:=V.lt;have aY:=c.lt;obtain⟨e0,e1,e2,e3,e4,e5,e6,e7,e8,e9,aR,aS,aT,aW⟩:=Blk.c14 (V.z);obtain⟨r0,r1,r2,r3,r4,r5,r6,r7,r8,r9,a0,a1,a2,a3⟩:=Blk.c14 (show Blk a w _ #[(0:Int),.string ⟨#[]⟩,(0:Int),(0:Int),(0:Int),.string ⟨#[]⟩,.string ⟨#[]⟩,(0:Int),.string ⟨#[]⟩,.string ⟨#[]⟩,.string ⟨#[]⟩,(0:Int),.string ⟨#[]⟩,(0:Int)] from c.z);obtain⟨z0,z1,z2,z3,z4,z5,z6,z7,z8,z9,a4,a5,a6,a7⟩:=Blk.z14 (c.z);clear B V;go_wp2;have y:=ny q c.z;have u:=h.trans (lg a w q);obtain⟨I,m⟩:∃ I,mQ a w q=I:=⟨_,rfl⟩;rw [m] at y u;unfold mQ at m;simp only [m];clear m c h e0 r0 z0 e1 r1 z1 e2 r2 z2 e3 r3 z3 e4 r4 z4 e5 r5 z5 e6 r6 z6 e7 r7 z7 e8 r8 z8 e9 r9 z9 aR a0 a4 aS a1 a5 aT a2 a6 aW a3 a7 ba aY;obtain⟨y0,U,y2,y3,y4,y5,y6,y7,y8,y9,bd,be,bf,bg⟩:=Blk.c14 (y);have bE:=ω u;clear y u;refine bodyPost_ret (v:=.tuple #[.agg #[.int .i64 q.kind,.string q.job.name,.int .i64 q.job.prio,.int .i64 q.job.need,.int .i64 q.job.tries,.string q.job.tag,.string q.node.name,.int .i64 q.node.room,.string q.node.zone,.string q.lease.job,.string q.lease.node,.int .i64 q.lease.till,.string q.name,.int .i64 q.n],.int .i64 0]) (by simp [results,Tryz.results42,go_sem, *]) rfl ?_;exact⟨by rw [r.z]; rfl,bE⟩
    obtain⟨e,d⟩:∃ e:Int,e=E:=⟨_,rfl⟩;have r:=ω (show rqF b=(gH,e) from by rw [B.z,if_neg N,d]);have Z:=ω d;have e2:(E != 0)=true:=bne_iff_ne.2 N;have e1:(E == 0)=false:=beq_eq_false_iff_ne.2 N;clear N d B V
 all_goals
  obtain⟨r0,r1,r2,r3,r4,r5,r6,r7,r8,r9,a0,a1,a2,a3⟩:=Blk.c14 (show Blk a w _ #[(0:Int),.string ⟨#[]⟩,(0:Int),(0:Int),(0:Int),.string ⟨#[]⟩,.string ⟨#[]⟩,(0:Int),.string ⟨#[]⟩,.string ⟨#[]⟩,.string ⟨#[]⟩,(0:Int),.string ⟨#[]⟩,(0:Int)] from c.z);obtain⟨z0,z1,z2,z3,z4,z5,z6,z7,z8,z9,a4,a5,a6,a7⟩:=Blk.z14 (c.z);have aZ:=c.lt;go_wp2
  try (go_region; go_wp2)
  have y:=ny gH c.z;have u:=h.trans (lg a w gH);obtain⟨I,m⟩:∃ I,mQ a w gH=I:=⟨_,rfl⟩;rw [m] at y u;unfold mQ at m;dsimp only [gH,bJ,aU,aN] at m;simp only [m];clear m aZ c h r0 z0 r1 z1 r2 z2 r3 z3 r4 z4 r5 z5 r6 z6 r7 z7 r8 z8 r9 z9 a0 a4 a1 a5 a2 a6 a3 a7;obtain⟨y0,U,y2,y3,y4,y5,y6,y7,y8,y9,bd,be,bf,bg⟩:=Blk.c14 (show Blk I w _ #[(0:Int),.string ⟨#[]⟩,(0:Int),(0:Int),(0:Int),.string ⟨#[]⟩,.string ⟨#[]⟩,(0:Int),.string ⟨#[]⟩,.string ⟨#[]⟩,.string ⟨#[]⟩,(0:Int),.string ⟨#[]⟩,(0:Int)] from y);have bE:=ω u;have d:=Z.z;clear y u;refine bodyPost_ret (v:=.tuple #[.agg #[.int .i64 0,.string ⟨#[]⟩,.int .i64 0,.int .i64 0,.int .i64 0,.string ⟨#[]⟩,.string ⟨#[]⟩,.int .i64 0,.string ⟨#[]⟩,.string ⟨#[]⟩,.string ⟨#[]⟩,.int .i64 0,.string ⟨#[]⟩,.int .i64 0],.int .i64 e]) (by simp [results,Tryz.results42,go_sem, *]) rfl ?_
  first | exact⟨by rw [r.z]; rfl,bE⟩ | exact⟨by rw [r.z]; rfl,bE.drew⟩
def lq (w:World) (g:Nat) (s:ByteArray):Prop:=Blk w g 166 #[s]/\s.size<=9223372036854775807
def thrown (x:Nat):Ending:=.panicked [{ v:=.iface 123 (.agg #[(x:Int)]),recovered:=false }]
def eB {α:Type} (g:Nat) (res:RR α) (enc:α->Value) (w:World) (e:Ending) (w':World):Prop:=
 w.grownBy w' (some g)/\match res with
 | .ok a r=>e = .returned (enc a)/\lq w' g r
 | .bad x=>e=thrown x
theorem eB.ok {α:Type} {g:Nat} {res:RR α} {enc:α->Value} {w w':World} {e:Ending} {a:α} {r:ByteArray} (h:eB g res enc w e w') (b:res = .ok a r):e = .returned (enc a)/\lq w' g r/\w.grownBy w' (some g):=by
 subst b; exact⟨h.2.1,h.2.2,h.1⟩
theorem eB.bad {α:Type} {g:Nat} {res:RR α} {enc:α->Value} {w w':World} {e:Ending} {x:Nat} (h:eB g res enc w e w') (a:res = .bad x):e=thrown x/\w.grownBy w' (some g):=by
 subst a; exact⟨h.2,h.1⟩
theorem eB.Md {α:Type} {g:Nat} {res:RR α} {enc:α->Value} {w w':World} {a:α} {r:ByteArray} (c:res = .ok a r) (d:lq w' g r) (b:w.grownBy w' (some g)):eB g res enc w (.returned (enc a)) w':=by
 subst c; exact⟨b,rfl,d⟩
theorem eB.rZ {α:Type} {g:Nat} {res:RR α} {enc:α->Value} {w w':World} {x:Nat} (b:res = .bad x) (a:w.grownBy w' (some g)):eB g res enc w (thrown x) w':=by
 subst b; exact⟨a,rfl⟩
theorem lq.set {w:World} {g:Nat} {s:ByteArray} (h:lq w g s) (a:ByteArray) (b:a.size<=9223372036854775807):lq (sX w g 0 (.string a)) g a:=⟨Blk.eq (Blk.set h.1 0 _) (by simp),b⟩
theorem lq.grow {w w':World} {g b:Nat} {s:ByteArray} (h:lq w g s) (a:w.grownBy w' (some b)) (c:g≠b):lq w' g s:=⟨ay a h.1 c,h.2⟩
theorem lq.below {w w':World} {g:Nat} {s:ByteArray} (h:lq w g s) (a:Below w w w'):lq w' g s:=⟨h.1.below a h.1.lt,h.2⟩
theorem N8 (g:Nat) (s:ByteArray) (w:World) (h:lq w g s) :
 ψ 92 #[π g 0] w (eB g (dI s) (fun r:Nat=>.int .u64 r) w):=by
 have z:ζ w g 0 (.string s):=h.1.cell 0;have B:κ w g 0:=h.1.thaw 0;have u:=h.1.lt;have l:=h.2;have n:=ω h;rcases a:rdNum s with ⟨d,k,e⟩;have p:=gW a;have c:=ω (AE a w l);by_cases i:e=0
 · subst i;have v:=(p.2.2.2 rfl).2;by_cases j:4611686018427387904<d
   · have b:=ω (vK a j);have o:decide ((4611686018427387904:Int)<(d:Int))=true:=t8 (by omega);clear h a;go_enter Tryz.func92,Tryz.ntmps92
     go_wp2_with fail
     refine c.mono ?_;rintro e m ⟨rfl,rfl⟩;go_wp2;exact⟨rfl,eB.rZ b.z (bO _ _)⟩
   · have b:=ω (Da a j);have o:decide ((4611686018427387904:Int)<(d:Int))=false:=fK (by omega);have q:=ω (nO (k:=k) l);clear h a;go_enter Tryz.func92,Tryz.ntmps92
     go_wp2_with fail
     refine c.mono ?_;rintro e m ⟨rfl,rfl⟩;go_wp2;go_ret;exact eB.Md b.z (n.set _ q.z) (aR _ _ _ _)
 · have b:=ω (AT a i);have x:((e:Int) == 0)=false:=by rw [beq_eq_false_iff_ne]; omega
   have y:((e:Int) != 0)=true:=by rw [bne_iff_ne]; omega
   clear h a;go_enter Tryz.func92,Tryz.ntmps92
   go_wp2_with fail
   refine c.mono ?_;rintro t m ⟨rfl,rfl⟩;go_wp2;exact⟨rfl,eB.rZ b.z (bO _ _)⟩
theorem Ch (g:Nat) (s:ByteArray) (w:World) (i:lq w g s) :
 ψ 50 #[π g 0] w (eB g (dI s) (fun n:Nat=>.int .i64 n) w):=by
 have h:=ω (N8 g s w i);clear i;rcases b:dI s with ⟨l,r⟩ | x
 · have m:=um b;have d:=ω b;clear b;go_enter Tryz.func50,Tryz.ntmps50
   go_wp2_with fail
   refine h.mono ?_;intro j k c;obtain⟨rfl,e,a⟩:=c.ok d.z;have e:=ω e;have a:=ω a;clear c;go_wp2;go_ret;exact eB.Md rfl e.z a.z
 · have d:=ω b;clear b;go_enter Tryz.func50,Tryz.ntmps50
   go_wp2_with fail
   refine h.mono ?_;intro j k c;obtain⟨rfl,a⟩:=c.bad d.z;unfold thrown;go_wp2;exact⟨rfl,eB.rZ rfl a⟩
theorem yt (g:Nat) (s:ByteArray) (w:World) (h:lq w g s) :
 ψ 53 #[π g 0] w (eB g (cF s) (fun t=>.string t) w):=by
 have v:ζ w g 0 (.string s):=h.1.cell 0;have y:=h.1.lt;have o:=h.2;have p:=ω h;rcases a:oH s with ⟨t,k,e⟩;have i:=rM a;have d:=BR s w o;unfold iR at d;rw [a] at d;have m:=ω d;clear d h;by_cases n:e=0
 · subst n;have B:=i.2.2 rfl;have j:=ω (wR a);have u:=ω (nO (k:=k) o);clear a i;go_enter Tryz.func53,Tryz.ntmps53
   go_wp2_with fail
   refine m.mono ?_;rintro e l ⟨rfl,c⟩;have b:=p.below c;have D:ζ l g 0 (.string s):=b.1.cell 0;have E:κ l g 0:=b.1.thaw 0;have z:=b.1.lt;have q:=ω b;have r:=ω c;clear b c v;go_wp2;go_ret;exact eB.Md j.z (q.set _ u.z) (aP (fU g r.z) (aR _ _ _ _))
 · have j:=ω (uj a n);have C:((e:Int) != 0)=true:=by rw [bne_iff_ne]; omega
   clear a i;go_enter Tryz.func53,Tryz.ntmps53
   go_wp2_with fail
   refine m.mono ?_;rintro x l ⟨rfl,c⟩;go_wp2;exact⟨rfl,eB.rZ j.z (fU g c)⟩
structure SGo (w0 w:World) (g:Nat) (s:ByteArray) (R:Nat) (t:TypeId) (cs:Array Value):Prop where
 at_:lq w g s
 keep:w0.grownBy w (some g)
 blk:Blk w R t cs
 gt:g<R
 new:w0.heap.size<=R
theorem lq.alloc {w:World} {g:Nat} {s:ByteArray} (h:lq w g s) (o:Obj):lq (w.alloc o) g s:=h.below ((θ).alloc lJ _)
theorem SGo.start {w:World} {g:Nat} {s:ByteArray} (h:lq w g s) (t:TypeId) (cs:Array Value):SGo w (χ w cs t) g s w t cs:=
 ⟨h.alloc _,fU _ ((θ).alloc lJ _),n5 w _,h.1.lt,lJ⟩
theorem SGo.next {w0 w w':World} {g R:Nat} {s b:ByteArray} {t:TypeId} {cs:Array Value} (h:SGo w0 w g s R t cs) (c:lq w' g b) (a:w.grownBy w' (some g)):SGo w0 w' g b R t cs:=
 ⟨c,aP h.keep a,ay a h.blk (Nat.ne_of_gt h.gt),h.gt,h.new⟩
theorem SGo.alloc {w0 w:World} {g R:Nat} {s:ByteArray} {t:TypeId} {cs:Array Value} (h:SGo w0 w g s R t cs) (o:Obj):SGo w0 (w.alloc o) g s R t cs:=
 ⟨h.at_.alloc _,aP h.keep (fU _ ((θ).alloc lJ _)),h.blk.alloc _,h.gt,h.new⟩
theorem SGo.set {w0 w:World} {g R:Nat} {s:ByteArray} {t:TypeId} {cs:Array Value} (h:SGo w0 w g s R t cs) (i:Nat) (v:Value):SGo w0 (sX w R i v) g s R t (cs.setIfInBounds i v):=
 ⟨h.at_.grow (aR w R i v) (Nat.ne_of_lt h.gt),vP h.keep (aR _ _ _ _) h.new,h.blk.set i v,h.gt,h.new⟩
theorem SGo.put {w0 w:World} {g R:Nat} {s:ByteArray} {t:TypeId} {cs:Array Value} (h:SGo w0 w g s R t cs) (i:Nat) (v:Value) (a:Array Value) (e:cs.setIfInBounds i v=a):SGo w0 (sX w R i v) g s R t a:=e ▸ h.set i v
theorem Ci :
 (∀ (g:Nat) (s:ByteArray) (v:Int) (w:World) (E:1<v) (N:2<v) (D:lq w g s),ψ 51 #[π g 0,v] w (eB g (pD v s) (fun x:aC=>.agg (aS x).toArray) w)) /\
 (∀ (g:Nat) (s:ByteArray) (v:Int) (w:World) (E:1<v) (D:lq w g s),ψ 52 #[π g 0,v] w (eB g (lH v s) (fun x:av=>.agg (aH x).toArray) w)):=by
 refine⟨@fun g s v w E N D=>(fun(c:Unit)=>?_) (),@fun g s v w E D=>(fun(C:Unit)=>?_) ()⟩<;>(
 first|(guard_hyp c;have Z:=@N8)|(have Z:=@Ch)
 have d1:decide (1<v)=true:=t8 E
 first
  |(
   guard_hyp c
   have d2:decide (2<v)=true:=t8 N;have J:=ω (SGo.start D 85 #[.string ⟨#[]⟩,(0:Int),(0:Int),(0:Int),.string ⟨#[]⟩]))
  |(
   guard_hyp C
   have J:=ω (SGo.start D 70 #[.string ⟨#[]⟩,(0:Int),.string ⟨#[]⟩]))
 have ae:=D.1.lt
 first
  |(
   guard_hyp c
   have r:=ω (fun s:ByteArray=>(show pD v s=(cF s).bind fun (d:ByteArray) s=>(dI s).bind fun (k:Nat) s=>(dI s).bind fun (m:Nat) s=>(dI s).bind fun (n:Nat) s=>(cF s).bind fun (o:ByteArray) s=>RR.ok ⟨d,lB k,m,n,o⟩ s by unfold pD; simp only [if_pos E,if_pos N]));clear D E N)
  |(
   guard_hyp C
   have r:=ω (fun s:ByteArray=>(show lH v s=(cF s).bind fun (d:ByteArray) s=>(dI s).bind fun (p:Nat) s=>(cF s).bind fun (u:ByteArray) s=>RR.ok ⟨d,p,u⟩ s by unfold lH; simp only [if_pos E]));clear D E)
 first|(guard_hyp c;go_enter Tryz.func51,Tryz.ntmps51)|go_enter Tryz.func52,Tryz.ntmps52
 go_wp2_with fail
 refine Calls.mono (yt g s _ J.at_) ?_;intro I S e;rcases a:cF s with ⟨d,R⟩ | x;rotate_left
 · obtain⟨rfl,h⟩:=e.bad a;have q:=ω a
   first|(guard_hyp c;have l:=ω (show pD v s = .bad x by rw [r.z]; rw [q.z]; rw [RR.fR]))|have l:=ω (show lH v s = .bad x by rw [r.z]; rw [q.z]; rw [RR.fR])
   have h:=ω (aP J.keep h);clear a e;unfold thrown;go_wp2;exact⟨rfl,eB.rZ l.z h.z⟩
 obtain⟨rfl,j,i⟩:=e.ok a;have q:=ω a;have b:=J.next j i;have u0:κ S w 0:=b.blk.thaw 0;have x0:ζ S w 0 (.string ⟨#[]⟩):=b.blk.cell 0;have W:w.heap.size<S.heap.size:=b.blk.lt
 first
  |(
   guard_hyp c
   have G:=ω (b.put 0 (.string d) #[d,(0:Int),(0:Int),(0:Int),.string ⟨#[]⟩] rfl))
  |(
   guard_hyp C
   have G:=ω (b.put 0 (.string d) #[d,(0:Int),.string ⟨#[]⟩] rfl))
 clear a e j i b J
 go_wp2_with fail
 refine Calls.mono (Z g R _ G.at_) ?_;intro I T e
 first|(guard_hyp c;rcases a:dI R with ⟨k,K⟩ | x)|rcases a:dI R with ⟨p,K⟩ | x
 rotate_left
 · obtain⟨rfl,h⟩:=e.bad a;have y:=ω a
   first|(guard_hyp c;have l:=ω (show pD v s = .bad x by rw [r.z]; rw [q.z]; rw [RR.bind_ok]; rw [y.z]; rw [RR.fR]))|have l:=ω (show lH v s = .bad x by rw [r.z]; rw [q.z]; rw [RR.bind_ok]; rw [y.z]; rw [RR.fR])
   have h:=ω (aP G.keep h);clear a e;unfold thrown;go_wp2;exact⟨rfl,eB.rZ l.z h.z⟩
 obtain⟨rfl,j,i⟩:=e.ok a;have y:=ω a;have af:=um a;have b:=G.next j i;have u1:κ T w 1:=b.blk.thaw 1;have x1:ζ T w 1 (.int .i64 0):=b.blk.cell 1;have X:w.heap.size<T.heap.size:=b.blk.lt
 first
  |(
   guard_hyp c
   have B:=ω (b.put 1 (.int .i64 (lB ((k:Nat):Int))) #[d,(lB ((k:Nat):Int)),(0:Int),(0:Int),.string ⟨#[]⟩] rfl);clear a e j i b G u0 x0 W
   go_wp2_with fail
   refine Calls.mono (Lz (k:Int) (by omega) (by omega) _) ?_;rintro I wz ⟨rfl,rfl⟩
   go_wp2_with fail
   refine Calls.mono (Ch g K _ B.at_) ?_;intro I F e;rcases a:dI K with ⟨m,O⟩ | x;rotate_left
   · obtain⟨rfl,h⟩:=e.bad a;have z:=ω a;have l:=ω (show pD v s = .bad x by rw [r.z]; rw [q.z]; rw [RR.bind_ok]; rw [y.z]; rw [RR.bind_ok]; rw [z.z]; rw [RR.fR]);have h:=ω (aP B.keep h);clear a e;unfold thrown;go_wp2;exact⟨rfl,eB.rZ l.z h.z⟩
   obtain⟨rfl,j,i⟩:=e.ok a;have z:=ω a;have ag:=um a;have b:=B.next j i;have u2:κ F w 2:=b.blk.thaw 2;have x2:ζ F w 2 (.int .i64 0):=b.blk.cell 2;have Y:w.heap.size<F.heap.size:=b.blk.lt;have H:=ω (b.put 2 (.int .i64 ((m:Nat):Int)) #[d,(lB ((k:Nat):Int)),((m:Nat):Int),(0:Int),.string ⟨#[]⟩] rfl);clear a e j i b B u1 x1 X
   go_wp2_with fail
   refine Calls.mono (Ch g O _ H.at_) ?_;intro I U e;rcases a:dI O with ⟨n,s4⟩ | x;rotate_left
   · obtain⟨rfl,h⟩:=e.bad a;have L:=ω a;have l:=ω (show pD v s = .bad x by rw [r.z]; rw [q.z]; rw [RR.bind_ok]; rw [y.z]; rw [RR.bind_ok]; rw [z.z]; rw [RR.bind_ok]; rw [L.z]; rw [RR.fR]);have h:=ω (aP H.keep h);clear a e;unfold thrown;go_wp2;exact⟨rfl,eB.rZ l.z h.z⟩
   obtain⟨rfl,j,i⟩:=e.ok a;have L:=ω a;have ai:=um a;have b:=H.next j i;have u3:κ U w 3:=b.blk.thaw 3;have x3:ζ U w 3 (.int .i64 0):=b.blk.cell 3;have ac:w.heap.size<U.heap.size:=b.blk.lt;have M:=ω (b.put 3 (.int .i64 ((n:Nat):Int)) #[d,(lB ((k:Nat):Int)),((m:Nat):Int),((n:Nat):Int),.string ⟨#[]⟩] rfl))
  |(
   guard_hyp C
   have B:=ω (b.put 1 (.int .i64 ((p:Nat):Int)) #[d,((p:Nat):Int),.string ⟨#[]⟩] rfl))
 first|(guard_hyp c;clear a e j i b H u2 x2 Y)|clear a e j i b G u0 x0 W
 go_wp2_with fail
 first|(guard_hyp c;refine Calls.mono (yt g s4 _ M.at_) ?_)|refine Calls.mono (yt g K _ B.at_) ?_
 first|(guard_hyp c;intro I V e)|intro I F e
 first|(guard_hyp c;rcases a:cF s4 with ⟨o,s5⟩ | x)|rcases a:cF K with ⟨u,O⟩ | x
 rotate_left
 · obtain⟨rfl,h⟩:=e.bad a
   first|(guard_hyp c;have P:=ω a)|have z:=ω a
   first
    |(
     guard_hyp c
     have l:=ω (show pD v s = .bad x by rw [r.z]; rw [q.z]; rw [RR.bind_ok]; rw [y.z]; rw [RR.bind_ok]; rw [z.z]; rw [RR.bind_ok]; rw [L.z]; rw [RR.bind_ok]; rw [P.z]; rw [RR.fR]))
    |(
     guard_hyp C
     have l:=ω (show lH v s = .bad x by rw [r.z]; rw [q.z]; rw [RR.bind_ok]; rw [y.z]; rw [RR.bind_ok]; rw [z.z]; rw [RR.fR]))
   first|(guard_hyp c;have h:=ω (aP M.keep h))|have h:=ω (aP B.keep h)
   clear a e;unfold thrown;go_wp2;exact⟨rfl,eB.rZ l.z h.z⟩
 obtain⟨rfl,j,i⟩:=e.ok a
 first|(guard_hyp c;have P:=ω a)|have z:=ω a
 first|(guard_hyp c;have b:=M.next j i)|have b:=B.next j i
 first|(guard_hyp c;have u4:κ V w 4:=b.blk.thaw 4)|have u2:κ F w 2:=b.blk.thaw 2
 first|(guard_hyp c;have x4:ζ V w 4 (.string ⟨#[]⟩):=b.blk.cell 4)|have x2:ζ F w 2 (.string ⟨#[]⟩):=b.blk.cell 2
 first|(guard_hyp c;have ad:w.heap.size<V.heap.size:=b.blk.lt)|have Y:w.heap.size<F.heap.size:=b.blk.lt
 first
  |(
   guard_hyp c
   have H5:=ω (b.put 4 (.string o) #[d,(lB ((k:Nat):Int)),((m:Nat):Int),((n:Nat):Int),o] rfl);obtain⟨y0,y1,y2,y3⟩:=Blk.c4 (b.blk);obtain⟨z0,z1,z2,z3⟩:=Blk.z4 (b.blk))
  |(
   guard_hyp C
   have H:=ω (b.put 2 (.string u) #[d,((p:Nat):Int),u] rfl);obtain⟨y0,y1⟩:=Blk.c2 (b.blk);obtain⟨z0,z1⟩:=Blk.z2 (b.blk))
 first|(guard_hyp c;clear a e j i b M u3 x3 ac)|clear a e j i b B u1 x1 X
 first
  |(
   guard_hyp c
   have Q:=(((((H5.put 0 (.string d) #[d,(lB ((k:Nat):Int)),((m:Nat):Int),((n:Nat):Int),o] rfl).put 1 (.int .i64 (lB ((k:Nat):Int))) #[d,(lB ((k:Nat):Int)),((m:Nat):Int),((n:Nat):Int),o] rfl).put 2 (.int .i64 ((m:Nat):Int)) #[d,(lB ((k:Nat):Int)),((m:Nat):Int),((n:Nat):Int),o] rfl).put 3 (.int .i64 ((n:Nat):Int)) #[d,(lB ((k:Nat):Int)),((m:Nat):Int),((n:Nat):Int),o] rfl).put 4 (.string o) #[d,(lB ((k:Nat):Int)),((m:Nat):Int),((n:Nat):Int),o] rfl))
  |(
   guard_hyp C
   have Q:=(((H.put 0 (.string d) #[d,((p:Nat):Int),u] rfl).put 1 (.int .i64 ((p:Nat):Int)) #[d,((p:Nat):Int),u] rfl).put 2 (.string u) #[d,((p:Nat):Int),u] rfl))
 have q0:=(show _=(some (.string d):Option Value) from Q.blk.cell 0)
 first
  |(
   guard_hyp c
   have q1:=(show _=(some (.int .i64 (lB ((k:Nat):Int))):Option Value) from Q.blk.cell 1);have q2:=(show _=(some (.int .i64 ((m:Nat):Int)):Option Value) from Q.blk.cell 2))
  |skip
 first|(guard_hyp c;have q3:=(show _=(some (.int .i64 ((n:Nat):Int)):Option Value) from Q.blk.cell 3))|have q1:=(show _=(some (.int .i64 ((p:Nat):Int)):Option Value) from Q.blk.cell 1)
 first|(guard_hyp c;have q4:=(show _=(some (.string o):Option Value) from Q.blk.cell 4))|have q2:=(show _=(some (.string u):Option Value) from Q.blk.cell 2)
 have ab:=ω Q.at_;have aa:=ω Q.keep
 first
  |(
   guard_hyp c
   have l:=ω (show pD v s = .ok ⟨d,lB ((k:Nat):Int),((m:Nat):Int),((n:Nat):Int),o⟩ s5 by rw [r.z]; rw [q.z]; rw [RR.bind_ok]; rw [y.z]; rw [RR.bind_ok]; rw [z.z]; rw [RR.bind_ok]; rw [L.z]; rw [RR.bind_ok]; rw [P.z]; rw [RR.bind_ok]; try rfl))
  |(
   guard_hyp C
   have l:=ω (show lH v s = .ok ⟨d,((p:Nat):Int),u⟩ O by rw [r.z]; rw [q.z]; rw [RR.bind_ok]; rw [y.z]; rw [RR.bind_ok]; rw [z.z]; rw [RR.bind_ok]; try rfl))
 clear Q;go_wp2
 first
  |(
   guard_hyp c
   refine bodyPost_ret (v:=.agg #[.string d,.int .i64 (lB ((k:Nat):Int)),.int .i64 ((m:Nat):Int),.int .i64 ((n:Nat):Int),.string o]) (by simp [results,Tryz.results51,go_sem, *]) rfl ?_)
  |(
   guard_hyp C
   refine bodyPost_ret (v:=.agg #[.string d,.int .i64 ((p:Nat):Int),.string u]) (by simp [results,Tryz.results52,go_sem, *]) rfl ?_)
 exact eB.Md l.z ab.z aa.z)
theorem Ng (g:Nat) (s:ByteArray) (w:World) (r:lq w g s) :
 ψ 54 #[π g 0] w (eB g (iC s) (fun x:ak=>.agg (aB x).toArray) w):=by
 have m:=ω (SGo.start r 66 #[.string ⟨#[]⟩,.string ⟨#[]⟩,(0:Int)]);have N:=r.1.lt;have p:=ω (fun s:ByteArray=>(show iC s=(cF s).bind fun (job:ByteArray) s=>(cF s).bind fun (node:ByteArray) s=>(dI s).bind fun (e:Nat) s=>RR.ok ⟨job,node,e⟩ s by unfold iC; try rfl));clear r;go_enter Tryz.func54,Tryz.ntmps54
 go_wp2_with fail
 refine Calls.mono (yt g s _ m.at_) ?_;intro B u c;rcases a:cF s with ⟨job,C⟩ | x;rotate_left
 · obtain⟨rfl,d⟩:=c.bad a;have k:=ω a;have j:=ω (show iC s = .bad x by rw [p.z]; rw [k.z]; rw [RR.fR]);have d:=ω (aP m.keep d);clear a c;unfold thrown;go_wp2;exact⟨rfl,eB.rZ j.z d.z⟩
 obtain⟨rfl,i,h⟩:=c.ok a;have k:=ω a;have b:=m.next i h;have u0:κ u w 0:=b.blk.thaw 0;have K:ζ u w 0 (.string ⟨#[]⟩):=b.blk.cell 0;have H:w.heap.size<u.heap.size:=b.blk.lt;have n:=ω (b.put 0 (.string job) #[job,.string ⟨#[]⟩,(0:Int)] rfl);clear a c i h b m
 go_wp2_with fail
 refine Calls.mono (yt g C _ n.at_) ?_;intro B y c;rcases a:cF C with ⟨node,D⟩ | x;rotate_left
 · obtain⟨rfl,d⟩:=c.bad a;have l:=ω a;have j:=ω (show iC s = .bad x by rw [p.z]; rw [k.z]; rw [RR.bind_ok]; rw [l.z]; rw [RR.fR]);have d:=ω (aP n.keep d);clear a c;unfold thrown;go_wp2;exact⟨rfl,eB.rZ j.z d.z⟩
 obtain⟨rfl,i,h⟩:=c.ok a;have l:=ω a;have b:=n.next i h;have u1:κ y w 1:=b.blk.thaw 1;have L:ζ y w 1 (.string ⟨#[]⟩):=b.blk.cell 1;have I:w.heap.size<y.heap.size:=b.blk.lt;have o:=ω (b.put 1 (.string node) #[job,node,(0:Int)] rfl);clear a c i h b n u0 K H
 go_wp2_with fail
 refine Calls.mono (Ch g D _ o.at_) ?_;intro B z c;rcases a:dI D with ⟨e,J⟩ | x;rotate_left
 · obtain⟨rfl,d⟩:=c.bad a;have q:=ω a;have j:=ω (show iC s = .bad x by rw [p.z]; rw [k.z]; rw [RR.bind_ok]; rw [l.z]; rw [RR.bind_ok]; rw [q.z]; rw [RR.fR]);have d:=ω (aP o.keep d);clear a c;unfold thrown;go_wp2;exact⟨rfl,eB.rZ j.z d.z⟩
 obtain⟨rfl,i,h⟩:=c.ok a;have q:=ω a;have O:=um a;have b:=o.next i h;have u2:κ z w 2:=b.blk.thaw 2;have T:ζ z w 2 (.int .i64 0):=b.blk.cell 2;have M:w.heap.size<z.heap.size:=b.blk.lt;have E:=ω (b.put 2 (.int .i64 ((e:Nat):Int)) #[job,node,((e:Nat):Int)] rfl);obtain⟨U,V⟩:=Blk.c2 (b.blk);obtain⟨W,X⟩:=Blk.z2 (b.blk);clear a c i h b o u1 L I;have Q:=(((E.put 0 (.string job) #[job,node,((e:Nat):Int)] rfl).put 1 (.string node) #[job,node,((e:Nat):Int)] rfl).put 2 (.int .i64 ((e:Nat):Int)) #[job,node,((e:Nat):Int)] rfl);have P:=(show _=(some (.string job):Option Value) from Q.blk.cell 0);have R:=(show _=(some (.string node):Option Value) from Q.blk.cell 1);have S:=(show _=(some (.int .i64 ((e:Nat):Int)):Option Value) from Q.blk.cell 2);have G:=ω Q.at_;have F:=ω Q.keep;have j:=ω (show iC s = .ok ⟨job,node,((e:Nat):Int)⟩ J by rw [p.z]; rw [k.z]; rw [RR.bind_ok]; rw [l.z]; rw [RR.bind_ok]; rw [q.z]; rw [RR.bind_ok]; try rfl);clear Q;go_wp2;refine bodyPost_ret (v:=.agg #[.string job,.string node,.int .i64 ((e:Nat):Int)]) (by simp [results,Tryz.results54,go_sem, *]) rfl ?_;exact eB.Md j.z G.z F.z
end Go.Proofs.YtimglglgcgpjgaaGreatDoor
