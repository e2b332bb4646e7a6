/- Of the proof of a statement: RPh, Sum, PlDec, RPhQ. -/
import Derived.Test.YtimglglgcgpjgaaGreatDoorQPk
set_option linter.unusedVariables false
set_option linter.unusedSimpArgs false
set_option maxRecDepth 100000
set_option maxHeartbeats 8000000
namespace Go.Proofs.YtimglglgcgpjgaaGreatDoor
open Go.RowKit
section
variable {Γ:Type} {P:Program} {ops:Array Oper} {V:Γ->Nat->Value->Prop} {a0:Act} {S:List Nat} {Ph:Nat->Γ->World->Prop}
def LQ (S:List Nat) (a:Array Bool) (p:Nat):Prop:=p<=S.length/\∀ k i,S[k]? = some i->a.getD i false=decide (k<p)
structure wW {Γ:Type} (ops:Array Oper) (V:Γ->Nat->Value->Prop) (S:List Nat) (Ph:Nat->Γ->World->Prop) (a0:Act) (γ:Γ) (listed:Array Bool) (a:Act) (w:World):Prop where
 at_:∃ p,LQ S listed p/\Ph p γ w
 size:a.tmps.size=a0.tmps.size
 defers:a.defers=a0.defers
 keep:∀ t,(∀ (i:Nat) (o:Oper),ops[i]? = some o->o.dst=some t->listed.getD i false=false)->a.tmps[t]? = a0.tmps[t]?
 done:∀ (i:Nat) (o:Oper) t,ops[i]? = some o->listed.getD i false=true->o.dst=some t->∃ u,a.tmps[t]? = some u/\V γ i u
 closed:∀ (i:Nat) (o:Oper) j,ops[i]? = some o->listed.getD i false=true->waitsFor o j=true->listed.getD j false=true
def chainB (ops:Array Oper) (S:List Nat):Bool:=
 (List.range S.length).all fun k=>decide (S.getD k 0<ops.size) && (k == 0 || match ops[S.getD k 0]? with | some o=>waitsFor o (S.getD (k - 1) 0) | none=>false) && (List.range k).all (fun j=>S.getD j 0 != S.getD k 0)
def loB (S:List Nat) (o:Oper) (lo:Nat):Bool:=lo == 0 || (decide (lo<=S.length) && waitsFor o (S.getD (lo - 1) 0))
def hiB (ops:Array Oper) (S:List Nat) (i hi:Nat):Bool:=hi == S.length || (decide (hi<S.length) && match ops[S.getD hi 0]? with | some o=>waitsFor o i | none=>false)
def wX (ops:Array Oper) (i t:Nat):Bool:=ops.all fun o=>o.dst != some t || waitsFor o i || (List.range ops.size).any fun m=>waitsFor o m && (match ops[m]? with | some p=>waitsFor p i | none=>false)
theorem Cs {ops:Array Oper} {i t:Nat} (q:wX ops i t=true) {a:Array Bool} (l:a.getD i false=false)
 (d:∀ (i:Nat) (o:Oper) j,ops[i]? = some o->a.getD i false=true->waitsFor o j=true->a.getD j false=true) (j:Nat) (p:Oper) (f:ops[j]? = some p) (u:p.dst=some t):a.getD j false=false:=by
 cases h:a.getD j false with
 | false=>rfl
 | true=>
  exfalso;have b:=(Array.all_eq_true_iff_forall_mem.1 q) p (Array.mem_of_getElem? f);simp only [u,bne_self_eq_false,Bool.false_or,Bool.or_eq_true,List.any_eq_true,Bool.and_eq_true] at b;rcases b with b | ⟨m,_,r,c⟩
  · have:=d j p i f h b;rw [l] at this; cases this
  · have v:=d j p m f h r
    cases g:ops[m]? with
    | none=>rw [g] at c; cases c
    | some w=>
     rw [g] at c;have:=d m w i g v c;rw [l] at this; cases this
def Knows (ops:Array Oper) (V:Nat->Value->Prop) (a0:Act) (i:Nat) (o:Oper) (a:Act):Prop:=
 (∀ t v,a0.tmps[t]? = some v->wX ops i t=true->a.tmps[t]? = some v) /\
 (∀ (j:Nat) (p:Oper) t,ops[j]? = some p->p.dst=some t->waitsFor o j=true->∃ u,a.tmps[t]? = some u/\V j u)/\a.defers=a0.defers
theorem Knows.g {ops:Array Oper} {a0:Act} {V:Nat->Value->Prop} {i:Nat} {o:Oper} {a:Act} (f:Knows ops V a0 i o a) (j t:Nat) {p:Oper} (b:ops[j]? = some p) (c:p.dst=some t) (d:waitsFor o j=true:=by decide +kernel):∃ u,a.tmps[t]? = some u/\V j u:=f.2.1 j p t b c d
theorem Knows.k {ops:Array Oper} {a0:Act} {V:Nat->Value->Prop} {i:Nat} {o:Oper} {a:Act} (c:Knows ops V a0 i o a) (t:Nat) {v:Value} (h:a0.tmps[t]? = some v) (b:wX ops i t=true:=by decide +kernel):a.tmps[t]? = some v:=c.1 t v h b
def Nx {Γ:Type} (P:Program) (ops:Array Oper) (V:Γ->Nat->Value->Prop) (S:List Nat) (Ph:Nat->Γ->World->Prop) (a0:Act) (Q:Exit->Act->World->Prop) (i:Nat) (o:Oper):Prop:=
 o.guard=none/\((∃ k,S[k]? = some i/\∀ b a w,Ph k b w->Knows ops (V b) a0 i o a->o.wp P a w (fun c d=>∃ u f,c=a.put o.dst u/\(∀ j v,j≠i->V b j v->V f j v)/\V f i u/\Ph (k+1) f d) Q) \/
  (i ∉ S/\∃ lo hi,loB S o lo=true/\hiB ops S i hi=true/\∀ p b a w,lo<=p->p<=hi->Ph p b w->Knows ops (V b) a0 i o a->o.wp P a w (fun c d=>∃ u,c=a.put o.dst u/\V b i u/\Ph p b d) Q))
theorem okP {Γ:Type} {P:Program} {ops:Array Oper} {V:Γ->Nat->Value->Prop} {S:List Nat} {Ph:Nat->Γ->World->Prop} {a0:Act} {Q:Exit->Act->World->Prop} {i:Nat} {o:Oper} (lo hi:Nat) (h:∀ p b a w,lo<=p->p<=hi->Ph p b w->Knows ops (V b) a0 i o a->o.wp P a w (fun c l=>∃ u,c=a.put o.dst u/\V b i u/\Ph p b l) Q)
 (j:o.guard=none:=by rfl) (d:i ∉ S:=by decide) (f:loB S o lo=true:=by decide +kernel) (g:hiB ops S i hi=true:=by decide +kernel):Nx P ops V S Ph a0 Q i o:=⟨j,.inr ⟨d,lo,hi,f,g,h⟩⟩
theorem iN (h:chainB ops S=true) {k i:Nat} (f:S[k]? = some i):i<ops.size/\(k=0\/∃ o j,ops[i]? = some o/\S[k - 1]? = some j/\waitsFor o j=true)/\∀ m j,m<k->S[m]? = some j->j≠i:=by
 unfold chainB at h;rw [List.all_eq_true] at h;have hlt:k<S.length:=(List.getElem?_eq_some_iff.1 f).1;have b:=h k (List.mem_range.2 hlt);have e:S.getD k 0=i:=by rw [List.getD_eq_getElem?_getD,f]; rfl
 rw [e] at b;simp only [Bool.and_eq_true,Bool.or_eq_true,decide_eq_true_eq,beq_iff_eq] at b;obtain⟨⟨b,a⟩,l⟩:=b;refine⟨b,?_,fun m j p c=>?_⟩
 · rcases a with a | a
   · exact .inl a
   · rcases Nat.eq_zero_or_pos k with d | d
     · exact .inl d
     · have c:S[k - 1]? = some S[k - 1]:=gO (by omega);rw [show S.getD (k - 1) 0=S[k - 1] by rw [List.getD_eq_getElem?_getD,c]; rfl] at a
       cases g:ops[i]? with
       | none=>rw [g] at a; cases a
       | some o=>rw [g] at a; exact .inr ⟨o,_,rfl,c,a⟩
 · have:=List.all_eq_true.1 l m (List.mem_range.2 p);rw [show S.getD m 0=j by rw [List.getD_eq_getElem?_getD,c]; rfl] at this;simpa using this
theorem jN {a:Array Bool} {i j:Nat} (hi:i<a.size):(a.setIfInBounds i true).getD j false=if i=j then true else a.getD j false:=by
 rw [Array.getD_eq_getD_getElem?,Array.getD_eq_getD_getElem?,Array.getElem?_setIfInBounds];by_cases h:i=j
 · rw [if_pos h,if_pos h,if_pos hi]; rfl
 · rw [if_neg h,if_neg h]
theorem wW.step {n:Nat} (r:BH ops n=true) (G:a0.tmps.size=n) {m:Array Bool} {a:Act} {w:World} (M:m.size=ops.size)
 {B q:Γ} (h:wW ops V S Ph a0 B m a w) {i:Nat} {o:Oper} (g:ops[i]? = some o) (J:∀ j,waitsFor o j=true->m.getD j false=true) {u:Value} {w':World} (F:∀ j v,j≠i->V B j v->V q j v) (I:V q i u) (b:∃ p,LQ S (m.setIfInBounds i true) p/\Ph p q w') :
 wW ops V S Ph a0 q (m.setIfInBounds i true) (a.put o.dst u) w':=by
 have L:i<ops.size:=(Array.getElem?_eq_some_iff.1 g).1
 have A:∀ t,o.dst≠some t->(a.put o.dst u).tmps[t]? = a.tmps[t]?:=by
  intro t c;unfold Act.put
  cases l:o.dst with
  | none=>rfl
  | some C=>
   have H:C≠t:=fun e=>c (by rw [l,e]);simp [Array.getElem?_setIfInBounds,H]
 refine⟨b,?_,?_,fun t c=>?_,fun j p t b f c=>?_,fun j p x b f z=>?_⟩
 · unfold Act.put; split <;> simp [h.size]
 · unfold Act.put; split <;> simp [h.defers]
 · rw [A t (fun l=>by
    have:=c i o g l;rw [jN (by omega),if_pos rfl] at this; cases this)]
   exact h.keep t fun j p b l=>by
    have:=c j p b l;rw [jN (by omega)] at this
    split at this
    · cases this
    · exact this
 · rw [jN (by omega)] at f;by_cases d:i=j
   · subst d;rw [g] at b; injection b with b; subst b;have hlt:=((lV r g).1 t c).1;refine⟨u,?_,I⟩;unfold Act.put;rw [c];simp only [Array.getElem?_setIfInBounds];rw [if_pos trivial,if_pos (by rw [h.size,G]; exact hlt)]
   · rw [if_neg d] at f;obtain⟨K,D,E⟩:=h.done j p t b f c;refine⟨K,?_,F _ _ (fun e=>d e.symm) E⟩;rw [A t ?_]; exact D;intro e;rcases Nat.lt_or_gt_of_ne d with hlt | hlt
     · exact ((lV r b).1 t c).2 i o g hlt e
     · exact ((lV r g).1 t e).2 j p b hlt c
 · rw [jN (by omega)] at f |-;by_cases y:i=x
   · rw [if_pos y]
   · rw [if_neg y];by_cases d:i=j
     · subst d;rw [g] at b; injection b with b; subst b;exact J x z
     · rw [if_neg d] at f;exact h.closed j p x b f z
theorem zL {n:Nat} {Q:Exit->Act->World->Prop} (M:BH ops n=true) (N:chainB ops S=true) (hn:a0.tmps.size=n)
 (ao:∀ (i:Nat) (o:Oper),ops[i]? = some o->Nx P ops V S Ph a0 Q i o)
 (hQ:∀ g a w,(∀ b,(∀ i,i<ops.size->b.getD i false=true)->wW ops V S Ph a0 g b a w)->Q .normal a w) :
 ∀ (y:Nat) (g:Γ) (b:Array Bool) (a:Act) (w:World),b.size=ops.size->(b.toList.filter (! ·)).length<=y->wW ops V S Ph a0 g b a w->wpAny P .any ops Q y b a w:=by
 have A7:∀ {g:Γ} {b:Array Bool} {a:Act} {w:World},wW ops V S Ph a0 g b a w->(∀ i,i<ops.size->b.getD i false=true)->∀ l':Array Bool,(∀ i,i<ops.size->l'.getD i false=true)->wW ops V S Ph a0 g l' a w:=by
  intro g b a w h R l' ab;refine⟨?_,h.size,h.defers,fun x I=>h.keep x fun i o f hd=>absurd (I i o f hd) (by rw [ab i (Array.getElem?_eq_some_iff.1 f).1]; simp),fun i o x f _ I=>h.done i o x f (R i (Array.getElem?_eq_some_iff.1 f).1) I,fun i o j f _ d=>?_⟩
  · obtain⟨p,⟨ae,q⟩,U⟩:=h.at_;refine⟨p,⟨ae,fun k i m=>?_⟩,U⟩;have A:=(iN N m).1;rw [<- q k i m,R i A,ab i A]
  · refine ab j ?_;have ar:=d;unfold waitsFor at d;obtain⟨e,Y,c⟩:=Array.any_eq_true'.1 d;simp only [Bool.and_eq_true,beq_iff_eq] at c;have:=(lV M f).2 e Y;have A:=(Array.getElem?_eq_some_iff.1 f).1;omega
 intro y
 induction y with
 | zero=>
  intro g b a w H hf h
  have B:Region.ready .any ops b=[]:=by
   cases B:Region.ready .any ops b with
   | nil=>rfl
   | cons i aw=>
    exfalso;have l:i ∈ Region.ready .any ops b:=by rw [B]; exact List.mem_cons_self
    obtain⟨z,o,f,_⟩:=mem_ready.1 l;have A:i<ops.size:=(Array.getElem?_eq_some_iff.1 f).1;have C:b[i]? = some b[i]:=Array.getElem?_eq_getElem (by omega);rw [Array.getD_eq_getD_getElem?,C] at z;have c:false ∈ b.toList.filter (! ·):=List.mem_filter.2 ⟨by rw [<- show b[i]=false from by simpa using z]; exact Array.getElem_mem_toList (by omega),rfl⟩;have:=List.length_pos_of_mem c;omega
  exact⟨B,hQ g a w (A7 h (iP M H B))⟩
 | succ y ih=>
  intro g b a w H hf h;refine⟨fun B=>hQ g a w (A7 h (iP M H B)),fun i A=>?_⟩;obtain⟨z,o,f,ag⟩:=mem_ready.1 A;have aq:i<ops.size:=(Array.getElem?_eq_some_iff.1 f).1;have K:i<b.size:=by omega
  have G:b.getD i false=false:=by
   have C:b[i]? = some b[i]:=Array.getElem?_eq_getElem K;rw [Array.getD_eq_getD_getElem?,C] at z |-;simpa using z
  have W:∀ j,waitsFor o j=true->b.getD j false=true:=by
   intro j d;unfold waitsFor at d;obtain⟨e,Y,c⟩:=Array.any_eq_true'.1 d;simp only [Bool.and_eq_true,beq_iff_eq] at c;obtain⟨c,L⟩:=c;subst c;exact ag e Y L
  have EV:Knows ops (V g) a0 i o a:=⟨fun x v hv hn=>by rw [h.keep x (Cs hn G h.closed)]; exact hv,fun j p x hp I d=>h.done j p x hp (W j d) I,h.defers⟩;obtain⟨p,⟨ae,q⟩,U⟩:=h.at_;obtain⟨ai,m⟩:=ao i o f;unfold wpOp;rw [f];simp only [Region.wanted,ai,if_true];refine .inl ?_
  have next:∀ u E w',(∀ j v,j≠i->V g j v->V E j v)->V E i u->(∃ p,LQ S (b.setIfInBounds i true) p/\Ph p E w')->wpAny P .any ops Q y (b.setIfInBounds i true) (a.put o.dst u) w':=by
   intro u E w' Z J hp;refine ih _ _ _ _ (by simpa using H) ?_ (h.step M hn H f W Z J hp);have C:b[i]? = some b[i]:=Array.getElem?_eq_getElem K
   have c:b.toList[i]? = some false:=by
    rw [Array.getElem?_toList,C];rw [Array.getD_eq_getD_getElem?,C] at G;simpa using G
   have L:=count_set b.toList i c;simp only [Array.toList_setIfInBounds];omega
  rcases m with ⟨k,m,hw⟩ | ⟨am,D,t,ac,aa,hw⟩
  · have al:p=k:=by
     have X:=q k i m;rw [G] at X
     have z:¬ k<p:=by
      intro hlt; rw [decide_eq_true hlt] at X; cases X
     rcases (iN N m).2.1 with F | ⟨o',j,T,d,ap⟩
     · omega
     · rw [f] at T; injection T with T; subst T;have e2:=q (k - 1) j d;rw [W j ap] at e2;have c:k - 1<p:=of_decide_eq_true e2.symm;omega
    subst al;refine Oper.wp_mono (fun a' w' hh=>?_) (hw g a w U EV);obtain⟨u,E,rfl,Z,J,af⟩:=hh;refine next u E w' Z J ⟨p+1,⟨(List.getElem?_eq_some_iff.1 m).1,fun r j l=>?_⟩,af⟩;rw [jN K];by_cases O:i=j
    · rw [if_pos O];subst O
      have au:r=p:=by
       rcases Nat.lt_trichotomy r p with hlt | ah | aj
       · exact absurd rfl ((iN N m).2.2 r i hlt l)
       · exact ah
       · exact absurd rfl ((iN N l).2.2 p i aj m)
      rw [decide_eq_true (by omega)]
    · rw [if_neg O,q r j l];have av:r≠p:=fun e=>by subst e; rw [m] at l; injection l with l; exact O l
      by_cases hlt:r<p
      · rw [decide_eq_true hlt,decide_eq_true (by omega)]
      · rw [decide_eq_false hlt,decide_eq_false (by omega)]
  · have R:D<=p:=by
     unfold loB at ac;simp only [Bool.or_eq_true,Bool.and_eq_true,beq_iff_eq,decide_eq_true_eq] at ac;rcases ac with F | ⟨F,c⟩
     · omega
     · rcases Nat.eq_zero_or_pos D with L | L
       · omega
       · have d:S[D - 1]? = some S[D - 1]:=gO (by omega);rw [show S.getD (D - 1) 0=S[D - 1] by rw [List.getD_eq_getElem?_getD,d]; rfl] at c;have e:=q _ _ d;rw [W _ c] at e;have:=of_decide_eq_true e.symm;omega
    have ak:p<=t:=by
     unfold hiB at aa;simp only [Bool.or_eq_true,Bool.and_eq_true,beq_iff_eq,decide_eq_true_eq] at aa;rcases aa with F | ⟨F,c⟩
     · omega
     · have d:S[t]? = some S[t]:=gO F;rw [show S.getD t 0=S[t] by rw [List.getD_eq_getElem?_getD,d]; rfl] at c
       cases ad:ops[S[t]]? with
       | none=>rw [ad] at c; cases c
       | some o'=>
        rw [ad] at c;have e:=q _ _ d;by_cases hlt:t<p
        · rw [decide_eq_true hlt] at e;have:=h.closed _ o' i ad e c;rw [G] at this; cases this
        · omega
    refine Oper.wp_mono (fun a' w' hh=>?_) (hw p g a w R ak U EV);obtain⟨u,rfl,J,af⟩:=hh;refine next u g w' (fun _ _ _ h=>h) J ⟨p,⟨ae,fun r j l=>?_⟩,af⟩;rw [jN K,if_neg (fun e=>am (by subst e; exact List.mem_of_getElem? l))];exact q r j l
structure A8 {Γ:Type} (ops:Array Oper) (V:Γ->Nat->Value->Prop) (S:List Nat) (Ph:Nat->Γ->World->Prop) (a0:Act) (γ:Γ) (a:Act) (w:World):Prop where
 ph:Ph S.length γ w
 size:a.tmps.size=a0.tmps.size
 defers:a.defers=a0.defers
 keep:∀ t,(∀ (i:Nat) (o:Oper),ops[i]? = some o->o.dst≠some t)->a.tmps[t]? = a0.tmps[t]?
 done:∀ (i:Nat) (o:Oper) t,ops[i]? = some o->o.dst=some t->∃ u,a.tmps[t]? = some u/\V γ i u
def Iq {Γ:Type} (P:Program) (ops:Array Oper) (V:Γ->Nat->Value->Prop) (S:List Nat) (Ph:Nat->Γ->World->Prop) (a0:Act) (Q:Exit->Act->World->Prop):Nat->List Oper->Prop
 | _,[]=>True
 | i,o :: l=>Nx P ops V S Ph a0 Q i o/\Iq P ops V S Ph a0 Q (i+1) l
theorem Iq.all {Q:Exit->Act->World->Prop}:∀ {l:List Oper} {k:Nat},Iq P ops V S Ph a0 Q k l->∀ (i:Nat) (o:Oper),l[i]? = some o->Nx P ops V S Ph a0 Q (k+i) o
 | [],_,_,i,o,h=>by simp at h
 | x :: l,k,a,0,o,h=>by
  have e:x=o:=by simpa using h
  subst e; exact a.1
 | x :: l,k,a,i+1,o,h=>by
  have:=a.2.all i o (by simpa using h);rwa [show k+(i+1)=k+1+i from by omega]
theorem kZ {F:Nat} {n:Nat} {l:List Oper} {w0:World} {Q:Exit->Act->World->Prop} (z:P.follows .mixedOrders=true) (V:Γ->Nat->Value->Prop) (S:List Nat) (Ph:Nat->Γ->World->Prop) (q:Γ) (u:BH l.toArray n=true) (m:chainB l.toArray S=true) (A:a0.tmps.size=n)
 (f:Ph 0 q w0.drew) (B:Iq P l.toArray V S Ph a0 Q 0 l) (v:∀ j a w,A8 l.toArray V S Ph a0 j a w->Q .normal a w):(Code.region F l.toArray true).wp P Q a0 w0:=by
 refine wp_region_any z (zL u m A (fun i o b=>by
  have:=B.all i o (by simpa using b);rwa [Nat.zero_add] at this) (fun j a w r=>v j a w ?_) l.toArray.size q (Array.replicate l.toArray.size false) a0 _ (by simp) ?_ ?_)
 · have c:=r (Array.replicate l.toArray.size true) (fun i y=>by rw [Array.getD_eq_getD_getElem?,Array.getElem?_replicate,if_pos y]; rfl);obtain⟨G,⟨H,C⟩,D⟩:=c.at_
   have E:G=S.length:=by
    rcases Nat.eq_zero_or_pos S.length with f | f
    · omega
    · have p:S[S.length - 1]? = some S[S.length - 1]:=gO (by omega);have e:=C _ _ p;rw [Array.getD_eq_getD_getElem?,Array.getElem?_replicate,if_pos (iN m p).1] at e;have:=of_decide_eq_true e.symm;omega
   subst E;exact⟨D,c.size,c.defers,fun t h=>c.keep t fun i o b x=>absurd x (h i o b),fun i o t b h=>c.done i o t b (by rw [Array.getD_eq_getD_getElem?,Array.getElem?_replicate,if_pos (Array.getElem?_eq_some_iff.1 b).1]; rfl) h⟩
 · exact v6 (List.length_filter_le _ _) (by simp)
 · have g:∀ i,(Array.replicate l.toArray.size false).getD i false=false:=by
    intro i;rw [Array.getD_eq_getD_getElem?,Array.getElem?_replicate]
    split <;> rfl
   exact⟨⟨0,⟨Nat.zero_le _,fun k i _=>by rw [g]; rfl⟩,f⟩,rfl,rfl,fun _ _=>rfl,fun i o t b d _=>(by rw [g] at d; cases d),fun i o I b d _=>(by rw [g] at d; cases d)⟩
theorem A8.frame {q:Γ} {a:Act} {w:World} (h:A8 ops V S Ph a0 q a w) (b:List Nat) (u:ops.toList.filterMap (·.dst)=b) :
 ∃ f:Nat->Value,a = { tmps:=b.foldl (fun t d=>t.setIfInBounds d (f d)) a0.tmps,defers:=a0.defers }/\∀ (i:Nat) (o:Oper) t,ops[i]? = some o->o.dst=some t->V q i (f t):=by
 refine⟨fun d=>(a.tmps[d]?).getD undef,?_,fun i o t l v=>by
  obtain⟨y,g,c⟩:=h.done i o t l v;simp only [g,Option.getD_some];exact c⟩
 obtain⟨t,d⟩:=a;have g:=h.size;have c:=h.defers;have m:=h.keep;simp only at g c m;subst c
 congr 1
 apply Array.ext_getElem?
 intro i;rw [zY (fun d=>(t[d]?).getD undef) b a0.tmps i];by_cases p:i<a0.tmps.size
 · by_cases j:i ∈ b
   · rw [if_pos ⟨j,p⟩,Array.getElem?_eq_getElem (by omega)]; rfl
   · rw [if_neg (fun h=>j h.1)];refine m i (fun x o l r=>j ?_);rw [<- u];exact List.mem_filterMap.2 ⟨o,Array.mem_toList_iff.2 (Array.mem_of_getElem? l),r⟩
 · rw [if_neg (fun h=>p h.2),Array.getElem?_eq_none (by omega),Array.getElem?_eq_none (by omega)]
end
def Gx:Array Value:=Array.replicate 256 (.int .u32 0)
theorem Ir (w:World):(zeroValue 255).run Tryz.prog w = .ok (.agg Gx) w:=by kernel_rfl
def zl (cs:Array Value) (k:Nat):Prop:=cs.size=256/\(∀ j,j<k->cs[j]? = some (.int .u32 ((nQ 8 j:Nat):Int)))/\cs.all (·.oneCell')=true
theorem zl.zero:zl Gx 0:=⟨by simp [Gx],fun j h=>absurd h (by omega),by decide +kernel⟩
theorem zl.step {cs:Array Value} {k:Nat} (h:zl cs k) (d:k<256):zl (cs.setIfInBounds k (.int .u32 ((nQ 8 k:Nat):Int))) (k+1):=by
 refine⟨by simpa using h.1,fun j c=>?_,?_⟩
 · rw [Array.getElem?_setIfInBounds];have:=h.1;by_cases e:k=j
   · subst e; rw [if_pos rfl,if_pos (by omega)]
   · rw [if_neg e]; exact h.2.1 j (by omega)
 · have:=h.2.2;rw [Array.all_eq_true_iff_forall_mem] at this |-;intro x b;rcases Array.mem_or_eq_of_mem_setIfInBounds b with a | a
   · exact this x a
   · subst a; rfl
def Ny (w:World) (i:Value) (wr:World):Prop:=∃ (k:Nat) (cs:Array Value),k<=256/\i = .int .i64 k/\zl cs k/\wr=w.alloc (.cells cs 255)
theorem below_setRow (w:World) (g:Nat) (cs:Array Value):Below g w (w.setRow g cs):=by
 refine⟨rfl,rfl,rfl,by simp [World.setRow],fun k a=>?_⟩;simp only [World.setRow,Array.getElem?_modify];rw [if_neg (by omega)]
theorem LR (w:World):ψ 179 #[] w fun e q=>∃ cs,zl cs 256/\e = .returned (.agg cs)/\Below w w q:=by
 have E:=Ir;go_enter Tryz.func179,Tryz.ntmps179;go_wp2
 go_loopw [1,2,3,4,9] (fun _ _ _ i _ wr=>Ny w i wr) (fun _ _ _ i _ _=>256 - (intOf i).toNat)
 case atStart=>exact⟨0,Gx,by omega,rfl,zl.zero,rfl⟩
 case round=>
  obtain⟨k,cs,B,rfl,j,rfl⟩:=hrel;have a:=ω j;clear j;by_cases hlt:k<256
  · go_wp2
    go_loop [2,3,9] (fun x _ i=>∃ (m:Nat),m<=8/\i = .int .i64 m/\x = .int .u32 ((nQ m k:Nat):Int)) (fun _ _ i=>8 - (intOf i).toNat)
    case atStart=>exact⟨0,by omega,rfl,rfl⟩
    case round=>
     obtain⟨m,C,rfl,rfl⟩:=hrel;have p:=vY (x:=k) (by omega) m;have b:=BI (nQ m k) p;have u:=b.2.1;have y:=b.2.2;have l:=ω b.1;clear b;by_cases D:m<8
     · go_wp2
       go_round
       case rel=>exact⟨m+1,by omega,by go_num,by rw [l.z]; rfl⟩
       case measure=>simp [intOf]; omega
     · obtain rfl:m=8:=by omega
       obtain⟨r,z⟩:∃ v,cs[k]? = some v:=⟨_,Array.getElem?_eq_getElem (by rw [a.z.1]; exact hlt)⟩;go_wp2
       go_roundw
       case rel=>exact⟨k+1,_,by omega,by go_num,a.z.step hlt,rfl⟩
       case measure=>simp [intOf]; omega
  · obtain rfl:k=256:=by omega
    have g:=n5 w (.cells cs 255);have h:(Tryz.prog.info? 255).map (·.size)=some cs.size:=by rw [a.z.1]; kernel_rfl
    have c:=ω g;have d:=ω h;clear g h
    go_wp2_with (first | (refine wpList_load_row rfl _ _ rfl w rfl 255 cs (0,0) _ c.z Tryz.underlying255 rfl d.z ?_) | (refine wpList_store_row rfl _ _ _ rfl w cs rfl rfl 255 cs c.z d.z rfl a.z.2.2 ?_))
    have o:((w.alloc (.cells cs 255)).setRow w cs).heap[w.heap.size]? = some (.cells cs 255 (0,0)):=setRow_heap _ _ _ _ _ _ c.z;refine bodyPost_ret (results_cell_row rfl _ _ w _ cs (0,0) _ rfl o Tryz.underlying255 rfl d.z) rfl ⟨cs,a,rfl,?_⟩;exact (θ).alloc lJ _ |>.trans (below_setRow _ _ _)
theorem Gy (w:World) (c b:Array Value) (t:TypeId):(w.alloc (.cells c t)).setRow w b=w.alloc (.cells b t):=by
 have j:∀ (a:Array Obj) (x:Obj) (f:Obj->Obj),(a.push x).modify a.size f=a.push (f x):=by
  intro a x f
  apply Array.ext
  · simp
  · intro i d l;simp only [Array.getElem_modify,Array.getElem_push];by_cases h:a.size=i
    · subst h;simp
    · have g:i<a.size:=by simp at d; omega
      simp [h,g]
 unfold World.setRow
 show ({ w.alloc (.cells c t) with heap:=(w.heap.push (.cells c t)).modify w _ }:World)=_
 rw [j];rfl
def LS (s:ByteArray) (x i:Value):Prop:=∃ (k n:Nat),k<=s.size/\i = .int .i64 k/\x = .int .u32 n/\n=CG (s.data.toList.take k)
theorem Nn (s:ByteArray) (w:World) (N:s.size<=9223372036854775807):ψ 139 #[s] w fun e I=>e = .returned (.int .u32 ((gR s.data.toList:Nat):Int))/\Below w w I:=by
 have Q:=Ir;go_enter Tryz.func139,Tryz.ntmps139
 go_wp2_with fail
 refine Calls.mono (LR w) ?_;rintro e l ⟨g,v,rfl,h⟩;have b:=ω v;have q:=n5 l (.cells Gx 255);have r:(Tryz.prog.info? 255).map (·.size)=some g.size:=by rw [b.z.1]; kernel_rfl
 have z:=ω q;have B:=ω r;have p:Below w w (χ l g 255):=h.alloc h.size _;have C:=ω p;clear q r v p h
 go_wp2_with (refine wpList_store_row rfl _ _ _ rfl l g rfl rfl 255 Gx z.z B.z (by rw [b.z.1]; simp [Gx]) b.z.2.2 ?_; rw [Gy])
 go_loop [4,5,9] (fun x _ j=>LS s x j) (fun _ _ j=>s.size - (intOf j).toNat)
 case atStart=>exact⟨0,_,by omega,rfl,rfl,rfl⟩
 case round=>
  obtain⟨k,x,M,rfl,rfl,i⟩:=hrel;have hlt:x<4294967296:=by rw [i]; exact CI _
  have m:=ω i;clear i;by_cases u:k<s.size
  · obtain⟨c,d⟩:∃ c:Nat,s[k].toNat=c:=⟨_,rfl⟩;have D:c<256:=by rw [<- d]; exact s[k].toNat_lt
    have J:=jq u d;have a:=MF x c D;have o:=ω (show x / 256 ^^^ nQ 8 (x % 256 ^^^ c)=CG (s.data.toList.take (k+1)) from by rw [qQ u,B1,<- m.z,d]; rfl);clear d;generalize G:(x % 256) ^^^ c=y at a o;clear G;have K:=b.z.2.1 y a.2;have H:=a.2;have L:=a.1;have O:=CJ x y hlt H;clear a;go_wp2
    go_round
    case rel=>exact⟨k+1,_,by omega,by go_num,rfl,o.z⟩
    case measure=>simp [intOf]; omega
  · have F:=ω (MG x hlt)
    have E:=ω (show 4294967295 - x=gR s.data.toList from by
     unfold gR; rw [m.z,List.take_of_length_le (by simp; omega)])
    go_wp2;go_ret;exact⟨aY (by rw [F.z,E.z]),C⟩
theorem LD (s:ByteArray) (w:World) (I:s.size<=9223372036854775807):ψ 173 #[s] w fun e D=>e = .returned (.int .u32 ((gR s.data.toList:Nat):Int))/\w=D:=by
 go_enter Tryz.func173,Tryz.ntmps173;go_wp2
 go_loop [3,4,5,8,17] (fun x _ _ i _=>LS s x i) (fun _ _ _ i _=>s.size - (intOf i).toNat)
 case atStart=>exact⟨0,_,by omega,rfl,rfl,rfl⟩
 case round=>
  obtain⟨k,x,F,rfl,rfl,d⟩:=hrel;have hlt:x<4294967296:=by rw [d]; exact CI _
  have h:=ω d;clear d;by_cases p:k<s.size
  · obtain⟨c,a⟩:∃ c:Nat,s[k].toNat=c:=⟨_,rfl⟩;have v:c<256:=by rw [<- a]; exact s[k].toNat_lt
    have E:=jq p a;have B:=u32_xor_nat x c hlt (by omega);have j:=ω (show nQ 8 (x ^^^ c)=CG (s.data.toList.take (k+1)) from by rw [qQ p,B1,<- h.z,a,GZ v]);have q:x ^^^ c<4294967296:=Nat.xor_lt_two_pow (n:=32) hlt (by omega);clear a;generalize C:x ^^^ c=y at B j q;clear C;go_wp2
    go_loop [3,5,17] (fun x _ i=>∃ (m:Nat),m<=8/\i = .int .i64 m/\x = .int .u32 ((nQ m y:Nat):Int)) (fun _ _ i=>8 - (intOf i).toNat)
    case atStart=>exact⟨0,by omega,rfl,rfl⟩
    case round=>
     obtain⟨m,G,rfl,rfl⟩:=hrel;have l:=vY q m;by_cases H:m<8
     · have o:nQ (m+1) y=vX (nQ m y):=rfl;have b:=ω o;clear o;generalize nQ m y=n at l b;by_cases g:n % 2=0
       · have r:=ω (IA g);have u:((n:Int) % 2 == 1)=false:=by rw [beq_eq_false_iff_ne]; omega
         clear g;go_wp2
         go_round
         case rel=>exact⟨m+1,by omega,by go_num,by rw [r.z,b.z]⟩
         case measure=>simp [intOf]; omega
       · have t:=ω (Kd (n:=n) l (by omega));have u:((n:Int) % 2 == 1)=true:=by rw [beq_iff_eq]; omega
         clear g;go_wp2
         go_round
         case rel=>exact⟨m+1,by omega,by go_num,by rw [t.z,b.z]⟩
         case measure=>simp [intOf]; omega
     · obtain rfl:m=8:=by omega
       go_wp2
       go_round
       case rel=>exact⟨k+1,_,by omega,by go_num,rfl,j.z⟩
       case measure=>simp [intOf]; omega
  · have z:=ω (show 4294967295 - (x:Int)=((gR s.data.toList:Nat):Int) from by
     unfold gR; rw [h.z,List.take_of_length_le (by simp; omega)]; have:=CI s.data.toList; omega)
    go_wp2;go_ret;exact⟨aY z.z,rfl⟩
def aD (s:ByteArray) (i:Nat):Nat:=(s.data.toList.getD i 0).toNat
theorem I0 {s:ByteArray} {i:Nat} (h:i<s.size):aD s i=s[i].toNat:=by
 unfold aD;rw [List.getD_eq_getElem?_getD,List.getElem?_eq_getElem (by simpa using h)];rfl
theorem qN (s:ByteArray) (i:Nat):aD s i<256:=(s.data.toList.getD i 0).toNat_lt
def nE (s:ByteArray):Nat:=
 if 0<s.size/\aD s 0≠66 then 4
 else if 1<s.size/\aD s 1≠75 then 4
 else if 2<s.size/\(aD s 2<1\/3<aD s 2) then 1
 else if 3<s.size/\(aD s 3<1\/4<aD s 3) then 1
 else if s.size<4 then 3 else 0
structure iZ (s:ByteArray) (k:Nat):Prop where
 h0:0<k->0<s.size/\aD s 0=66
 h1:1<k->1<s.size/\aD s 1=75
 h2:2<k->2<s.size/\1<=aD s 2/\aD s 2<=3
 h3:3<k->3<s.size/\1<=aD s 3/\aD s 3<=4
theorem iZ.zero (s:ByteArray):iZ s 0:=⟨fun h=>absurd h (by omega),fun h=>absurd h (by omega),fun h=>absurd h (by omega),fun h=>absurd h (by omega)⟩
section
variable {s:ByteArray}
theorem KH (h:0<s.size) (a:aD s 0≠66):nE s=4:=by unfold nE; rw [if_pos ⟨h,a⟩]
theorem KI (b:iZ s 1) (h:1<s.size) (a:aD s 1≠75):nE s=4:=by
 have:=b.h0 (by omega);unfold nE; rw [if_neg (by omega),if_pos ⟨h,a⟩]
theorem KJ (a:iZ s 2) (h:2<s.size) (b:aD s 2<1\/3<aD s 2):nE s=1:=by
 have:=a.h0 (by omega);have:=a.h1 (by omega);unfold nE; rw [if_neg (by omega),if_neg (by omega),if_pos ⟨h,b⟩]
theorem KK (a:iZ s 3) (h:3<s.size) (b:aD s 3<1\/4<aD s 3):nE s=1:=by
 have:=a.h0 (by omega);have:=a.h1 (by omega);have:=a.h2 (by omega);unfold nE; rw [if_neg (by omega),if_neg (by omega),if_neg (by omega),if_pos ⟨h,b⟩]
theorem pK {k:Nat} (a:iZ s k) (f:s.size<=k) (h:s.size<4):nE s=3:=by
 have a0:=a.h0;have b:=a.h1;have c:=a.h2;have d:=a.h3;unfold nE;rw [if_neg (by omega),if_neg (by omega),if_neg (by omega),if_neg (by omega),if_pos h]
theorem zR (a:iZ s 4):nE s=0/\4<=s.size:=by
 have a0:=a.h0 (by omega);have b:=a.h1 (by omega);have c:=a.h2 (by omega);have d:=a.h3 (by omega);unfold nE;rw [if_neg (by omega),if_neg (by omega),if_neg (by omega),if_neg (by omega),if_neg (by omega)];exact⟨rfl,by omega⟩
theorem I2 (h:nE s=0):iZ s 4:=by
 unfold nE at h;by_cases c0:0<s.size/\aD s 0≠66
 · rw [if_pos c0] at h; omega
 rw [if_neg c0] at h;by_cases a:1<s.size/\aD s 1≠75
 · rw [if_pos a] at h; omega
 rw [if_neg a] at h;by_cases c2:2<s.size/\(aD s 2<1\/3<aD s 2)
 · rw [if_pos c2] at h; omega
 rw [if_neg c2] at h;by_cases b:3<s.size/\(aD s 3<1\/4<aD s 3)
 · rw [if_pos b] at h; omega
 rw [if_neg b] at h;by_cases c4:s.size<4
 · rw [if_pos c4] at h; omega
 exact⟨fun _=>by omega,fun _=>by omega,fun _=>by omega,fun _=>by omega⟩
end
structure cM where
 ver:Nat
 kind:Nat
 pay:ByteArray
def cM.zero:cM:=⟨0,0,⟨#[]⟩⟩
def jK (s:ByteArray):cM × Nat × Nat:=
 if nE s=0 then
  match rdNum (s.extract 4 s.size) with
  | (n,k,e)=>
   if e=0 then
    if 6000<n then (.zero,0,2)
    else if s.size<8+k+n then (.zero,0,3)
    else if (s.extract (4+k+n) (8+k+n)).data.toList=pC (s.extract 0 (4+k+n)).data.toList then (⟨aD s 2,aD s 3,s.extract (4+k) (4+k+n)⟩,8+k+n,0)
    else (.zero,0,5)
   else (.zero,0,e)
 else (.zero,0,nE s)
section
variable {s:ByteArray} {n k e:Nat}
theorem B9 {c:Nat} (h:nE s=c) (a:c≠0):jK s=(.zero,0,c):=by subst h; unfold jK; rw [if_neg a]
theorem D9 (h:nE s=0) (b:rdNum (s.extract 4 s.size)=(n,k,e)) (a:e≠0):jK s=(.zero,0,e):=by unfold jK; rw [if_pos h,b]; simp only; rw [if_neg a]
theorem AB (h:nE s=0) (b:rdNum (s.extract 4 s.size)=(n,k,0)) (a:6000<n):jK s=(.zero,0,2):=by unfold jK; rw [if_pos h,b]; simp only; rw [if_pos trivial,if_pos a]
theorem AD (h:nE s=0) (b:rdNum (s.extract 4 s.size)=(n,k,0)) (a:¬ 6000<n) (c:s.size<8+k+n):jK s=(.zero,0,3):=by unfold jK; rw [if_pos h,b]; simp only; rw [if_pos trivial,if_neg a,if_pos c]
theorem D8 (h:nE s=0) (c:rdNum (s.extract 4 s.size)=(n,k,0)) (b:¬ 6000<n) (d:¬ s.size<8+k+n) (a:¬ (s.extract (4+k+n) (8+k+n)).data.toList=pC (s.extract 0 (4+k+n)).data.toList):jK s=(.zero,0,5):=by unfold jK; rw [if_pos h,c]; simp only; rw [if_pos trivial,if_neg b,if_neg d,if_neg a]
theorem D7 (h:nE s=0) (c:rdNum (s.extract 4 s.size)=(n,k,0)) (b:¬ 6000<n) (d:¬ s.size<8+k+n) (a:(s.extract (4+k+n) (8+k+n)).data.toList=pC (s.extract 0 (4+k+n)).data.toList):jK s=(⟨aD s 2,aD s 3,s.extract (4+k) (4+k+n)⟩,8+k+n,0):=by unfold jK; rw [if_pos h,c]; simp only; rw [if_pos trivial,if_neg b,if_neg d,if_pos a]
end
section
variable {Γ:Type} {P:Program} {ops:Array Oper} {V:Γ->Nat->Value->Prop} {a0:Act} {S:List Nat} {Ph:Nat->Γ->World->Prop}
def Gz (ops:Array Oper) (n:Nat):Bool:=
 (List.range ops.size).all fun i=>match ops[i]? with
  | some o=>(match o.dst with | some t=>decide (t<n) && (List.range i).all (fun j=>match ops[j]? with | some p=>p.dst != some t | none=>true) | none=>true) && o.after.all (fun e=>!Region.binds .any e || decide (e.on<i))
  | none=>true
theorem qV {n:Nat} (h:Gz ops n=true) {i:Nat} {o:Oper} (c:ops[i]? = some o) :
 (∀ t,o.dst=some t->t<n/\∀ (j:Nat) (p:Oper),ops[j]? = some p->j<i->p.dst≠some t)/\∀ e ∈ o.after,Region.binds .any e=true->e.on<i:=by
 unfold Gz at h;rw [List.all_eq_true] at h;have l:i<ops.size:=(Array.getElem?_eq_some_iff.1 c).1;have a:=h i (List.mem_range.2 l);rw [c] at a;simp only [Bool.and_eq_true] at a;obtain⟨a,d⟩:=a;refine⟨fun t r=>?_,fun e g f=>?_⟩
 · rw [r] at a;simp only [Bool.and_eq_true,decide_eq_true_eq] at a;refine⟨a.1,fun j p q m=>?_⟩;have b:=List.all_eq_true.1 a.2 j (List.mem_range.2 m);rw [q] at b;simpa using b
 · have:=(Array.all_eq_true_iff_forall_mem.1 d) e g;rw [f] at this;simpa using this
theorem oz {n:Nat} (f:Gz ops n=true) {a:Array Bool} (p:a.size=ops.size) (l:Region.ready .any ops a=[]):∀ i,i<ops.size->a.getD i false=true:=by
 intro i
 induction i using Nat.strongRecOn with
 | _ i o=>
  intro j;have d:ops[i]? = some ops[i]:=Array.getElem?_eq_getElem j;by_cases b:a.getD i false=true
  · exact b
  · exfalso
    have c:i ∈ Region.ready .any ops a:=mem_ready.2 ⟨by
     have m:a[i]? = some a[i]:=Array.getElem?_eq_getElem (by omega);rw [Array.getD_eq_getD_getElem?,m] at b |-;simpa using b,_,d,fun e h g=>?_⟩
    · rw [l] at c; cases c
    · have hlt:=(qV f d).2 e h g;exact o e.on hlt (by omega)
theorem wW.PX {n:Nat} (r:Gz ops n=true) (G:a0.tmps.size=n) {m:Array Bool} {a:Act} {w:World} (M:m.size=ops.size)
 {B q:Γ} (h:wW ops V S Ph a0 B m a w) {i:Nat} {o:Oper} (g:ops[i]? = some o) (J:∀ j,waitsFor o j=true->m.getD j false=true) {u:Value} {w':World} (F:∀ j v,j≠i->V B j v->V q j v) (I:V q i u) (b:∃ p,LQ S (m.setIfInBounds i true) p/\Ph p q w') :
 wW ops V S Ph a0 q (m.setIfInBounds i true) (a.put o.dst u) w':=by
 have L:i<ops.size:=(Array.getElem?_eq_some_iff.1 g).1
 have A:∀ t,o.dst≠some t->(a.put o.dst u).tmps[t]? = a.tmps[t]?:=by
  intro t c;unfold Act.put
  cases l:o.dst with
  | none=>rfl
  | some C=>
   have H:C≠t:=fun e=>c (by rw [l,e]);simp [Array.getElem?_setIfInBounds,H]
 refine⟨b,?_,?_,fun t c=>?_,fun j p t b f c=>?_,fun j p x b f z=>?_⟩
 · unfold Act.put; split <;> simp [h.size]
 · unfold Act.put; split <;> simp [h.defers]
 · rw [A t (fun l=>by
    have:=c i o g l;rw [jN (by omega),if_pos rfl] at this; cases this)]
   exact h.keep t fun j p b l=>by
    have:=c j p b l;rw [jN (by omega)] at this
    split at this
    · cases this
    · exact this
 · rw [jN (by omega)] at f;by_cases d:i=j
   · subst d;rw [g] at b; injection b with b; subst b;have hlt:=((qV r g).1 t c).1;refine⟨u,?_,I⟩;unfold Act.put;rw [c];simp only [Array.getElem?_setIfInBounds];rw [if_pos trivial,if_pos (by rw [h.size,G]; exact hlt)]
   · rw [if_neg d] at f;obtain⟨K,D,E⟩:=h.done j p t b f c;refine⟨K,?_,F _ _ (fun e=>d e.symm) E⟩;rw [A t ?_]; exact D;intro e;rcases Nat.lt_or_gt_of_ne d with hlt | hlt
     · exact ((qV r b).1 t c).2 i o g hlt e
     · exact ((qV r g).1 t e).2 j p b hlt c
 · rw [jN (by omega)] at f |-;by_cases y:i=x
   · rw [if_pos y]
   · rw [if_neg y];by_cases d:i=j
     · subst d;rw [g] at b; injection b with b; subst b;exact J x z
     · rw [if_neg d] at f;exact h.closed j p x b f z
def rP (P:Program) (ops:Array Oper) (o:Oper) (a:Act) (w:World) (K:Act->World->Prop) (Q:Exit->Act->World->Prop):Prop:=
 if Region.wanted o (yielded ops a.tmps)=true then o.wp P a w K Q else K (a.put o.dst undef) w
theorem zm {P:Program} {ops:Array Oper} {o:Oper} {a:Act} {w:World} {K c:Act->World->Prop} {Q:Exit->Act->World->Prop} (h:∀ a w,K a w->c a w) (b:rP P ops o a w K Q) :
 (if Region.wanted o (yielded ops a.tmps)=true then o.wp P a w c Q\/(o.asks P a w/\LetsOut Q) else c (a.put o.dst undef) w):=by
 unfold rP at b
 split at b
 · rename_i d
   rw [if_pos d];exact .inl (Oper.wp_mono h b)
 · rename_i d
   rw [if_neg d];exact h _ _ b
def A9 {Γ:Type} (P:Program) (ops:Array Oper) (V:Γ->Nat->Value->Prop) (S:List Nat) (Ph:Nat->Γ->World->Prop) (a0:Act) (Q:Exit->Act->World->Prop) (i:Nat) (o:Oper):Prop:=
 ((∃ k,S[k]? = some i/\∀ b a w,Ph k b w->Knows ops (V b) a0 i o a->rP P ops o a w (fun d f=>∃ u c,d=a.put o.dst u/\(∀ j v,j≠i->V b j v->V c j v)/\V c i u/\Ph (k+1) c f) Q) \/
  (i ∉ S/\∃ lo hi,loB S o lo=true/\hiB ops S i hi=true/\∀ p b a w,lo<=p->p<=hi->Ph p b w->Knows ops (V b) a0 i o a->rP P ops o a w (fun d f=>∃ u c,d=a.put o.dst u/\(∀ j v,j≠i->V b j v->V c j v)/\V c i u/\Ph p c f) Q))
theorem yG {n:Nat} {Q:Exit->Act->World->Prop} (N:Gz ops n=true) (O:chainB ops S=true) (hn:a0.tmps.size=n)
 (am:∀ (i:Nat) (o:Oper),ops[i]? = some o->A9 P ops V S Ph a0 Q i o)
 (hQ:∀ g a w,(∀ b,(∀ i,i<ops.size->b.getD i false=true)->wW ops V S Ph a0 g b a w)->Q .normal a w) :
 ∀ (z:Nat) (g:Γ) (b:Array Bool) (a:Act) (w:World),b.size=ops.size->(b.toList.filter (! ·)).length<=z->wW ops V S Ph a0 g b a w->wpAny P .any ops Q z b a w:=by
 have A7:∀ {g:Γ} {b:Array Bool} {a:Act} {w:World},wW ops V S Ph a0 g b a w->(∀ i,i<ops.size->b.getD i false=true)->∀ l':Array Bool,(∀ i,i<ops.size->l'.getD i false=true)->wW ops V S Ph a0 g l' a w:=by
  intro g b a w h T l' ab;refine⟨?_,h.size,h.defers,fun y J=>h.keep y fun i o f hd=>absurd (J i o f hd) (by rw [ab i (Array.getElem?_eq_some_iff.1 f).1]; simp),fun i o y f _ J=>h.done i o y f (T i (Array.getElem?_eq_some_iff.1 f).1) J,fun i o j f _ d=>?_⟩
  · obtain⟨p,⟨ae,q⟩,W⟩:=h.at_;refine⟨p,⟨ae,fun k i m=>?_⟩,W⟩;have B:=(iN O m).1;rw [<- q k i m,T i B,ab i B]
  · refine ab j ?_;have aq:=d;unfold waitsFor at d;obtain⟨e,Z,c⟩:=Array.any_eq_true'.1 d;simp only [Bool.and_eq_true,beq_iff_eq] at c;have:=(qV N f).2 e Z c.2;have B:=(Array.getElem?_eq_some_iff.1 f).1;omega
 intro z
 induction z with
 | zero=>
  intro g b a w I hf h
  have C:Region.ready .any ops b=[]:=by
   cases C:Region.ready .any ops b with
   | nil=>rfl
   | cons i av=>
    exfalso;have l:i ∈ Region.ready .any ops b:=by rw [C]; exact List.mem_cons_self
    obtain⟨A,o,f,_⟩:=mem_ready.1 l;have B:i<ops.size:=(Array.getElem?_eq_some_iff.1 f).1;have D:b[i]? = some b[i]:=Array.getElem?_eq_getElem (by omega);rw [Array.getD_eq_getD_getElem?,D] at A;have c:false ∈ b.toList.filter (! ·):=List.mem_filter.2 ⟨by rw [<- show b[i]=false from by simpa using A]; exact Array.getElem_mem_toList (by omega),rfl⟩;have:=List.length_pos_of_mem c;omega
  exact⟨C,hQ g a w (A7 h (oz N I C))⟩
 | succ z ih=>
  intro g b a w I hf h;refine⟨fun C=>hQ g a w (A7 h (oz N I C)),fun i B=>?_⟩;obtain⟨A,o,f,ag⟩:=mem_ready.1 B;have ap:i<ops.size:=(Array.getElem?_eq_some_iff.1 f).1;have L:i<b.size:=by omega
  have H:b.getD i false=false:=by
   have D:b[i]? = some b[i]:=Array.getElem?_eq_getElem L;rw [Array.getD_eq_getD_getElem?,D] at A |-;simpa using A
  have X:∀ j,waitsFor o j=true->b.getD j false=true:=by
   intro j d;unfold waitsFor at d;obtain⟨e,Z,c⟩:=Array.any_eq_true'.1 d;simp only [Bool.and_eq_true,beq_iff_eq] at c;obtain⟨c,M⟩:=c;subst c;exact ag e Z M
  have EV:Knows ops (V g) a0 i o a:=⟨fun y v hv hn=>by rw [h.keep y (Cs hn H h.closed)]; exact hv,fun j p y hp J d=>h.done j p y hp (X j d) J,h.defers⟩;obtain⟨p,⟨ae,q⟩,W⟩:=h.at_;have m:=am i o f;unfold wpOp;rw [f];dsimp only
  have next:∀ u t w',(∀ j v,j≠i->V g j v->V t j v)->V t i u->(∃ p,LQ S (b.setIfInBounds i true) p/\Ph p t w')->wpAny P .any ops Q z (b.setIfInBounds i true) (a.put o.dst u) w':=by
   intro u t w' G K hp;refine ih _ _ _ _ (by simpa using I) ?_ (h.PX N hn I f X G K hp);have D:b[i]? = some b[i]:=Array.getElem?_eq_getElem L
   have c:b.toList[i]? = some false:=by
    rw [Array.getElem?_toList,D];rw [Array.getD_eq_getD_getElem?,D] at H;simpa using H
   have M:=count_set b.toList i c;simp only [Array.toList_setIfInBounds];omega
  rcases m with ⟨k,m,hw⟩ | ⟨al,E,x,ac,aa,hw⟩
  · have ak:p=k:=by
     have Y:=q k i m;rw [H] at Y
     have A:¬ k<p:=by
      intro hlt; rw [decide_eq_true hlt] at Y; cases Y
     rcases (iN O m).2.1 with F | ⟨o',j,U,d,ao⟩
     · omega
     · rw [f] at U; injection U with U; subst U;have e2:=q (k - 1) j d;rw [X j ao] at e2;have c:k - 1<p:=of_decide_eq_true e2.symm;omega
    subst ak;refine zm (fun a' w' hh=>?_) (hw g a w W EV);obtain⟨u,t,rfl,G,K,af⟩:=hh;refine next u t w' G K ⟨p+1,⟨(List.getElem?_eq_some_iff.1 m).1,fun r j l=>?_⟩,af⟩;rw [jN L];by_cases R:i=j
    · rw [if_pos R];subst R
      have ar:r=p:=by
       rcases Nat.lt_trichotomy r p with hlt | ah | ai
       · exact absurd rfl ((iN O m).2.2 r i hlt l)
       · exact ah
       · exact absurd rfl ((iN O l).2.2 p i ai m)
      rw [decide_eq_true (by omega)]
    · rw [if_neg R,q r j l];have au:r≠p:=fun e=>by subst e; rw [m] at l; injection l with l; exact R l
      by_cases hlt:r<p
      · rw [decide_eq_true hlt,decide_eq_true (by omega)]
      · rw [decide_eq_false hlt,decide_eq_false (by omega)]
  · have T:E<=p:=by
     unfold loB at ac;simp only [Bool.or_eq_true,Bool.and_eq_true,beq_iff_eq,decide_eq_true_eq] at ac;rcases ac with F | ⟨F,c⟩
     · omega
     · rcases Nat.eq_zero_or_pos E with M | M
       · omega
       · have d:S[E - 1]? = some S[E - 1]:=gO (by omega);rw [show S.getD (E - 1) 0=S[E - 1] by rw [List.getD_eq_getElem?_getD,d]; rfl] at c;have e:=q _ _ d;rw [X _ c] at e;have:=of_decide_eq_true e.symm;omega
    have aj:p<=x:=by
     unfold hiB at aa;simp only [Bool.or_eq_true,Bool.and_eq_true,beq_iff_eq,decide_eq_true_eq] at aa;rcases aa with F | ⟨F,c⟩
     · omega
     · have d:S[x]? = some S[x]:=gO F;rw [show S.getD x 0=S[x] by rw [List.getD_eq_getElem?_getD,d]; rfl] at c
       cases ad:ops[S[x]]? with
       | none=>rw [ad] at c; cases c
       | some o'=>
        rw [ad] at c;have e:=q _ _ d;by_cases hlt:x<p
        · rw [decide_eq_true hlt] at e;have:=h.closed _ o' i ad e c;rw [H] at this; cases this
        · omega
    refine zm (fun a' w' hh=>?_) (hw p g a w T aj W EV);obtain⟨u,t,rfl,G,K,af⟩:=hh;refine next u t w' G K ⟨p,⟨ae,fun r j l=>?_⟩,af⟩;rw [jN L,if_neg (fun e=>al (by subst e; exact List.mem_of_getElem? l))];exact q r j l
theorem okQ {Q:Exit->Act->World->Prop} {i:Nat} {o:Oper} (lo hi:Nat) (h:∀ p b a w,lo<=p->p<=hi->Ph p b w->Knows ops (V b) a0 i o a->o.wp P a w (fun d y=>∃ u c,d=a.put o.dst u/\(∀ j v,j≠i->V b j v->V c j v)/\V c i u/\Ph p c y) Q)
 (f:i ∉ S:=by decide) (g:loB S o lo=true:=by decide +kernel) (l:hiB ops S i hi=true:=by decide +kernel) (m:o.guard=none:=by rfl):A9 P ops V S Ph a0 Q i o:=
 .inr ⟨f,lo,hi,g,l,fun p b a w t q x r=>by
  unfold rP Region.wanted;rw [m,if_pos rfl];exact h p b a w t q x r⟩
theorem ok1 {Q:Exit->Act->World->Prop} {i:Nat} {o:Oper} (lo hi j t:Nat) {p:Oper} {v u:Value} (f:ops[j]? = some p) (l:p.dst=some t) (D:∀ b x,V b j x->x=v) (C:∀ b,V b i u)
 (r:∀ (a:Act) (w:World) (K:Act->World->Prop),a.tmps[t]? = some v->K (a.put o.dst u) w->o.wp P a w K Q:=by intro a w K h c; simp [go_sem,Oper.wp,execOp,Act.eval,h]; exact c)
 (d:i ∉ S:=by decide) (A:loB S o lo=true:=by decide +kernel) (z:hiB ops S i hi=true:=by decide +kernel) (m:waitsFor o j=true:=by decide +kernel) (y:o.guard=none:=by rfl):A9 P ops V S Ph a0 Q i o:=
 okQ lo hi (fun p b a w _ _ B c=>r a w _ (by obtain⟨x,E,q⟩:=c.g j t f l m; rw [E,D b x q]) ⟨u,b,rfl,fun _ _ _ h=>h,C b,B⟩) d A z y
theorem ok0 {Q:Exit->Act->World->Prop} {i:Nat} {o:Oper} (lo hi t:Nat) {v u:Value} (f:a0.tmps[t]? = some v) (r:∀ b,V b i u)
 (j:∀ (a:Act) (w:World) (K:Act->World->Prop),a.tmps[t]? = some v->K (a.put o.dst u) w->o.wp P a w K Q:=by intro a w K h c; simp [go_sem,Oper.wp,execOp,Act.eval,h]; exact c)
 (d:i ∉ S:=by decide) (p:loB S o lo=true:=by decide +kernel) (m:hiB ops S i hi=true:=by decide +kernel) (g:wX ops i t=true:=by decide +kernel) (l:o.guard=none:=by rfl):A9 P ops V S Ph a0 Q i o:=
 okQ lo hi (fun x b a w _ _ q c=>j a w _ (c.k t f g) ⟨u,b,rfl,fun _ _ _ h=>h,r b,q⟩) d p m l
def Ba {Γ:Type} (P:Program) (ops:Array Oper) (V:Γ->Nat->Value->Prop) (S:List Nat) (Ph:Nat->Γ->World->Prop) (a0:Act) (Q:Exit->Act->World->Prop):Nat->List Oper->Prop
 | _,[]=>True
 | i,o :: l=>A9 P ops V S Ph a0 Q i o/\Ba P ops V S Ph a0 Q (i+1) l
theorem Ba.all {Q:Exit->Act->World->Prop}:∀ {l:List Oper} {k:Nat},Ba P ops V S Ph a0 Q k l->∀ (i:Nat) (o:Oper),l[i]? = some o->A9 P ops V S Ph a0 Q (k+i) o
 | [],_,_,i,o,h=>by simp at h
 | x :: l,k,a,0,o,h=>by
  have e:x=o:=by simpa using h
  subst e; exact a.1
 | x :: l,k,a,i+1,o,h=>by
  have:=a.2.all i o (by simpa using h);rwa [show k+(i+1)=k+1+i from by omega]
theorem wZ {F:Nat} {n:Nat} {l:List Oper} {w0:World} {Q:Exit->Act->World->Prop} (z:P.follows .mixedOrders=true) (V:Γ->Nat->Value->Prop) (S:List Nat) (Ph:Nat->Γ->World->Prop) (q:Γ) (u:Gz l.toArray n=true) (m:chainB l.toArray S=true) (A:a0.tmps.size=n)
 (f:Ph 0 q w0.drew) (B:Ba P l.toArray V S Ph a0 Q 0 l) (v:∀ j a w,A8 l.toArray V S Ph a0 j a w->Q .normal a w):(Code.region F l.toArray true).wp P Q a0 w0:=by
 refine wp_region_any z (yG u m A (fun i o b=>by
  have:=B.all i o (by simpa using b);rwa [Nat.zero_add] at this) (fun j a w r=>v j a w ?_) l.toArray.size q (Array.replicate l.toArray.size false) a0 _ (by simp) ?_ ?_)
 · have c:=r (Array.replicate l.toArray.size true) (fun i y=>by rw [Array.getD_eq_getD_getElem?,Array.getElem?_replicate,if_pos y]; rfl);obtain⟨G,⟨H,C⟩,D⟩:=c.at_
   have E:G=S.length:=by
    rcases Nat.eq_zero_or_pos S.length with f | f
    · omega
    · have p:S[S.length - 1]? = some S[S.length - 1]:=gO (by omega);have e:=C _ _ p;rw [Array.getD_eq_getD_getElem?,Array.getElem?_replicate,if_pos (iN m p).1] at e;have:=of_decide_eq_true e.symm;omega
   subst E;exact⟨D,c.size,c.defers,fun t h=>c.keep t fun i o b x=>absurd x (h i o b),fun i o t b h=>c.done i o t b (by rw [Array.getD_eq_getD_getElem?,Array.getElem?_replicate,if_pos (Array.getElem?_eq_some_iff.1 b).1]; rfl) h⟩
 · exact v6 (List.length_filter_le _ _) (by simp)
 · have g:∀ i,(Array.replicate l.toArray.size false).getD i false=false:=by
    intro i;rw [Array.getD_eq_getD_getElem?,Array.getElem?_replicate]
    split <;> rfl
   exact⟨⟨0,⟨Nat.zero_le _,fun k i _=>by rw [g]; rfl⟩,f⟩,rfl,rfl,fun _ _=>rfl,fun i o t b d _=>(by rw [g] at d; cases d),fun i o I b d _=>(by rw [g] at d; cases d)⟩
theorem rq {m:Nat} {l:List Oper} {w0:World} {Q:Exit->Act->World->Prop} (n:Nat) (V:Γ->Nat->Value->Prop) (S:List Nat) (Ph:Nat->Γ->World->Prop) (b:Γ)
 (c:Ph 0 b w0.drew) (j:Ba P l.toArray V S Ph a0 Q 0 l) (g:∀ o a w,A8 l.toArray V S Ph a0 o a w->Q .normal a w) (h:P.follows .mixedOrders=true:=by kernel_rfl) (d:Gz l.toArray n=true:=by decide +kernel) (f:chainB l.toArray S=true:=by decide +kernel) (i:a0.tmps.size=n:=by rfl):(Code.region m l.toArray true).wp P Q a0 w0:=
 wZ h V S Ph b d f i c j g
end
theorem aL {P:Program} {ops:Array Oper} {o:Oper} {a:Act} {w:World} {K:Act->World->Prop} {Q:Exit->Act->World->Prop} (h:o.guard=none) (b:o.wp P a w K Q):rP P ops o a w K Q:=by
 unfold rP Region.wanted;rw [h,if_pos rfl];exact b
end Go.Proofs.YtimglglgcgpjgaaGreatDoor
