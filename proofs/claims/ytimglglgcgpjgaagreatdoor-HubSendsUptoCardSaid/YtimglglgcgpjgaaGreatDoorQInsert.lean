/- Of the proof of a statement: Insert. -/
import Derived.Lib.Overlaps
import Derived.Laws.Externs
import Derived.Test.YtimglglgcgpjgaaGreatDoorQGone
import Derived.Test.YtimglglgcgpjgaaGreatDoorQPlApply
set_option linter.unusedVariables false
set_option linter.unusedSimpArgs false
set_option maxRecDepth 100000
set_option maxHeartbeats 8000000
namespace Go.Proofs.YtimglglgcgpjgaaGreatDoor
open Go.RowKit
theorem oZ {P:Program} {w:World} {q:Array Oper} {r:List Oper} {o:Oper} {a:Act} {Q:Exit->Act->World->Prop} {α:Type} (enc:α->List Value) (H:o.guard=none) (s x:Operand) (t e:TypeId) (z:Value) (sz h:Nat) (L:o.op = .call { callee:=.builtin .append,args:=#[s,x],argTypes:=#[t,t] })
 (S:P.underlying t=some (.slice e)) (J:(P.info? e).map (fun k=>(k.zero,k.size,k.bytes))=some (some z,sz,h)) (Y:z.cells.size=sz) (R:0<sz)
 (G:∀ a,(enc a).length=sz) (D:∀ a,∀ u ∈ enc a,u.oneCell'=true)
 (base:Nat) (A:Option Addr) (m c:Nat) (l:List α) (O:a.eval s = .slice A m c) (M:w.ownsRow base e sz (.slice A m c) m (au enc l))
 (b:α) (g c2:Nat) (N:jh w g 0 (enc b)) (U:a.eval x = .slice (some ⟨g,0,none⟩) 1 c2) (K:(m+1)*h<=140737488355328) (E:m+1<=maxLen) (F:base<=w.heap.size)
 (C:∀ f i w',w'.ownsRow base e sz (.slice f (m+1) i) (m+1) (au enc (l ++ [b]))->cY w w' (.slice A m c) (.slice f (m+1) i)->wpList P q Q r (a.put o.dst (.slice f (m+1) i)) w') :
 wpList P q Q (o :: r) a w:=by
 obtain⟨Z,I,V,W,X⟩:=info_parts J
 refine wpList_append_own_at _ H s x t L base e Z z sz h S I V W X Y R _ m _ O M ⟨g,0,none⟩ 1 c2 (enc b) U (by rw [G,Nat.one_mul]) (fun n u j=>by
  have y:(⟨g,0,none⟩:Addr).add n=⟨g,0+n,none⟩:=by unfold Addr.add; split <;> simp_all
  rw [y]; exact N n u j) (fun u j=>D _ _ j) E K F (fun v' w' p B ab d=>?_)
 have v:au enc l ++ enc b=au enc (l ++ [b]):=by rw [dw,BU]
 rw [v] at p;obtain⟨g,aa,T,_⟩:=p.form (by omega);subst T;refine C _ _ _ p ⟨B,?_⟩;rcases d with d | d
 · exact .inl d
 · exact .inr ⟨_,d,lJ⟩
def cQ {α:Type} (enc:α->List Value) (base:Nat) (T:TypeId) (sz:Nat) (A:Option Addr) (n c:Nat) (l:List α) (w:World) (e:Ending) (w':World):Prop:=
 ∃ a m b,e = .returned (.slice a m b)/\m=l.length/\w'.ownsRow base T sz (.slice a m b) m (au enc l)/\cY w w' (.slice A n c) (.slice a m b)
theorem sI:(Tryz.prog.info? 85).map (fun i=>(i.zero,i.size,i.bytes))=some (some (.agg #[.string ⟨#[]⟩,(0:Int),(0:Int),(0:Int),.string ⟨#[]⟩]),5,56):=by kernel_rfl
theorem kY (a:aC) (u:Value) (h:u ∈ aS a):u.oneCell'=true:=by
 simp only [aS,List.mem_cons,List.not_mem_nil,or_false] at h;rcases h with rfl | rfl | rfl | rfl | rfl <;> rfl
theorem qH:(Tryz.prog.info? 70).map (fun i=>(i.zero,i.size,i.bytes))=some (some (.agg #[.string ⟨#[]⟩,(0:Int),.string ⟨#[]⟩]),3,40):=by kernel_rfl
theorem jC (a:av) (u:Value) (h:u ∈ aH a):u.oneCell'=true:=by
 simp only [aH,List.mem_cons,List.not_mem_nil,or_false] at h;rcases h with rfl | rfl | rfl <;> rfl
theorem pG:(Tryz.prog.info? 66).map (fun i=>(i.zero,i.size,i.bytes))=some (some (.agg #[.string ⟨#[]⟩,.string ⟨#[]⟩,(0:Int)]),3,40):=by kernel_rfl
theorem gy (a:ak) (u:Value) (h:u ∈ aB a):u.oneCell'=true:=by
 simp only [aB,List.mem_cons,List.not_mem_nil,or_false] at h;rcases h with rfl | rfl | rfl <;> rfl
def vE (a:Type) (d:TypeId) (e:Nat) (b:a->List Value) (g:FuncId):Prop:=
 ∀ (base:Nat) (A:Option Addr) (n c f:Nat) (l:List a) (x:a) (w:World) (k:w.ownsRow base d e (.slice A n c) n (au b l)) (i:l.length=n) (j:n<=1000) (m:jh w f 0 (b x)) (h:base<=w.heap.size),ψ g #[.slice A n c,n,.slice (some ⟨f,0,none⟩) 1 1] w (cQ b base d e A n c (l ++ [x]) w)
theorem vF:vE aC 85 5 aS 181 /\ vE av 70 3 aH 183 /\ vE ak 66 3 aB 225:=by
 refine⟨@fun base A n c b l x w o m u p a=>(fun(q:Unit)=>?_) (),@fun base A n c b l x w o m u p a=>(fun(r:Unit)=>?_) (),@fun base A n c b l x w o m u p a=>?_⟩<;>(
 have i:=ω o;have j:=ω p;have s:=ω (show n+1=(l ++ [x]).length by simp [m]);clear o p m;by_cases v:c=n
 · subst v
   first|(guard_hyp q;go_enter Tryz.func181,Tryz.ntmps181)|(guard_hyp r;go_enter Tryz.func183,Tryz.ntmps183)|go_enter Tryz.func225,Tryz.ntmps225
   first|(guard_hyp q;go_wp2_with (at_builtin; refine oZ aS rfl _ _ 22 85 (.agg #[.string ⟨#[]⟩,(0:Int),(0:Int),(0:Int),.string ⟨#[]⟩]) 5 56 rfl Tryz.underlying22 sI rfl (by decide) aT kY base A c c l rfl i.z x b 1 j.z rfl (by omega) (by unfold maxLen; omega) a ?_; intro d e k h g))|(guard_hyp r;go_wp2_with (at_builtin; refine oZ aH rfl _ _ 23 70 (.agg #[.string ⟨#[]⟩,(0:Int),.string ⟨#[]⟩]) 3 40 rfl Tryz.underlying23 qH rfl (by decide) aO jC base A c c l rfl i.z x b 1 j.z rfl (by omega) (by unfold maxLen; omega) a ?_; intro d e k h g))|go_wp2_with (at_builtin; refine oZ aB rfl _ _ 24 66 (.agg #[.string ⟨#[]⟩,.string ⟨#[]⟩,(0:Int)]) 3 40 rfl Tryz.underlying24 pG rfl (by decide) aI gy base A c c l rfl i.z x b 1 j.z rfl (by omega) (by unfold maxLen; omega) a ?_; intro d e k h g)
   go_ret;exact⟨d,c+1,e,rfl,s,h,g⟩
 · first|(guard_hyp q;go_enter Tryz.func181,Tryz.ntmps181)|(guard_hyp r;go_enter Tryz.func183,Tryz.ntmps183)|go_enter Tryz.func225,Tryz.ntmps225
   first|(guard_hyp q;go_wp2_with (at_builtin; refine oZ aS rfl _ _ 22 85 (.agg #[.string ⟨#[]⟩,(0:Int),(0:Int),(0:Int),.string ⟨#[]⟩]) 5 56 rfl Tryz.underlying22 sI rfl (by decide) aT kY base A n c l rfl i.z x b 1 j.z rfl (by omega) (by unfold maxLen; omega) a ?_; intro d e k h g))|(guard_hyp r;go_wp2_with (at_builtin; refine oZ aH rfl _ _ 23 70 (.agg #[.string ⟨#[]⟩,(0:Int),.string ⟨#[]⟩]) 3 40 rfl Tryz.underlying23 qH rfl (by decide) aO jC base A n c l rfl i.z x b 1 j.z rfl (by omega) (by unfold maxLen; omega) a ?_; intro d e k h g))|go_wp2_with (at_builtin; refine oZ aB rfl _ _ 24 66 (.agg #[.string ⟨#[]⟩,.string ⟨#[]⟩,(0:Int)]) 3 40 rfl Tryz.underlying24 pG rfl (by decide) aI gy base A n c l rfl i.z x b 1 j.z rfl (by omega) (by unfold maxLen; omega) a ?_; intro d e k h g)
   go_ret;exact⟨d,n+1,e,rfl,s,h,g⟩)
theorem Lo (base g n c i k:Nat) (l:List aC) (x:aC) (w:World) (ho:w.ownsRow base 85 5 (.slice (some ⟨g,0,none⟩) n c) n (au aS l)) (Z:l.length=n) (hn:n<=1000) (hk:k<n) (aw:n+1<=c) (z:Blk w i 85 (aS x).toArray) (T:i≠g) (ar:base<=w.heap.size) :
 ψ 181 #[.slice (some ⟨g,0,none⟩) n c,k,.slice (some ⟨i,0,none⟩) 1 1] w (cQ aS base 85 5 (some ⟨g,0,none⟩) n c (l.take k ++ x :: l.drop k) w):=by
 obtain⟨o,h,av,J⟩:=eX.of ho;have ag:=h.cap_;unfold maxLen at ag;have Hl:=ω Z;have HR:=ω h;have af:=ω J;have Hv:=ω z;have am:¬ (c=k+1):=by omega
 have ap:¬ (c=k):=by omega
 have ak:¬ ((k:Int)=(n:Int)):=by omega
 have ay:IntKind.i64.wrap ((k:Int)+1)=(k:Int)+1:=by rw [IntKind.wrap_i64]; omega
 have al:(0:Int)<=(k:Int)+1:=by omega
 have ax:((k:Int)+1).toNat=k+1:=by omega
 have ao:(k:Int)<=(n:Int)+1:=by omega
 have aq:(k:Int)+1<=(n:Int)+1:=by omega
 have Q:(Tryz.prog.info? 85).map (·.size)=some 5:=by
  obtain⟨i0,hi,az,aj,ak⟩:=info_parts sI;rw [hi]; simp [aj]
 have ab:w.shape? i=some (85,5):=by unfold World.shape?; rw [show w.heap[i]? = some (.cells (aS x).toArray 85 (0,0)) from z]; rfl
 have ac:w.shape? g=some (85,o.size):=by unfold World.shape?; rw [h.blk]
 have ai:∀ U K,(callFunc 216 #[.slice (some ⟨i,0,none⟩) 1 1,.slice (some ⟨g,(k+1)*5,none⟩) U K]).run Tryz.prog w = .ok (.value (.bool false)) w:=fun U K=>by
  rw [run_callFunc_extern Tryz.func216 (by kernel_rfl) (by kernel_rfl) (by kernel_rfl) (e:=Extern.SlicesOverlaps.overlaps #[22,22] #[4]) (by kernel_rfl),
   Lib.run_overlaps_apart w 22 4 85 Tryz.underlying22 5 Tryz.sizeOf85 ⟨i,0,none⟩ ⟨g,(k+1)*5,none⟩ 1 1 U K T 85 85 5 o.size ab ac (by rw [h.size]; omega) (z.thaw 0) (z.thaw 5)]
  rfl
 obtain⟨L,u⟩:∃ L,o.toList=L:=⟨_,rfl⟩;have M:L.length=c*5:=by rw [<- u,Array.length_toList,h.size]
 obtain⟨j,C⟩:∃ j,(L.drop (k*5)).take (n*5 - k*5)=j:=⟨_,rfl⟩;have E:j.length=(n - k)*5:=by rw [<- C,List.length_take,List.length_drop,M]; omega
 have ad:∀ v ∈ j,v ∈ au aS l:=fun v p=>by
  rw [<- C,<- List.drop_take,<- u,J] at p;exact List.mem_of_mem_drop p
 have ae:∀ v ∈ au aS l,v.oneCell'=true:=fun v p=>by
  obtain⟨a,_,ha⟩:=List.mem_flatMap.1 p;exact kY a v ha
 have O:∀ ty r V,(Builtin.copy_ #[22,22] ty #[.slice (some ⟨g,(k+1)*5,none⟩) (n - k) r,.slice (some ⟨g,k*5,none⟩) (n+1 - k) V]).run Tryz.prog w.drew = .ok (.int .i64 ((n - k:Nat):Int)) (w.drew.setRow g (o.toList.take ((k+1)*5) ++ j ++ o.toList.drop ((k+1)*5+j.length)).toArray):=fun ty r V=>by
  have B:=dG (P:=Tryz.prog) w.drew 22 22 ty 85 5 g ((k+1)*5) (n - k) r ⟨g,k*5,none⟩ (n+1 - k) V o 85 j Tryz.underlying22 Q h.blk (by rw [E]; congr 1; show _=min _ _; omega)
   (fun D v y=>(h.cells (k*5)) D v (by
    rw [u];rw [<- C,List.getElem?_take] at y
    split at y
    · exact y
    · cases y)) (by rw [E,h.size]; omega) (fun v p=>ae v (ad v p))
  rw [B]
  congr 2
  congr 1
  show min _ _=_
  omega
 obtain⟨d,G⟩:∃ d,(o.toList.take ((k+1)*5) ++ j ++ o.toList.drop ((k+1)*5+j.length)).toArray=d:=⟨_,rfl⟩;rw [G] at O;have I:d.size=c*5:=by rw [<- G]; simp only [List.size_toArray,List.length_append,List.length_take,List.length_drop,u,M,E]; omega
 have H:eX (w.drew.setRow g d) base 85 5 g c d:=eX.set (w:=w.drew) ⟨h.ge,h.blk,h.cap_,h.size⟩ d I;have S:Blk (w.drew.setRow g d) i 85 (aS x).toArray:=(setRow_other w.drew g i d T).trans z;obtain⟨q,N⟩:∃ q,w.drew.setRow g d=q:=⟨_,rfl⟩;rw [N] at O H S;obtain⟨m,F⟩:∃ m,(d.toList.take (k*5) ++ aS x ++ d.toList.drop (k*5+(aS x).length)).toArray=m:=⟨_,rfl⟩
 have ah:∀ ty r,(Builtin.copy_ #[22,22] ty #[.slice (some ⟨g,k*5,none⟩) (n+1 - k) r,.slice (some ⟨i,0,none⟩) 1 1]).run Tryz.prog q = .ok (.int .i64 ((1:Nat):Int)) (q.setRow g m):=fun ty r=>by
  have B:=dG (P:=Tryz.prog) q 22 22 ty 85 5 g (k*5) (n+1 - k) r ⟨i,0,none⟩ 1 1 d 85 (aS x) Tryz.underlying22 Q H.blk (by rw [aT]; show _=min _ _*_; rw [Nat.min_eq_left (by omega)])
   (fun D v y=>by
    have ea:(⟨i,0,none⟩:Addr).add D=⟨i,D,none⟩:=by unfold Addr.add; split <;> simp_all
    rw [ea,S.cell D,List.getElem?_toArray]; exact y) (by rw [aT,I]; omega) (fun v p=>kY x v p)
  rw [B,F]
  congr 2
  congr 1
  show min _ _=_
  omega
 have aa:m.size=c*5:=by rw [<- F]; simp only [List.size_toArray,List.length_append,List.length_take,List.length_drop,Array.length_toList,I,aT]; omega
 have W:=(H.set m aa).own (n:=n+1) (by omega) (xs:=au aS (l.take k ++ x :: l.drop k)) (by
  have B:=vG (L:=L) (R:=au aS l) (X:=aS x) (a:=k*5) (b:=n*5) (s:=5) (Nat.mul_le_mul_right _ (by omega)) (by omega) (aT x) (by rw [<- u]; exact J);rw [dw,show au aS (x :: l.drop k)=aS x ++ au aS (l.drop k) from rfl,<- eA aT,<- fB aT,<- List.append_assoc,<- B,<- F,<- G];simp only [u,E,aT];rw [<- C,show (k+1)*5=k*5+5 by omega,show (n+1)*5=n*5+5 by omega,show (n - k)*5=n*5 - k*5 by omega])
 have Y:cY w (q.setRow g m) (.slice (some ⟨g,0,none⟩) n c) (.slice (some ⟨g,0,none⟩) (n+1) c):=by
  rw [<- N];exact (show cY w (w.drew.setRow g d) (.slice (some ⟨g,0,none⟩) n c) (.slice (some ⟨g,0,none⟩) n c) from mN w g n n c c d).trans (pY _ g n (n+1) c c m)
 have aW:=ω (show cQ aS base 85 5 (some ⟨g,0,none⟩) n c (l.take k ++ x :: l.drop k) w (.returned (.slice (some ⟨g,0,none⟩) (n+1) c)) (q.setRow g m) from ⟨_,n+1,c,rfl,by rw [List.length_append,List.length_cons,List.length_take,List.length_drop]; omega,W,Y⟩);clear Z h J z T ho Hl HR af Hv ab ac Q u M C E ad ae G I H S N F aa W Y;go_enter Tryz.func181,Tryz.ntmps181
 go_wp2_with (simp only [ai])
 go_region_law (refine jc rfl _ _ 22 22 rfl _ _ (by simp [Act.eval,Act.put]) (by simp [Act.eval,Act.put]) (O _ _ _) ?_)
 go_wp2_with (refine gD _ rfl _ _ 22 22 rfl _ _ rfl rfl (ah _ _) ?_)
 go_ret;exact aW
theorem Lp (base g n u k:Nat) (l:List aC) (x:aC) (w:World) (ho:w.ownsRow base 85 5 (.slice (some ⟨g,0,none⟩) n n) n (au aS l)) (hl:l.length=n) (hn:n<=1000) (hk:k<n) (hv:Blk w u 85 (aS x).toArray) (av:base<=w.heap.size) :
 ψ 181 #[.slice (some ⟨g,0,none⟩) n n,k,.slice (some ⟨u,0,none⟩) 1 1] w (cQ aS base 85 5 (some ⟨g,0,none⟩) n n (l.take k ++ x :: l.drop k) w):=by
 obtain⟨S,j,a4,am⟩:=eX.of ho;have a7:¬ ((k:Int)=(n:Int)):=by omega
 have a1:¬ (n=k):=by omega
 have a6:IntKind.i64.wrap ((k:Int)+1)=(k:Int)+1:=by rw [IntKind.wrap_i64]; omega
 have a0:(0:Int)<=(k:Int)+1:=by omega
 have a5:((k:Int)+1).toNat=k+1:=by omega
 have a2:(k:Int)+1<=(n:Int)+1:=by omega
 have y:(k:Int)<=(n:Int):=by omega
 obtain⟨i0,ad,ap,af,ag⟩:=info_parts sI;have ae:(Tryz.prog.info? 85).map (·.size)=some 5:=by rw [ad]; simp [af]
 obtain⟨L,E⟩:∃ L,S.toList=L:=⟨_,rfl⟩;have V:L.length=n*5:=by rw [<- E,Array.length_toList,j.size]
 have W:L=au aS l:=by rw [<- am,E,List.take_of_length_le (by omega)]
 have aq:∀ v ∈ au aS l,v.oneCell'=true:=fun v z=>by
  obtain⟨a,_,ha⟩:=List.mem_flatMap.1 z;exact kY a v ha
 have ak:(Builtin.firstCells i0.size k (.slice (some ⟨g,0,none⟩) k n)).run Tryz.prog w.drew = .ok (L.take (k*5)).toArray w.drew:=by
  refine run_firstCells_some (P:=Tryz.prog) w.drew i0.size k ⟨g,0,none⟩ k n _ (by rw [List.length_take,af]; omega) (fun r v m=>?_)
  have i:=j.cells 0 r v (by
   rw [List.drop_zero,E];rw [List.getElem?_take] at m
   split at m
   · exact m
   · cases m)
  exact i
 obtain⟨C,K⟩:∃ C,grownCap w (n+1) n 85 = C:=⟨_,rfl⟩;have ar:n+1<=C:=by rw [<- K]; exact grownCap_ge w _ _ _
 have U:C<=maxLen:=by rw [<- K]; exact grownCap_le_maxLen w _ _ _ (by unfold maxLen; omega)
 have Lq:=U;unfold maxLen at Lq;obtain⟨c,Q⟩:∃ c,(L.take (k*5)).toArray ++ Builtin.zeroCells (Value.cells (.agg #[.string ⟨#[]⟩,(0:Int),(0:Int),(0:Int),.string ⟨#[]⟩])) (n+1 - k) ++ Builtin.zeroCells (Value.cells (.agg #[.string ⟨#[]⟩,(0:Int),(0:Int),(0:Int),.string ⟨#[]⟩])) (C - (n+1))=c:=⟨_,rfl⟩
 have aa:∀ ty,(Builtin.append_ #[22,3] ty #[.slice (some ⟨g,0,none⟩) k n,.int .i64 ((n:Int)+1 - (k:Int))]).run Tryz.prog w = .ok (.slice (some ⟨w,0,none⟩) (n+1) C) (w.drew.alloc (.cells c 85)):=fun ty=>by
  have i:=Lib.run_append_grow_zeros w 22 3 ty 85 i0 _ .i64 .i64 Tryz.underlying22 Tryz.underlying3 ad ap (some ⟨g,0,none⟩) k n (L.take (k*5)) ak (n+1 - k) (by omega) (by omega) (by omega) (by omega) (by rw [ag]; omega) (by rw [ag,show k+(n+1 - k)=n+1 by omega]; exact growslice_fits (by omega) (by omega));rw [show k+(n+1 - k)=n+1 by omega,K,Q,show ((n+1 - k:Nat):Int)=(n:Int)+1 - k by omega] at i;exact i
 have N:c.size=C*5:=by rw [<- Q]; simp only [Array.size_append,List.size_toArray,size_zeroCells,List.length_take,V]; show min _ _+_*5+_*5=_; omega
 have T:c.toList.take (k*5)=L.take (k*5):=by
  rw [<- Q,Array.toList_append,Array.toList_append,List.append_assoc,List.take_append_of_le_length (by rw [List.length_take]; omega),List.take_of_length_le (by rw [List.length_take]; omega)]
 obtain⟨b,M⟩:∃ b,w.drew.alloc (.cells c 85)=b:=⟨_,rfl⟩;have R:Below w w b:=by rw [<- M]; exact (Below.refl w w).drew.alloc lJ _
 have Y:eX b base 85 5 w.heap.size C c:=by rw [<- M]; exact⟨av,n5 w.drew _,U,N⟩
 have F:eX b base 85 5 g n S:=⟨j.ge,(R.block g (Array.getElem?_eq_some_iff.1 j.blk).1).trans j.blk,j.cap_,j.size⟩;have ao:Blk b u 85 (aS x).toArray:=hv.below R hv.lt;have a3:g<w.heap.size:=(Array.getElem?_eq_some_iff.1 j.blk).1;rw [M] at aa;obtain⟨e,J⟩:∃ e,(c.toList.take (k*5) ++ aS x ++ c.toList.drop (k*5+(aS x).length)).toArray=e:=⟨_,rfl⟩
 have ab:∀ ty p,(Builtin.copy_ #[22,22] ty #[.slice (some ⟨w,k*5,none⟩) (n+1 - k) p,.slice (some ⟨u,0,none⟩) 1 1]).run Tryz.prog b = .ok (.int .i64 ((1:Nat):Int)) (b.setRow w e):=fun ty p=>by
  have i:=dG (P:=Tryz.prog) b 22 22 ty 85 5 w.heap.size (k*5) (n+1 - k) p ⟨u,0,none⟩ 1 1 c 85 (aS x) Tryz.underlying22 ae Y.blk (by rw [aT]; show _=min _ _*_; rw [Nat.min_eq_left (by omega)])
   (fun r v m=>by
    have ea:(⟨u,0,none⟩:Addr).add r=⟨u,r,none⟩:=by unfold Addr.add; split <;> simp_all
    rw [ea,ao.cell r,List.getElem?_toArray]; exact m) (by rw [aT,N]; omega) (fun v z=>kY x v z)
  rw [i,J]
  congr 2
  congr 1
  show min _ _=_
  omega
 have O:e.size=C*5:=by rw [<- J]; simp only [List.size_toArray,List.length_append,List.length_take,List.length_drop,Array.length_toList,N,aT]; omega
 have q:=Y.set e O;have ac:eX (b.setRow w e) base 85 5 g n S:=⟨F.ge,(setRow_other b w g e (by omega)).trans F.blk,F.cap_,F.size⟩;obtain⟨d,Z⟩:∃ d,b.setRow w e=d:=⟨_,rfl⟩;have EC:Below w w d:=by rw [<- Z]; exact R.trans ⟨rfl,rfl,rfl,by simp [World.setRow],fun H hq=>setRow_other b w H e (by omega)⟩
 rw [Z] at ab q ac;obtain⟨o,B⟩:∃ o,L.drop (k*5)=o:=⟨_,rfl⟩;have G:o.length=(n - k)*5:=by rw [<- B,List.length_drop,V]; omega
 obtain⟨h,I⟩:∃ h,(e.toList.take ((k+1)*5) ++ o ++ e.toList.drop ((k+1)*5+o.length)).toArray=h:=⟨_,rfl⟩
 have aw:∀ ty p sc,(Builtin.copy_ #[22,22] ty #[.slice (some ⟨w,(k+1)*5,none⟩) (n - k) p,.slice (some ⟨g,k*5,none⟩) (n - k) sc]).run Tryz.prog d.drew = .ok (.int .i64 ((n - k:Nat):Int)) (d.drew.setRow w h):=fun ty p sc=>by
  have i:=dG (P:=Tryz.prog) d.drew 22 22 ty 85 5 w.heap.size ((k+1)*5) (n - k) p ⟨g,k*5,none⟩ (n - k) sc e 85 o Tryz.underlying22 ae q.blk (by rw [G]; congr 1; show _=min _ _; omega)
   (fun r v m=>ac.cells (k*5) r v (by rw [E,B]; exact m)) (by rw [G,O]; omega) (fun v z=>aq v (by rw [<- W]; rw [<- B] at z; exact List.mem_of_mem_drop z))
  rw [i,I]
  congr 2
  congr 1
  show min _ _=_
  omega
 have al:h.size=C*5:=by rw [<- I]; simp only [List.size_toArray,List.length_append,List.length_take,List.length_drop,Array.length_toList,O,G]; omega
 have ah:eX (d.drew.setRow w h) base 85 5 w.heap.size C h:=eX.set (w:=d.drew) ⟨q.ge,q.blk,q.cap_,q.size⟩ h al
 have ai:=ah.own (n:=n+1) ar (xs:=au aS (l.take k ++ x :: l.drop k)) (by
  have i:=yu (L:=c.toList) (X:=aS x) (D:=o) (a:=k*5) (s:=5) (by have ax:c.toList.length=c.size:=Array.length_toList; omega) (aT x);rw [T] at i;rw [dw,show au aS (x :: l.drop k)=aS x ++ au aS (l.drop k) from rfl,<- eA aT,<- fB aT,<- List.append_assoc,<- W,B,<- i,<- I,<- J];simp only [G,aT,T];rw [show (k+1)*5=k*5+5 by omega,show (n+1)*5=k*5+5+(n - k)*5 by omega])
 have aj:cY w (d.drew.setRow w h) (.slice (some ⟨g,0,none⟩) n n) (.slice (some ⟨w,0,none⟩) (n+1) C):=by
  have y:Below w w (d.drew.setRow w h):=EC.trans ⟨rfl,rfl,rfl,by simp [World.setRow],fun H hq=>setRow_other d.drew w H h (by omega)⟩;exact⟨⟨y.os,y.tape,y.output,y.size,fun H hq _=>y.block H hq⟩,.inr ⟨w.heap.size,rfl,lJ⟩⟩
 have aW:=ω (show cQ aS base 85 5 (some ⟨g,0,none⟩) n n (l.take k ++ x :: l.drop k) w (.returned (.slice (some ⟨w,0,none⟩) (n+1) C)) (d.drew.setRow w h) from ⟨_,n+1,C,rfl,by rw [List.length_append,List.length_cons,List.length_take,List.length_drop]; omega,ai,aj⟩);have Lr:=ω aa;have Ls:=ω ab;have ay:¬ C=k:=by omega
 have az:¬ C=k+1:=by omega
 clear hl j am hv ho ae E V W aq ak K U Q aa N T M R Y F ao J ab O q ac Z EC B G I al ah ai aj ad ap af ag;go_enter Tryz.func181,Tryz.ntmps181
 go_wp2_with (first | (at_builtin; refine Lib.wpList_append_run _ rfl _ _ 22 3 rfl _ _ rfl rfl _ _ (Lr.z _) ?_) | (refine gD _ rfl _ _ 22 22 rfl _ _ rfl rfl (Ls.z _ _) ?_))
 go_region_law (refine jc rfl _ _ 22 22 rfl _ _ (by simp [Act.eval,Act.put]) (by simp [Act.eval,Act.put]) (aw _ _ _) ?_)
 go_wp2;go_ret;exact aW
theorem Jm (base g n c i k:Nat) (l:List av) (x:av) (w:World) (ho:w.ownsRow base 70 3 (.slice (some ⟨g,0,none⟩) n c) n (au aH l)) (Z:l.length=n) (hn:n<=1000) (hk:k<n) (ax:n+1<=c) (z:Blk w i 70 (aH x).toArray) (T:i≠g) (ar:base<=w.heap.size) :
 ψ 183 #[.slice (some ⟨g,0,none⟩) n c,k,.slice (some ⟨i,0,none⟩) 1 1] w (cQ aH base 70 3 (some ⟨g,0,none⟩) n c (l.take k ++ x :: l.drop k) w):=by
 obtain⟨o,h,aw,J⟩:=eX.of ho;have ag:=h.cap_;unfold maxLen at ag;have Hl:=ω Z;have HR:=ω h;have af:=ω J;have Hv:=ω z;have am:¬ (c=k+1):=by omega
 have ap:¬ (c=k):=by omega
 have ak:¬ ((k:Int)=(n:Int)):=by omega
 have az:IntKind.i64.wrap ((k:Int)+1)=(k:Int)+1:=by rw [IntKind.wrap_i64]; omega
 have al:(0:Int)<=(k:Int)+1:=by omega
 have ay:((k:Int)+1).toNat=k+1:=by omega
 have ao:(k:Int)<=(n:Int)+1:=by omega
 have aq:(k:Int)+1<=(n:Int)+1:=by omega
 have Q:(Tryz.prog.info? 70).map (·.size)=some 3:=by
  obtain⟨i0,hi,a0,aj,ak⟩:=info_parts qH;rw [hi]; simp [aj]
 have ab:w.shape? i=some (70,3):=by unfold World.shape?; rw [show w.heap[i]? = some (.cells (aH x).toArray 70 (0,0)) from z]; rfl
 have ac:w.shape? g=some (70,o.size):=by unfold World.shape?; rw [h.blk]
 have ai:∀ U K,(callFunc 220 #[.slice (some ⟨i,0,none⟩) 1 1,.slice (some ⟨g,(k+1)*3,none⟩) U K]).run Tryz.prog w = .ok (.value (.bool false)) w:=fun U K=>by
  rw [run_callFunc_extern Tryz.func220 (by kernel_rfl) (by kernel_rfl) (by kernel_rfl) (e:=Extern.SlicesOverlaps.overlaps #[23,23] #[4]) (by kernel_rfl),
   Lib.run_overlaps_apart w 23 4 70 Tryz.underlying23 3 Tryz.sizeOf70 ⟨i,0,none⟩ ⟨g,(k+1)*3,none⟩ 1 1 U K T 70 70 3 o.size ab ac (by rw [h.size]; omega) (z.thaw 0) (z.thaw 3)]
  rfl
 obtain⟨L,u⟩:∃ L,o.toList=L:=⟨_,rfl⟩;have M:L.length=c*3:=by rw [<- u,Array.length_toList,h.size]
 obtain⟨j,C⟩:∃ j,(L.drop (k*3)).take (n*3 - k*3)=j:=⟨_,rfl⟩;have E:j.length=(n - k)*3:=by rw [<- C,List.length_take,List.length_drop,M]; omega
 have ad:∀ v ∈ j,v ∈ au aH l:=fun v p=>by
  rw [<- C,<- List.drop_take,<- u,J] at p;exact List.mem_of_mem_drop p
 have ae:∀ v ∈ au aH l,v.oneCell'=true:=fun v p=>by
  obtain⟨a,_,ha⟩:=List.mem_flatMap.1 p;exact jC a v ha
 have O:∀ ty r V,(Builtin.copy_ #[23,23] ty #[.slice (some ⟨g,(k+1)*3,none⟩) (n - k) r,.slice (some ⟨g,k*3,none⟩) (n+1 - k) V]).run Tryz.prog w.drew = .ok (.int .i64 ((n - k:Nat):Int)) (w.drew.setRow g (o.toList.take ((k+1)*3) ++ j ++ o.toList.drop ((k+1)*3+j.length)).toArray):=fun ty r V=>by
  have B:=dG (P:=Tryz.prog) w.drew 23 23 ty 70 3 g ((k+1)*3) (n - k) r ⟨g,k*3,none⟩ (n+1 - k) V o 70 j Tryz.underlying23 Q h.blk (by rw [E]; congr 1; show _=min _ _; omega)
   (fun D v y=>(h.cells (k*3)) D v (by
    rw [u];rw [<- C,List.getElem?_take] at y
    split at y
    · exact y
    · cases y)) (by rw [E,h.size]; omega) (fun v p=>ae v (ad v p))
  rw [B]
  congr 2
  congr 1
  show min _ _=_
  omega
 obtain⟨d,G⟩:∃ d,(o.toList.take ((k+1)*3) ++ j ++ o.toList.drop ((k+1)*3+j.length)).toArray=d:=⟨_,rfl⟩;rw [G] at O;have I:d.size=c*3:=by rw [<- G]; simp only [List.size_toArray,List.length_append,List.length_take,List.length_drop,u,M,E]; omega
 have H:eX (w.drew.setRow g d) base 70 3 g c d:=eX.set (w:=w.drew) ⟨h.ge,h.blk,h.cap_,h.size⟩ d I;have S:Blk (w.drew.setRow g d) i 70 (aH x).toArray:=(setRow_other w.drew g i d T).trans z;obtain⟨q,N⟩:∃ q,w.drew.setRow g d=q:=⟨_,rfl⟩;rw [N] at O H S;obtain⟨m,F⟩:∃ m,(d.toList.take (k*3) ++ aH x ++ d.toList.drop (k*3+(aH x).length)).toArray=m:=⟨_,rfl⟩
 have ah:∀ ty r,(Builtin.copy_ #[23,23] ty #[.slice (some ⟨g,k*3,none⟩) (n+1 - k) r,.slice (some ⟨i,0,none⟩) 1 1]).run Tryz.prog q = .ok (.int .i64 ((1:Nat):Int)) (q.setRow g m):=fun ty r=>by
  have B:=dG (P:=Tryz.prog) q 23 23 ty 70 3 g (k*3) (n+1 - k) r ⟨i,0,none⟩ 1 1 d 70 (aH x) Tryz.underlying23 Q H.blk (by rw [aO]; show _=min _ _*_; rw [Nat.min_eq_left (by omega)])
   (fun D v y=>by
    have ea:(⟨i,0,none⟩:Addr).add D=⟨i,D,none⟩:=by unfold Addr.add; split <;> simp_all
    rw [ea,S.cell D,List.getElem?_toArray]; exact y) (by rw [aO,I]; omega) (fun v p=>jC x v p)
  rw [B,F]
  congr 2
  congr 1
  show min _ _=_
  omega
 have aa:m.size=c*3:=by rw [<- F]; simp only [List.size_toArray,List.length_append,List.length_take,List.length_drop,Array.length_toList,I,aO]; omega
 have W:=(H.set m aa).own (n:=n+1) (by omega) (xs:=au aH (l.take k ++ x :: l.drop k)) (by
  have B:=vG (L:=L) (R:=au aH l) (X:=aH x) (a:=k*3) (b:=n*3) (s:=3) (Nat.mul_le_mul_right _ (by omega)) (by omega) (aO x) (by rw [<- u]; exact J);rw [dw,show au aH (x :: l.drop k)=aH x ++ au aH (l.drop k) from rfl,<- eA aO,<- fB aO,<- List.append_assoc,<- B,<- F,<- G];simp only [u,E,aO];rw [<- C,show (k+1)*3=k*3+3 by omega,show (n+1)*3=n*3+3 by omega,show (n - k)*3=n*3 - k*3 by omega])
 have Y:cY w (q.setRow g m) (.slice (some ⟨g,0,none⟩) n c) (.slice (some ⟨g,0,none⟩) (n+1) c):=by
  rw [<- N];exact (show cY w (w.drew.setRow g d) (.slice (some ⟨g,0,none⟩) n c) (.slice (some ⟨g,0,none⟩) n c) from mN w g n n c c d).trans (pY _ g n (n+1) c c m)
 have aW:=ω (show cQ aH base 70 3 (some ⟨g,0,none⟩) n c (l.take k ++ x :: l.drop k) w (.returned (.slice (some ⟨g,0,none⟩) (n+1) c)) (q.setRow g m) from ⟨_,n+1,c,rfl,by rw [List.length_append,List.length_cons,List.length_take,List.length_drop]; omega,W,Y⟩);clear Z h J z T ho Hl HR af Hv ab ac Q u M C E ad ae G I H S N F aa W Y;go_enter Tryz.func183,Tryz.ntmps183
 go_wp2_with (simp only [ai])
 go_region_law (refine jc rfl _ _ 23 23 rfl _ _ (by simp [Act.eval,Act.put]) (by simp [Act.eval,Act.put]) (O _ _ _) ?_)
 go_wp2_with (refine gD _ rfl _ _ 23 23 rfl _ _ rfl rfl (ah _ _) ?_)
 go_ret;exact aW
theorem Jn (base g n u k:Nat) (l:List av) (x:av) (w:World) (ho:w.ownsRow base 70 3 (.slice (some ⟨g,0,none⟩) n n) n (au aH l)) (hl:l.length=n) (hn:n<=1000) (hk:k<n) (hv:Blk w u 70 (aH x).toArray) (aw:base<=w.heap.size) :
 ψ 183 #[.slice (some ⟨g,0,none⟩) n n,k,.slice (some ⟨u,0,none⟩) 1 1] w (cQ aH base 70 3 (some ⟨g,0,none⟩) n n (l.take k ++ x :: l.drop k) w):=by
 obtain⟨S,j,a5,am⟩:=eX.of ho;have a8:¬ ((k:Int)=(n:Int)):=by omega
 have a2:¬ (n=k):=by omega
 have a7:IntKind.i64.wrap ((k:Int)+1)=(k:Int)+1:=by rw [IntKind.wrap_i64]; omega
 have a1:(0:Int)<=(k:Int)+1:=by omega
 have a6:((k:Int)+1).toNat=k+1:=by omega
 have a3:(k:Int)+1<=(n:Int)+1:=by omega
 have y:(k:Int)<=(n:Int):=by omega
 obtain⟨i0,ad,ap,af,ag⟩:=info_parts qH;have ae:(Tryz.prog.info? 70).map (·.size)=some 3:=by rw [ad]; simp [af]
 obtain⟨L,E⟩:∃ L,S.toList=L:=⟨_,rfl⟩;have V:L.length=n*3:=by rw [<- E,Array.length_toList,j.size]
 have W:L=au aH l:=by rw [<- am,E,List.take_of_length_le (by omega)]
 have aq:∀ v ∈ au aH l,v.oneCell'=true:=fun v z=>by
  obtain⟨a,_,ha⟩:=List.mem_flatMap.1 z;exact jC a v ha
 have ak:(Builtin.firstCells i0.size k (.slice (some ⟨g,0,none⟩) k n)).run Tryz.prog w.drew = .ok (L.take (k*3)).toArray w.drew:=by
  refine run_firstCells_some (P:=Tryz.prog) w.drew i0.size k ⟨g,0,none⟩ k n _ (by rw [List.length_take,af]; omega) (fun r v m=>?_)
  have i:=j.cells 0 r v (by
   rw [List.drop_zero,E];rw [List.getElem?_take] at m
   split at m
   · exact m
   · cases m)
  exact i
 obtain⟨C,K⟩:∃ C,grownCap w (n+1) n 70 = C:=⟨_,rfl⟩;have ar:n+1<=C:=by rw [<- K]; exact grownCap_ge w _ _ _
 have U:C<=maxLen:=by rw [<- K]; exact grownCap_le_maxLen w _ _ _ (by unfold maxLen; omega)
 have Lq:=U;unfold maxLen at Lq;obtain⟨c,Q⟩:∃ c,(L.take (k*3)).toArray ++ Builtin.zeroCells (Value.cells (.agg #[.string ⟨#[]⟩,(0:Int),.string ⟨#[]⟩])) (n+1 - k) ++ Builtin.zeroCells (Value.cells (.agg #[.string ⟨#[]⟩,(0:Int),.string ⟨#[]⟩])) (C - (n+1))=c:=⟨_,rfl⟩
 have aa:∀ ty,(Builtin.append_ #[23,3] ty #[.slice (some ⟨g,0,none⟩) k n,.int .i64 ((n:Int)+1 - (k:Int))]).run Tryz.prog w = .ok (.slice (some ⟨w,0,none⟩) (n+1) C) (w.drew.alloc (.cells c 70)):=fun ty=>by
  have i:=Lib.run_append_grow_zeros w 23 3 ty 70 i0 _ .i64 .i64 Tryz.underlying23 Tryz.underlying3 ad ap (some ⟨g,0,none⟩) k n (L.take (k*3)) ak (n+1 - k) (by omega) (by omega) (by omega) (by omega) (by rw [ag]; omega) (by rw [ag,show k+(n+1 - k)=n+1 by omega]; exact growslice_fits (by omega) (by omega));rw [show k+(n+1 - k)=n+1 by omega,K,Q,show ((n+1 - k:Nat):Int)=(n:Int)+1 - k by omega] at i;exact i
 have N:c.size=C*3:=by rw [<- Q]; simp only [Array.size_append,List.size_toArray,size_zeroCells,List.length_take,V]; show min _ _+_*3+_*3=_; omega
 have T:c.toList.take (k*3)=L.take (k*3):=by
  rw [<- Q,Array.toList_append,Array.toList_append,List.append_assoc,List.take_append_of_le_length (by rw [List.length_take]; omega),List.take_of_length_le (by rw [List.length_take]; omega)]
 obtain⟨b,M⟩:∃ b,w.drew.alloc (.cells c 70)=b:=⟨_,rfl⟩;have R:Below w w b:=by rw [<- M]; exact (Below.refl w w).drew.alloc lJ _
 have Y:eX b base 70 3 w.heap.size C c:=by rw [<- M]; exact⟨aw,n5 w.drew _,U,N⟩
 have F:eX b base 70 3 g n S:=⟨j.ge,(R.block g (Array.getElem?_eq_some_iff.1 j.blk).1).trans j.blk,j.cap_,j.size⟩;have ao:Blk b u 70 (aH x).toArray:=hv.below R hv.lt;have a4:g<w.heap.size:=(Array.getElem?_eq_some_iff.1 j.blk).1;rw [M] at aa;obtain⟨e,J⟩:∃ e,(c.toList.take (k*3) ++ aH x ++ c.toList.drop (k*3+(aH x).length)).toArray=e:=⟨_,rfl⟩
 have ab:∀ ty p,(Builtin.copy_ #[23,23] ty #[.slice (some ⟨w,k*3,none⟩) (n+1 - k) p,.slice (some ⟨u,0,none⟩) 1 1]).run Tryz.prog b = .ok (.int .i64 ((1:Nat):Int)) (b.setRow w e):=fun ty p=>by
  have i:=dG (P:=Tryz.prog) b 23 23 ty 70 3 w.heap.size (k*3) (n+1 - k) p ⟨u,0,none⟩ 1 1 c 70 (aH x) Tryz.underlying23 ae Y.blk (by rw [aO]; show _=min _ _*_; rw [Nat.min_eq_left (by omega)])
   (fun r v m=>by
    have ea:(⟨u,0,none⟩:Addr).add r=⟨u,r,none⟩:=by unfold Addr.add; split <;> simp_all
    rw [ea,ao.cell r,List.getElem?_toArray]; exact m) (by rw [aO,N]; omega) (fun v z=>jC x v z)
  rw [i,J]
  congr 2
  congr 1
  show min _ _=_
  omega
 have O:e.size=C*3:=by rw [<- J]; simp only [List.size_toArray,List.length_append,List.length_take,List.length_drop,Array.length_toList,N,aO]; omega
 have q:=Y.set e O;have ac:eX (b.setRow w e) base 70 3 g n S:=⟨F.ge,(setRow_other b w g e (by omega)).trans F.blk,F.cap_,F.size⟩;obtain⟨d,Z⟩:∃ d,b.setRow w e=d:=⟨_,rfl⟩;have EC:Below w w d:=by rw [<- Z]; exact R.trans ⟨rfl,rfl,rfl,by simp [World.setRow],fun H hq=>setRow_other b w H e (by omega)⟩
 rw [Z] at ab q ac;obtain⟨o,B⟩:∃ o,L.drop (k*3)=o:=⟨_,rfl⟩;have G:o.length=(n - k)*3:=by rw [<- B,List.length_drop,V]; omega
 obtain⟨h,I⟩:∃ h,(e.toList.take ((k+1)*3) ++ o ++ e.toList.drop ((k+1)*3+o.length)).toArray=h:=⟨_,rfl⟩
 have ax:∀ ty p sc,(Builtin.copy_ #[23,23] ty #[.slice (some ⟨w,(k+1)*3,none⟩) (n - k) p,.slice (some ⟨g,k*3,none⟩) (n - k) sc]).run Tryz.prog d.drew = .ok (.int .i64 ((n - k:Nat):Int)) (d.drew.setRow w h):=fun ty p sc=>by
  have i:=dG (P:=Tryz.prog) d.drew 23 23 ty 70 3 w.heap.size ((k+1)*3) (n - k) p ⟨g,k*3,none⟩ (n - k) sc e 70 o Tryz.underlying23 ae q.blk (by rw [G]; congr 1; show _=min _ _; omega)
   (fun r v m=>ac.cells (k*3) r v (by rw [E,B]; exact m)) (by rw [G,O]; omega) (fun v z=>aq v (by rw [<- W]; rw [<- B] at z; exact List.mem_of_mem_drop z))
  rw [i,I]
  congr 2
  congr 1
  show min _ _=_
  omega
 have al:h.size=C*3:=by rw [<- I]; simp only [List.size_toArray,List.length_append,List.length_take,List.length_drop,Array.length_toList,O,G]; omega
 have ah:eX (d.drew.setRow w h) base 70 3 w.heap.size C h:=eX.set (w:=d.drew) ⟨q.ge,q.blk,q.cap_,q.size⟩ h al
 have ai:=ah.own (n:=n+1) ar (xs:=au aH (l.take k ++ x :: l.drop k)) (by
  have i:=yu (L:=c.toList) (X:=aH x) (D:=o) (a:=k*3) (s:=3) (by have ay:c.toList.length=c.size:=Array.length_toList; omega) (aO x);rw [T] at i;rw [dw,show au aH (x :: l.drop k)=aH x ++ au aH (l.drop k) from rfl,<- eA aO,<- fB aO,<- List.append_assoc,<- W,B,<- i,<- I,<- J];simp only [G,aO,T];rw [show (k+1)*3=k*3+3 by omega,show (n+1)*3=k*3+3+(n - k)*3 by omega])
 have aj:cY w (d.drew.setRow w h) (.slice (some ⟨g,0,none⟩) n n) (.slice (some ⟨w,0,none⟩) (n+1) C):=by
  have y:Below w w (d.drew.setRow w h):=EC.trans ⟨rfl,rfl,rfl,by simp [World.setRow],fun H hq=>setRow_other d.drew w H h (by omega)⟩;exact⟨⟨y.os,y.tape,y.output,y.size,fun H hq _=>y.block H hq⟩,.inr ⟨w.heap.size,rfl,lJ⟩⟩
 have aW:=ω (show cQ aH base 70 3 (some ⟨g,0,none⟩) n n (l.take k ++ x :: l.drop k) w (.returned (.slice (some ⟨w,0,none⟩) (n+1) C)) (d.drew.setRow w h) from ⟨_,n+1,C,rfl,by rw [List.length_append,List.length_cons,List.length_take,List.length_drop]; omega,ai,aj⟩);have Lr:=ω aa;have Ls:=ω ab;have az:¬ C=k:=by omega
 have a0:¬ C=k+1:=by omega
 clear hl j am hv ho ae E V W aq ak K U Q aa N T M R Y F ao J ab O q ac Z EC B G I al ah ai aj ad ap af ag;go_enter Tryz.func183,Tryz.ntmps183
 go_wp2_with (first | (at_builtin; refine Lib.wpList_append_run _ rfl _ _ 23 3 rfl _ _ rfl rfl _ _ (Lr.z _) ?_) | (refine gD _ rfl _ _ 23 23 rfl _ _ rfl rfl (Ls.z _ _) ?_))
 go_region_law (refine jc rfl _ _ 23 23 rfl _ _ (by simp [Act.eval,Act.put]) (by simp [Act.eval,Act.put]) (ax _ _ _) ?_)
 go_wp2;go_ret;exact aW
theorem Gi (base g n c i k:Nat) (l:List ak) (x:ak) (w:World) (ho:w.ownsRow base 66 3 (.slice (some ⟨g,0,none⟩) n c) n (au aB l)) (Z:l.length=n) (hn:n<=1000) (hk:k<n) (ax:n+1<=c) (z:Blk w i 66 (aB x).toArray) (T:i≠g) (av:base<=w.heap.size) :
 ψ 225 #[.slice (some ⟨g,0,none⟩) n c,k,.slice (some ⟨i,0,none⟩) 1 1] w (cQ aB base 66 3 (some ⟨g,0,none⟩) n c (l.take k ++ x :: l.drop k) w):=by
 obtain⟨o,h,aw,J⟩:=eX.of ho;have ag:=h.cap_;unfold maxLen at ag;have Hl:=ω Z;have HR:=ω h;have af:=ω J;have Hv:=ω z;have ao:¬ (c=k+1):=by omega
 have aq:¬ (c=k):=by omega
 have al:¬ ((k:Int)=(n:Int)):=by omega
 have az:IntKind.i64.wrap ((k:Int)+1)=(k:Int)+1:=by rw [IntKind.wrap_i64]; omega
 have am:(0:Int)<=(k:Int)+1:=by omega
 have ay:((k:Int)+1).toNat=k+1:=by omega
 have ap:(k:Int)<=(n:Int)+1:=by omega
 have ar:(k:Int)+1<=(n:Int)+1:=by omega
 have Q:(Tryz.prog.info? 66).map (·.size)=some 3:=by
  obtain⟨i0,hi,a0,aj,al⟩:=info_parts pG;rw [hi]; simp [aj]
 have ab:w.shape? i=some (66,3):=by unfold World.shape?; rw [show w.heap[i]? = some (.cells (aB x).toArray 66 (0,0)) from z]; rfl
 have ac:w.shape? g=some (66,o.size):=by unfold World.shape?; rw [h.blk]
 have ai:∀ U K,(callFunc 239 #[.slice (some ⟨i,0,none⟩) 1 1,.slice (some ⟨g,(k+1)*3,none⟩) U K]).run Tryz.prog w = .ok (.value (.bool false)) w:=fun U K=>by
  rw [run_callFunc_extern Tryz.func239 (by kernel_rfl) (by kernel_rfl) (by kernel_rfl) (e:=Extern.SlicesOverlaps.overlaps #[24,24] #[4]) (by kernel_rfl),
   Lib.run_overlaps_apart w 24 4 66 Tryz.underlying24 3 Tryz.sizeOf66 ⟨i,0,none⟩ ⟨g,(k+1)*3,none⟩ 1 1 U K T 66 66 3 o.size ab ac (by rw [h.size]; omega) (z.thaw 0) (z.thaw 3)]
  rfl
 obtain⟨L,u⟩:∃ L,o.toList=L:=⟨_,rfl⟩;have M:L.length=c*3:=by rw [<- u,Array.length_toList,h.size]
 obtain⟨j,C⟩:∃ j,(L.drop (k*3)).take (n*3 - k*3)=j:=⟨_,rfl⟩;have E:j.length=(n - k)*3:=by rw [<- C,List.length_take,List.length_drop,M]; omega
 have ad:∀ v ∈ j,v ∈ au aB l:=fun v p=>by
  rw [<- C,<- List.drop_take,<- u,J] at p;exact List.mem_of_mem_drop p
 have ae:∀ v ∈ au aB l,v.oneCell'=true:=fun v p=>by
  obtain⟨a,_,ha⟩:=List.mem_flatMap.1 p;exact gy a v ha
 have O:∀ ty r V,(Builtin.copy_ #[24,24] ty #[.slice (some ⟨g,(k+1)*3,none⟩) (n - k) r,.slice (some ⟨g,k*3,none⟩) (n+1 - k) V]).run Tryz.prog w.drew = .ok (.int .i64 ((n - k:Nat):Int)) (w.drew.setRow g (o.toList.take ((k+1)*3) ++ j ++ o.toList.drop ((k+1)*3+j.length)).toArray):=fun ty r V=>by
  have B:=dG (P:=Tryz.prog) w.drew 24 24 ty 66 3 g ((k+1)*3) (n - k) r ⟨g,k*3,none⟩ (n+1 - k) V o 66 j Tryz.underlying24 Q h.blk (by rw [E]; congr 1; show _=min _ _; omega)
   (fun D v y=>(h.cells (k*3)) D v (by
    rw [u];rw [<- C,List.getElem?_take] at y
    split at y
    · exact y
    · cases y)) (by rw [E,h.size]; omega) (fun v p=>ae v (ad v p))
  rw [B]
  congr 2
  congr 1
  show min _ _=_
  omega
 obtain⟨d,G⟩:∃ d,(o.toList.take ((k+1)*3) ++ j ++ o.toList.drop ((k+1)*3+j.length)).toArray=d:=⟨_,rfl⟩;rw [G] at O;have I:d.size=c*3:=by rw [<- G]; simp only [List.size_toArray,List.length_append,List.length_take,List.length_drop,u,M,E]; omega
 have H:eX (w.drew.setRow g d) base 66 3 g c d:=eX.set (w:=w.drew) ⟨h.ge,h.blk,h.cap_,h.size⟩ d I;have S:Blk (w.drew.setRow g d) i 66 (aB x).toArray:=(setRow_other w.drew g i d T).trans z;obtain⟨q,N⟩:∃ q,w.drew.setRow g d=q:=⟨_,rfl⟩;rw [N] at O H S;obtain⟨m,F⟩:∃ m,(d.toList.take (k*3) ++ aB x ++ d.toList.drop (k*3+(aB x).length)).toArray=m:=⟨_,rfl⟩
 have ah:∀ ty r,(Builtin.copy_ #[24,24] ty #[.slice (some ⟨g,k*3,none⟩) (n+1 - k) r,.slice (some ⟨i,0,none⟩) 1 1]).run Tryz.prog q = .ok (.int .i64 ((1:Nat):Int)) (q.setRow g m):=fun ty r=>by
  have B:=dG (P:=Tryz.prog) q 24 24 ty 66 3 g (k*3) (n+1 - k) r ⟨i,0,none⟩ 1 1 d 66 (aB x) Tryz.underlying24 Q H.blk (by rw [aI]; show _=min _ _*_; rw [Nat.min_eq_left (by omega)])
   (fun D v y=>by
    have ea:(⟨i,0,none⟩:Addr).add D=⟨i,D,none⟩:=by unfold Addr.add; split <;> simp_all
    rw [ea,S.cell D,List.getElem?_toArray]; exact y) (by rw [aI,I]; omega) (fun v p=>gy x v p)
  rw [B,F]
  congr 2
  congr 1
  show min _ _=_
  omega
 have aa:m.size=c*3:=by rw [<- F]; simp only [List.size_toArray,List.length_append,List.length_take,List.length_drop,Array.length_toList,I,aI]; omega
 have W:=(H.set m aa).own (n:=n+1) (by omega) (xs:=au aB (l.take k ++ x :: l.drop k)) (by
  have B:=vG (L:=L) (R:=au aB l) (X:=aB x) (a:=k*3) (b:=n*3) (s:=3) (Nat.mul_le_mul_right _ (by omega)) (by omega) (aI x) (by rw [<- u]; exact J);rw [dw,show au aB (x :: l.drop k)=aB x ++ au aB (l.drop k) from rfl,<- eA aI,<- fB aI,<- List.append_assoc,<- B,<- F,<- G];simp only [u,E,aI];rw [<- C,show (k+1)*3=k*3+3 by omega,show (n+1)*3=n*3+3 by omega,show (n - k)*3=n*3 - k*3 by omega])
 have Y:cY w (q.setRow g m) (.slice (some ⟨g,0,none⟩) n c) (.slice (some ⟨g,0,none⟩) (n+1) c):=by
  rw [<- N];exact (show cY w (w.drew.setRow g d) (.slice (some ⟨g,0,none⟩) n c) (.slice (some ⟨g,0,none⟩) n c) from mN w g n n c c d).trans (pY _ g n (n+1) c c m)
 have aW:=ω (show cQ aB base 66 3 (some ⟨g,0,none⟩) n c (l.take k ++ x :: l.drop k) w (.returned (.slice (some ⟨g,0,none⟩) (n+1) c)) (q.setRow g m) from ⟨_,n+1,c,rfl,by rw [List.length_append,List.length_cons,List.length_take,List.length_drop]; omega,W,Y⟩);clear Z h J z T ho Hl HR af Hv ab ac Q u M C E ad ae G I H S N F aa W Y;go_enter Tryz.func225,Tryz.ntmps225
 go_wp2_with (simp only [ai])
 go_region_law (refine jc rfl _ _ 24 24 rfl _ _ (by simp [Act.eval,Act.put]) (by simp [Act.eval,Act.put]) (O _ _ _) ?_)
 go_wp2_with (refine gD _ rfl _ _ 24 24 rfl _ _ rfl rfl (ah _ _) ?_)
 go_ret;exact aW
theorem Gj (base g n u k:Nat) (l:List ak) (x:ak) (w:World) (ho:w.ownsRow base 66 3 (.slice (some ⟨g,0,none⟩) n n) n (au aB l)) (hl:l.length=n) (hn:n<=1000) (hk:k<n) (hv:Blk w u 66 (aB x).toArray) (aw:base<=w.heap.size) :
 ψ 225 #[.slice (some ⟨g,0,none⟩) n n,k,.slice (some ⟨u,0,none⟩) 1 1] w (cQ aB base 66 3 (some ⟨g,0,none⟩) n n (l.take k ++ x :: l.drop k) w):=by
 obtain⟨S,j,a5,ao⟩:=eX.of ho;have a8:¬ ((k:Int)=(n:Int)):=by omega
 have a2:¬ (n=k):=by omega
 have a7:IntKind.i64.wrap ((k:Int)+1)=(k:Int)+1:=by rw [IntKind.wrap_i64]; omega
 have a1:(0:Int)<=(k:Int)+1:=by omega
 have a6:((k:Int)+1).toNat=k+1:=by omega
 have a3:(k:Int)+1<=(n:Int)+1:=by omega
 have y:(k:Int)<=(n:Int):=by omega
 obtain⟨i0,ad,aq,af,ag⟩:=info_parts pG;have ae:(Tryz.prog.info? 66).map (·.size)=some 3:=by rw [ad]; simp [af]
 obtain⟨L,E⟩:∃ L,S.toList=L:=⟨_,rfl⟩;have V:L.length=n*3:=by rw [<- E,Array.length_toList,j.size]
 have W:L=au aB l:=by rw [<- ao,E,List.take_of_length_le (by omega)]
 have ar:∀ v ∈ au aB l,v.oneCell'=true:=fun v z=>by
  obtain⟨a,_,ha⟩:=List.mem_flatMap.1 z;exact gy a v ha
 have al:(Builtin.firstCells i0.size k (.slice (some ⟨g,0,none⟩) k n)).run Tryz.prog w.drew = .ok (L.take (k*3)).toArray w.drew:=by
  refine run_firstCells_some (P:=Tryz.prog) w.drew i0.size k ⟨g,0,none⟩ k n _ (by rw [List.length_take,af]; omega) (fun r v m=>?_)
  have i:=j.cells 0 r v (by
   rw [List.drop_zero,E];rw [List.getElem?_take] at m
   split at m
   · exact m
   · cases m)
  exact i
 obtain⟨C,K⟩:∃ C,grownCap w (n+1) n 66 = C:=⟨_,rfl⟩;have av:n+1<=C:=by rw [<- K]; exact grownCap_ge w _ _ _
 have U:C<=maxLen:=by rw [<- K]; exact grownCap_le_maxLen w _ _ _ (by unfold maxLen; omega)
 have Lq:=U;unfold maxLen at Lq;obtain⟨c,Q⟩:∃ c,(L.take (k*3)).toArray ++ Builtin.zeroCells (Value.cells (.agg #[.string ⟨#[]⟩,.string ⟨#[]⟩,(0:Int)])) (n+1 - k) ++ Builtin.zeroCells (Value.cells (.agg #[.string ⟨#[]⟩,.string ⟨#[]⟩,(0:Int)])) (C - (n+1))=c:=⟨_,rfl⟩
 have aa:∀ ty,(Builtin.append_ #[24,3] ty #[.slice (some ⟨g,0,none⟩) k n,.int .i64 ((n:Int)+1 - (k:Int))]).run Tryz.prog w = .ok (.slice (some ⟨w,0,none⟩) (n+1) C) (w.drew.alloc (.cells c 66)):=fun ty=>by
  have i:=Lib.run_append_grow_zeros w 24 3 ty 66 i0 _ .i64 .i64 Tryz.underlying24 Tryz.underlying3 ad aq (some ⟨g,0,none⟩) k n (L.take (k*3)) al (n+1 - k) (by omega) (by omega) (by omega) (by omega) (by rw [ag]; omega) (by rw [ag,show k+(n+1 - k)=n+1 by omega]; exact growslice_fits (by omega) (by omega));rw [show k+(n+1 - k)=n+1 by omega,K,Q,show ((n+1 - k:Nat):Int)=(n:Int)+1 - k by omega] at i;exact i
 have N:c.size=C*3:=by rw [<- Q]; simp only [Array.size_append,List.size_toArray,size_zeroCells,List.length_take,V]; show min _ _+_*3+_*3=_; omega
 have T:c.toList.take (k*3)=L.take (k*3):=by
  rw [<- Q,Array.toList_append,Array.toList_append,List.append_assoc,List.take_append_of_le_length (by rw [List.length_take]; omega),List.take_of_length_le (by rw [List.length_take]; omega)]
 obtain⟨b,M⟩:∃ b,w.drew.alloc (.cells c 66)=b:=⟨_,rfl⟩;have R:Below w w b:=by rw [<- M]; exact (Below.refl w w).drew.alloc lJ _
 have Y:eX b base 66 3 w.heap.size C c:=by rw [<- M]; exact⟨aw,n5 w.drew _,U,N⟩
 have F:eX b base 66 3 g n S:=⟨j.ge,(R.block g (Array.getElem?_eq_some_iff.1 j.blk).1).trans j.blk,j.cap_,j.size⟩;have ap:Blk b u 66 (aB x).toArray:=hv.below R hv.lt;have a4:g<w.heap.size:=(Array.getElem?_eq_some_iff.1 j.blk).1;rw [M] at aa;obtain⟨e,J⟩:∃ e,(c.toList.take (k*3) ++ aB x ++ c.toList.drop (k*3+(aB x).length)).toArray=e:=⟨_,rfl⟩
 have ab:∀ ty p,(Builtin.copy_ #[24,24] ty #[.slice (some ⟨w,k*3,none⟩) (n+1 - k) p,.slice (some ⟨u,0,none⟩) 1 1]).run Tryz.prog b = .ok (.int .i64 ((1:Nat):Int)) (b.setRow w e):=fun ty p=>by
  have i:=dG (P:=Tryz.prog) b 24 24 ty 66 3 w.heap.size (k*3) (n+1 - k) p ⟨u,0,none⟩ 1 1 c 66 (aB x) Tryz.underlying24 ae Y.blk (by rw [aI]; show _=min _ _*_; rw [Nat.min_eq_left (by omega)])
   (fun r v m=>by
    have ea:(⟨u,0,none⟩:Addr).add r=⟨u,r,none⟩:=by unfold Addr.add; split <;> simp_all
    rw [ea,ap.cell r,List.getElem?_toArray]; exact m) (by rw [aI,N]; omega) (fun v z=>gy x v z)
  rw [i,J]
  congr 2
  congr 1
  show min _ _=_
  omega
 have O:e.size=C*3:=by rw [<- J]; simp only [List.size_toArray,List.length_append,List.length_take,List.length_drop,Array.length_toList,N,aI]; omega
 have q:=Y.set e O;have ac:eX (b.setRow w e) base 66 3 g n S:=⟨F.ge,(setRow_other b w g e (by omega)).trans F.blk,F.cap_,F.size⟩;obtain⟨d,Z⟩:∃ d,b.setRow w e=d:=⟨_,rfl⟩;have EC:Below w w d:=by rw [<- Z]; exact R.trans ⟨rfl,rfl,rfl,by simp [World.setRow],fun H hq=>setRow_other b w H e (by omega)⟩
 rw [Z] at ab q ac;obtain⟨o,B⟩:∃ o,L.drop (k*3)=o:=⟨_,rfl⟩;have G:o.length=(n - k)*3:=by rw [<- B,List.length_drop,V]; omega
 obtain⟨h,I⟩:∃ h,(e.toList.take ((k+1)*3) ++ o ++ e.toList.drop ((k+1)*3+o.length)).toArray=h:=⟨_,rfl⟩
 have ax:∀ ty p sc,(Builtin.copy_ #[24,24] ty #[.slice (some ⟨w,(k+1)*3,none⟩) (n - k) p,.slice (some ⟨g,k*3,none⟩) (n - k) sc]).run Tryz.prog d.drew = .ok (.int .i64 ((n - k:Nat):Int)) (d.drew.setRow w h):=fun ty p sc=>by
  have i:=dG (P:=Tryz.prog) d.drew 24 24 ty 66 3 w.heap.size ((k+1)*3) (n - k) p ⟨g,k*3,none⟩ (n - k) sc e 66 o Tryz.underlying24 ae q.blk (by rw [G]; congr 1; show _=min _ _; omega)
   (fun r v m=>ac.cells (k*3) r v (by rw [E,B]; exact m)) (by rw [G,O]; omega) (fun v z=>ar v (by rw [<- W]; rw [<- B] at z; exact List.mem_of_mem_drop z))
  rw [i,I]
  congr 2
  congr 1
  show min _ _=_
  omega
 have am:h.size=C*3:=by rw [<- I]; simp only [List.size_toArray,List.length_append,List.length_take,List.length_drop,Array.length_toList,O,G]; omega
 have ah:eX (d.drew.setRow w h) base 66 3 w.heap.size C h:=eX.set (w:=d.drew) ⟨q.ge,q.blk,q.cap_,q.size⟩ h am
 have ai:=ah.own (n:=n+1) av (xs:=au aB (l.take k ++ x :: l.drop k)) (by
  have i:=yu (L:=c.toList) (X:=aB x) (D:=o) (a:=k*3) (s:=3) (by have ay:c.toList.length=c.size:=Array.length_toList; omega) (aI x);rw [T] at i;rw [dw,show au aB (x :: l.drop k)=aB x ++ au aB (l.drop k) from rfl,<- eA aI,<- fB aI,<- List.append_assoc,<- W,B,<- i,<- I,<- J];simp only [G,aI,T];rw [show (k+1)*3=k*3+3 by omega,show (n+1)*3=k*3+3+(n - k)*3 by omega])
 have aj:cY w (d.drew.setRow w h) (.slice (some ⟨g,0,none⟩) n n) (.slice (some ⟨w,0,none⟩) (n+1) C):=by
  have y:Below w w (d.drew.setRow w h):=EC.trans ⟨rfl,rfl,rfl,by simp [World.setRow],fun H hq=>setRow_other d.drew w H h (by omega)⟩;exact⟨⟨y.os,y.tape,y.output,y.size,fun H hq _=>y.block H hq⟩,.inr ⟨w.heap.size,rfl,lJ⟩⟩
 have aW:=ω (show cQ aB base 66 3 (some ⟨g,0,none⟩) n n (l.take k ++ x :: l.drop k) w (.returned (.slice (some ⟨w,0,none⟩) (n+1) C)) (d.drew.setRow w h) from ⟨_,n+1,C,rfl,by rw [List.length_append,List.length_cons,List.length_take,List.length_drop]; omega,ai,aj⟩);have Lr:=ω aa;have Ls:=ω ab;have az:¬ C=k:=by omega
 have a0:¬ C=k+1:=by omega
 clear hl j ao hv ho ae E V W ar al K U Q aa N T M R Y F ap J ab O q ac Z EC B G I am ah ai aj ad aq af ag;go_enter Tryz.func225,Tryz.ntmps225
 go_wp2_with (first | (at_builtin; refine Lib.wpList_append_run _ rfl _ _ 24 3 rfl _ _ rfl rfl _ _ (Lr.z _) ?_) | (refine gD _ rfl _ _ 24 24 rfl _ _ rfl rfl (Ls.z _ _) ?_))
 go_region_law (refine jc rfl _ _ 24 24 rfl _ _ (by simp [Act.eval,Act.put]) (by simp [Act.eval,Act.put]) (ax _ _ _) ?_)
 go_wp2;go_ret;exact aW
def yw (a:Type) (b:TypeId) (f:Nat) (d:a->List Value) (g:FuncId):Prop:=
 ∀ (base:Nat) (A:Option Addr) (n c e k:Nat) (l:List a) (x:a) (w:World) (o:w.ownsRow base b f (.slice A n c) n (au d l)) (j:l.length=n) (m:n<=1000) (i:k<=n) (p:Blk w e b (d x).toArray) (r:∀ q,(Value.slice A n c).ownBlock=some q->e≠q) (h:base<=w.heap.size),ψ g #[.slice A n c,k,.slice (some ⟨e,0,none⟩) 1 1] w (cQ d base b f A n c (l.take k ++ x :: l.drop k) w)
theorem xV:yw aC 85 5 aS 181 /\ yw av 70 3 aH 183 /\ yw ak 66 3 aB 225:=by
 refine⟨@fun base A n c i k l x w a d e r h m b=>(fun(B:Unit)=>?_) (),@fun base A n c i k l x w a d e r h m b=>(fun(C:Unit)=>?_) (),@fun base A n c i k l x w a d e r h m b=>?_⟩<;>(
 first|(guard_hyp B;have o:=@vF.1;have p:=@Lo;have q:=@Lp)|(guard_hyp C;have o:=@vF.2.1;have p:=@Jm;have q:=@Jn)|(have o:=@vF.2.2;have p:=@Gi;have q:=@Gj)
 by_cases u:k=n
 · subst u;rw [List.take_of_length_le (by omega),List.drop_eq_nil_of_le (by omega)];exact o base A k c i l x w a d e (fun z G y=>by rw [Nat.zero_add,h.cell z,List.getElem?_toArray]; exact y) b
 · obtain⟨g,D,j,F⟩:=a.form (by omega);injection j with j _ s;subst j; subst s;by_cases v:n+1<=c
   · exact p base g n c i k l x w a d e (by omega) v h (m g rfl) b
   · obtain rfl:c=n:=by obtain⟨_,_,E,_⟩:=eX.of a; omega
     exact q base g c i k l x w a d e (by omega) h b)
end Go.Proofs.YtimglglgcgpjgaaGreatDoor
