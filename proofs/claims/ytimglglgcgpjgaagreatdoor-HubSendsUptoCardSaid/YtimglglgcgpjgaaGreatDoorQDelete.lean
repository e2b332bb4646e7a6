/- Of the proof of a statement: Delete. -/
import Derived.Test.YtimglglgcgpjgaaGreatDoorQInsert
set_option linter.unusedVariables false
set_option linter.unusedSimpArgs false
set_option maxRecDepth 100000
set_option maxHeartbeats 8000000
namespace Go.Proofs.YtimglglgcgpjgaaGreatDoor
open Go.RowKit
theorem cY.after {w b c:World} {v v':Value} (a:Below w w b) (d:cY b c v v'):cY w c v v':=
 cY.trans ⟨⟨a.os,a.tape,a.output,a.size,fun k e _=>a.block k e⟩,.inl rfl⟩ d
def CP (L:List Value) (o:Nat):List Value->List Value
 | []=>L
 | v :: r=>CP (L.set o v) (o+1) r
theorem tX:∀ (xs L:List Value) (o:Nat),o+xs.length<=L.length->CP L o xs=L.take o ++ xs ++ L.drop (o+xs.length)
 | [],L,o,_=>by simp [CP]
 | v :: r,L,o,h=>by
  rw [List.length_cons] at h;rw [CP,tX r (L.set o v) (o+1) (by rw [List.length_set]; omega),list_seg_step L o v r h,List.length_cons]
theorem eX.setCell {w:World} {base g b sz:Nat} {e:TypeId} {a:Array Value} (h:eX w base e sz g b a) (i:Nat) (v:Value):eX (sX w g i v) base e sz g b (a.setIfInBounds i v):=by
 rw [setCell_eq_setRow w g i a e (0,0) v h.blk];exact h.set _ (by rw [Array.size_setIfInBounds]; exact h.size)
theorem eX.cell {w:World} {base g b sz:Nat} {e:TypeId} {a:Array Value} (h:eX w base e sz g b a) {i:Nat} {v:Value} (c:a.toList[i]? = some v):ζ w g i v:=by
 rw [cell_of_row w g i a e (0,0) h.blk,<- Array.getElem?_toList]; exact c
theorem eX.thaw {w:World} {base g a sz:Nat} {e:TypeId} {b:Array Value} (h:eX w base e sz g a b) (i:Nat):κ w g i:=by
 have:=h.blk;simp [World.frozen?,this]
theorem xT {L X R:List Value} {a b s:Nat} (f:a+s<=b) (g:b<=L.length) (c:X.length=s) (e:L.take b=R) :
 (L.take a ++ X ++ L.drop (a+s)).take b=R.take a ++ X ++ R.drop (a+s):=by
 have d:(L.take a).length=a:=by rw [List.length_take]; omega
 rw [List.take_append,List.take_of_length_le (by rw [List.length_append,d,c]; omega),List.length_append,d,c,<- e,List.drop_take,List.take_take,Nat.min_eq_left (by omega)]
theorem eL {w:World} (g i n b c a:Nat) (u:Value):cY w (sX w g i u) (.slice (some ⟨g,0,none⟩) n c) (.slice (some ⟨g,0,none⟩) b a):=
 ⟨aJ (World.grownBy.refl w (some g)) i u,.inl rfl⟩
def wC {α:Type} (enc:α->List Value) (base:Nat) (T:TypeId) (sz:Nat) (A:Option Addr) (n c:Nat) (l:List α) (is:Bool) (w:World) (e:Ending) (w':World):Prop:=
 ∃ a m b,e = .returned (.tuple #[.slice a m b,.bool is])/\m=l.length/\w'.ownsRow base T sz (.slice a m b) m (au enc l)/\cY w w' (.slice A n c) (.slice a m b)
def uZ (a:Type) (b:TypeId) (d:Nat) (e:a->List Value) (f:FuncId):Prop:=
 ∀ (base g m c k:Nat) (l:List a) (w:World) (n:w.ownsRow base b d (.slice (some ⟨g,0,none⟩) (m+1) c) (m+1) (au e l)) (i:l.length=m+1) (j:m+1<=1000) (h:k<m),ψ f #[.slice (some ⟨g,0,none⟩) (m+1) c,k,.int .i64 ((k:Int)+1)] w (cQ e base b d (some ⟨g,0,none⟩) (m+1) c (l.take k ++ l.drop (k+1)) w)
theorem vg:uZ aC 85 5 aS 184 /\ uZ av 70 3 aH 186 /\ uZ ak 66 3 aB 189:=by
 refine⟨@fun base g m c k l w V hl hn hk=>(fun(x:Unit)=>?_) (),@fun base g m c k l w V hl hn hk=>(fun(y:Unit)=>?_) (),@fun base g m c k l w V hl hn hk=>(fun(al:Unit)=>?_) ()⟩<;>(
 first|(guard_hyp x;have ab:=@sI;have z:Tg 3:=⟨⟩;have d:Tg 13:=⟨⟩;have N:Tg 0:=⟨⟩;have ac:=@kY;have G:Tg 14:=⟨⟩;have ad:=@Tryz.underlying22)|(guard_hyp y;have ab:=@qH;have z:Tg 4:=⟨⟩;have d:Tg 15:=⟨⟩;have N:Tg 1:=⟨⟩;have ac:=@jC;have G:Tg 16:=⟨⟩;have ad:=@Tryz.underlying23)|(have ab:=@pG;have z:Tg 5:=⟨⟩;have d:Tg 15:=⟨⟩;have N:Tg 2:=⟨⟩;have ac:=@gy;have G:Tg 17:=⟨⟩;have ad:=@Tryz.underlying24)
 obtain⟨Q,o,a5,K⟩:=eX.of V;have ap:=o.cap_;unfold maxLen at ap;obtain⟨i0,ah,aq,aj,ar⟩:=info_parts ab;have ai:(Tryz.prog.info? z).map (·.size)=some d:=by rw [ah]; simp [aj]
 have ao:∀ v ∈ au N l,v.oneCell'=true:=fun v F=>by
  obtain⟨a,_,ha⟩:=List.mem_flatMap.1 F;exact ac a v ha
 obtain⟨L,j⟩:∃ L,Q.toList=L:=⟨_,rfl⟩;have Y:L.length=c*d:=by rw [<- j,Array.length_toList,o.size]
 obtain⟨r,u⟩:∃ r,(L.drop (k*d+d)).take ((m+1)*d - (k*d+d))=r:=⟨_,rfl⟩;have B:r.length=(m - k)*d:=by rw [<- u,List.length_take,List.length_drop,Y]; omega
 have am:∀ v ∈ r,v ∈ au N l:=fun v F=>by
  rw [<- u,<- List.drop_take,<- j,K] at F;exact List.mem_of_mem_drop F
 obtain⟨e,D⟩:∃ e,(Q.toList.take (k*d) ++ r ++ Q.toList.drop (k*d+r.length)).toArray=e:=⟨_,rfl⟩
 have S:∀ ty sc,(Builtin.append_ #[G,G] ty #[.slice (some ⟨g,0,none⟩) k c,.slice (some ⟨g,(k+1)*d,none⟩) (m - k) sc]).run Tryz.prog w.drew = .ok (.slice (some ⟨g,0,none⟩) m c) (w.drew.setRow g e):=fun ty sc=>by
  have i:=zG (P:=Tryz.prog) w.drew G ty z d ad ai g k c ⟨g,(k+1)*d,none⟩ (m - k) sc Q z r o.blk B (fun aw v U=>by
   refine o.cells ((k+1)*d) aw v ?_;rw [j,show (k+1)*d=k*d+d by omega];rw [<- u,List.getElem?_take] at U
   split at U
   · exact U
   · cases U) (by omega) (by rw [B,o.size]; omega) (fun v F=>ao v (am v F))
  rw [i,D,show k+(m - k)=m by omega]
 have E:e.size=c*d:=by rw [<- D]; simp only [List.size_toArray,List.length_append,List.length_take,List.length_drop,j,Y,B]; omega
 have q:eX (w.drew.setRow g e) base z d g c e:=eX.set (w:=w.drew) ⟨o.ge,o.blk,o.cap_,o.size⟩ e E;obtain⟨p,aa⟩:∃ p,w.drew.setRow g e=p:=⟨_,rfl⟩;rw [aa] at S q
 first|(guard_hyp x;obtain⟨Z,J⟩:∃ Z,(Builtin.zeroCells (Value.cells (.agg #[.string ⟨#[]⟩,(0:Int),(0:Int),(0:Int),.string ⟨#[]⟩])) 1).toList=Z:=⟨_,rfl⟩)|(guard_hyp y;obtain⟨Z,J⟩:∃ Z,(Builtin.zeroCells (Value.cells (.agg #[.string ⟨#[]⟩,(0:Int),.string ⟨#[]⟩])) 1).toList=Z:=⟨_,rfl⟩)|obtain⟨Z,J⟩:∃ Z,(Builtin.zeroCells (Value.cells (.agg #[.string ⟨#[]⟩,.string ⟨#[]⟩,(0:Int)])) 1).toList=Z:=⟨_,rfl⟩
 have lZ:Z.length=d:=by rw [<- J,mM]; rfl
 obtain⟨h,C⟩:∃ h,(e.toList.take (m*d) ++ Z ++ e.toList.drop (m*d+Z.length)).toArray=h:=⟨_,rfl⟩
 have af:∀ ty H,(Builtin.clear_ #[G] ty #[.slice (some ⟨g,m*d,none⟩) 1 H]).run Tryz.prog p = .ok (.tuple #[]) (p.setRow g h):=fun ty H=>by
  first
   |(
    guard_hyp x
    have i:=gI (P:=Tryz.prog) p 22 85 ty (.agg #[.string ⟨#[]⟩,(0:Int),(0:Int),(0:Int),.string ⟨#[]⟩]) g (m*5) 1 H Tryz.underlying22 Tryz.zeroValue85 (iD _ 1 (fun O M=>kY ⟨⟨#[]⟩,0,0,0,⟨#[]⟩⟩ O M)) (by decide) e 85 q.blk (by rw [E]; show m*5+1*5<=_; omega))
   |(
    guard_hyp y
    have i:=gI (P:=Tryz.prog) p 23 70 ty (.agg #[.string ⟨#[]⟩,(0:Int),.string ⟨#[]⟩]) g (m*3) 1 H Tryz.underlying23 Tryz.zeroValue70 (iD _ 1 (fun O M=>jC ⟨⟨#[]⟩,0,⟨#[]⟩⟩ O M)) (by decide) e 70 q.blk (by rw [E]; show m*3+1*3<=_; omega))
   |(
    guard_hyp al
    have i:=gI (P:=Tryz.prog) p 24 66 ty (.agg #[.string ⟨#[]⟩,.string ⟨#[]⟩,(0:Int)]) g (m*3) 1 H Tryz.underlying24 Tryz.zeroValue66 (iD _ 1 (fun O M=>gy ⟨⟨#[]⟩,⟨#[]⟩,0⟩ O M)) (by decide) e 66 q.blk (by rw [E]; show m*3+1*3<=_; omega))
  rw [i,J,C]
 have W:h.size=c*d:=by rw [<- C]; simp only [List.size_toArray,List.length_append,List.length_take,List.length_drop,Array.length_toList,E,lZ]; omega
 first
  |(
   guard_hyp x
   have T:=(q.set h W).own (n:=m) (by omega) (xs:=au aS (l.take k ++ l.drop (k+1))) (by
    have i:=vk (L:=L) (R:=au aS l) (a:=k*5) (b:=(m+1)*5) (s:=5) (by omega) (by omega) (by rw [<- j]; exact K)
    have I:h.toList.take (m*5)=e.toList.take (m*5):=by
     have l1:(e.toList.take (m*5)).length=m*5:=by
      have ae:e.toList.length=e.size:=Array.length_toList;rw [List.length_take]; omega
     rw [<- C,List.append_assoc,List.take_append_of_le_length (by omega),List.take_of_length_le (by omega)]
    rw [dw,<- eA aT,<- fB aT,show (k+1)*5=k*5+5 by omega,<- i,I,<- D];simp only [j,B];rw [<- u,show (m+1)*5 - 5=m*5 by omega,show (m - k)*5=(m+1)*5 - (k*5+5) by omega]))
  |(
   guard_hyp y
   have T:=(q.set h W).own (n:=m) (by omega) (xs:=au aH (l.take k ++ l.drop (k+1))) (by
    have i:=vk (L:=L) (R:=au aH l) (a:=k*3) (b:=(m+1)*3) (s:=3) (by omega) (by omega) (by rw [<- j]; exact K)
    have I:h.toList.take (m*3)=e.toList.take (m*3):=by
     have l1:(e.toList.take (m*3)).length=m*3:=by
      have ae:e.toList.length=e.size:=Array.length_toList;rw [List.length_take]; omega
     rw [<- C,List.append_assoc,List.take_append_of_le_length (by omega),List.take_of_length_le (by omega)]
    rw [dw,<- eA aO,<- fB aO,show (k+1)*3=k*3+3 by omega,<- i,I,<- D];simp only [j,B];rw [<- u,show (m+1)*3 - 3=m*3 by omega,show (m - k)*3=(m+1)*3 - (k*3+3) by omega]))
  |(
   guard_hyp al
   have T:=(q.set h W).own (n:=m) (by omega) (xs:=au aB (l.take k ++ l.drop (k+1))) (by
    have i:=vk (L:=L) (R:=au aB l) (a:=k*3) (b:=(m+1)*3) (s:=3) (by omega) (by omega) (by rw [<- j]; exact K)
    have I:h.toList.take (m*3)=e.toList.take (m*3):=by
     have l1:(e.toList.take (m*3)).length=m*3:=by
      have ae:e.toList.length=e.size:=Array.length_toList;rw [List.length_take]; omega
     rw [<- C,List.append_assoc,List.take_append_of_le_length (by omega),List.take_of_length_le (by omega)]
    rw [dw,<- eA aI,<- fB aI,show (k+1)*3=k*3+3 by omega,<- i,I,<- D];simp only [j,B];rw [<- u,show (m+1)*3 - 3=m*3 by omega,show (m - k)*3=(m+1)*3 - (k*3+3) by omega]))
 have ag:cY w (p.setRow g h) (.slice (some ⟨g,0,none⟩) (m+1) c) (.slice (some ⟨g,0,none⟩) m c):=by
  rw [<- aa];exact (mN w g (m+1) (m+1) c c e).trans (pY _ g (m+1) m c c h)
 have aW:=ω (show cQ N base z d (some ⟨g,0,none⟩) (m+1) c (l.take k ++ l.drop (k+1)) w (.returned (.slice (some ⟨g,0,none⟩) m c)) (p.setRow g h) from ⟨_,m,c,rfl,by rw [List.length_append,List.length_take,List.length_drop]; omega,T,ag⟩);have a4:((k:Int) == (k:Int)+1)=false:=by rw [beq_eq_false_iff_ne]; omega
 have a7:(0:Int)<=(k:Int)+1:=by omega
 have a6:((k:Int)+1).toNat=k+1:=by omega
 have ax:(k:Int)+1<=(m:Int)+1:=by omega
 have ay:(k:Int)<=(m:Int)+1:=by omega
 have az:(k:Int)<=(k:Int)+1:=by omega
 have a2:¬ c=m:=by omega
 have a3:(k:Int)<=(c:Int):=by omega
 have a0:¬ c=k:=by omega
 have X:=ω af;clear hl o K V ai j Y u B am ao D E q aa J lZ af C W T ag ah aq aj ar;have a1:¬ c=k+1:=by omega
 first|(guard_hyp x;go_enter Tryz.func184,Tryz.ntmps184)|(guard_hyp y;go_enter Tryz.func186,Tryz.ntmps186)|go_enter Tryz.func189,Tryz.ntmps189
 go_wp2
 first|(guard_hyp x;go_region_law (refine nu rfl _ _ 22 22 rfl (.slice (some ⟨g,0,none⟩) k c) (.slice (some ⟨g,(k+1)*5,none⟩) (m - k) (c - (k+1))) rfl rfl (S _ _) ?_))|(guard_hyp y;go_region_law (refine nu rfl _ _ 23 23 rfl (.slice (some ⟨g,0,none⟩) k c) (.slice (some ⟨g,(k+1)*3,none⟩) (m - k) (c - (k+1))) rfl rfl (S _ _) ?_))|go_region_law (refine nu rfl _ _ 24 24 rfl (.slice (some ⟨g,0,none⟩) k c) (.slice (some ⟨g,(k+1)*3,none⟩) (m - k) (c - (k+1))) rfl rfl (S _ _) ?_)
 first|(guard_hyp x;go_wp2_with (refine cW _ rfl _ 22 rfl _ rfl (X.z _ _) ?_))|(guard_hyp y;go_wp2_with (refine cW _ rfl _ 23 rfl _ rfl (X.z _ _) ?_))|go_wp2_with (refine cW _ rfl _ 24 rfl _ rfl (X.z _ _) ?_)
 go_ret;exact aW)
def vo (a:Type) (b:TypeId) (d:Nat) (e:a->List Value) (f:FuncId):Prop:=
 ∀ (base g m c:Nat) (l:List a) (w:World) (j:w.ownsRow base b d (.slice (some ⟨g,0,none⟩) (m+1) c) (m+1) (au e l)) (h:l.length=m+1) (i:m+1<=1000),ψ f #[.slice (some ⟨g,0,none⟩) (m+1) c,m,.int .i64 ((m:Int)+1)] w (cQ e base b d (some ⟨g,0,none⟩) (m+1) c (l.take m ++ l.drop (m+1)) w)
theorem vv:vo aC 85 5 aS 184 /\ vo av 70 3 aH 186 /\ vo ak 66 3 aB 189:=by
 refine⟨@fun base g m c l w r y G=>(fun(e:Unit)=>?_) (),@fun base g m c l w r y G=>(fun(h:Unit)=>?_) (),@fun base g m c l w r y G=>(fun(N:Unit)=>?_) ()⟩<;>(
 first|(guard_hyp e;have b:Tg 13:=⟨⟩;have z:Tg 14:=⟨⟩;have s:Tg 3:=⟨⟩;have v:Tg 0:=⟨⟩;have B:=@aT)|(guard_hyp h;have b:Tg 15:=⟨⟩;have z:Tg 16:=⟨⟩;have s:Tg 4:=⟨⟩;have v:Tg 1:=⟨⟩;have B:=@aO)|(have b:Tg 15:=⟨⟩;have z:Tg 17:=⟨⟩;have s:Tg 5:=⟨⟩;have v:Tg 2:=⟨⟩;have B:=@aI)
 obtain⟨j,a,U,I⟩:=eX.of r;have L:=a.cap_;unfold maxLen at L
 first|(guard_hyp e;obtain⟨Z,o⟩:∃ Z,(Builtin.zeroCells (Value.cells (.agg #[.string ⟨#[]⟩,(0:Int),(0:Int),(0:Int),.string ⟨#[]⟩])) 1).toList=Z:=⟨_,rfl⟩)|(guard_hyp h;obtain⟨Z,o⟩:∃ Z,(Builtin.zeroCells (Value.cells (.agg #[.string ⟨#[]⟩,(0:Int),.string ⟨#[]⟩])) 1).toList=Z:=⟨_,rfl⟩)|obtain⟨Z,o⟩:∃ Z,(Builtin.zeroCells (Value.cells (.agg #[.string ⟨#[]⟩,.string ⟨#[]⟩,(0:Int)])) 1).toList=Z:=⟨_,rfl⟩
 have J:Z.length=b:=by rw [<- o,mM]; rfl
 obtain⟨d,q⟩:∃ d,(j.toList.take (m*b) ++ Z ++ j.toList.drop (m*b+Z.length)).toArray=d:=⟨_,rfl⟩;have K:j.toList.length=c*b:=by rw [Array.length_toList,a.size]
 have E:∀ ty k,(Builtin.clear_ #[z] ty #[.slice (some ⟨g,m*b,none⟩) 1 k]).run Tryz.prog w.drew = .ok (.tuple #[]) (w.drew.setRow g d):=fun ty k=>by
  first
   |(
    guard_hyp e
    have x:=gI (P:=Tryz.prog) w.drew 22 85 ty (.agg #[.string ⟨#[]⟩,(0:Int),(0:Int),(0:Int),.string ⟨#[]⟩]) g (m*5) 1 k Tryz.underlying22 Tryz.zeroValue85 (iD _ 1 (fun u p=>kY ⟨⟨#[]⟩,0,0,0,⟨#[]⟩⟩ u p)) (by decide) j 85 a.blk (by rw [a.size]; show m*5+1*5<=_; omega))
   |(
    guard_hyp h
    have x:=gI (P:=Tryz.prog) w.drew 23 70 ty (.agg #[.string ⟨#[]⟩,(0:Int),.string ⟨#[]⟩]) g (m*3) 1 k Tryz.underlying23 Tryz.zeroValue70 (iD _ 1 (fun u p=>jC ⟨⟨#[]⟩,0,⟨#[]⟩⟩ u p)) (by decide) j 70 a.blk (by rw [a.size]; show m*3+1*3<=_; omega))
   |(
    guard_hyp N
    have x:=gI (P:=Tryz.prog) w.drew 24 66 ty (.agg #[.string ⟨#[]⟩,.string ⟨#[]⟩,(0:Int)]) g (m*3) 1 k Tryz.underlying24 Tryz.zeroValue66 (iD _ 1 (fun u p=>gy ⟨⟨#[]⟩,⟨#[]⟩,0⟩ u p)) (by decide) j 66 a.blk (by rw [a.size]; show m*3+1*3<=_; omega))
  rw [x,o,q]
 have H:d.size=c*b:=by rw [<- q]; simp only [List.size_toArray,List.length_append,List.length_take,List.length_drop,K,J]; omega
 have D:eX (w.drew.setRow g d) base s b g c d:=eX.set (w:=w.drew) ⟨a.ge,a.blk,a.cap_,a.size⟩ d H
 have F:=D.own (n:=m) (by omega) (xs:=au v (l.take m ++ l.drop (m+1))) (by
  rw [List.drop_eq_nil_of_le (by omega),List.append_nil,<- eA B,<- I,<- q,List.append_assoc,List.take_append_of_le_length (by rw [List.length_take]; omega),List.take_take,List.take_take,Nat.min_self,Nat.min_eq_left (by omega)])
 have C:=ω (show cQ v base s b (some ⟨g,0,none⟩) (m+1) c (l.take m ++ l.drop (m+1)) w (.returned (.slice (some ⟨g,0,none⟩) m c)) (w.drew.setRow g d) from ⟨_,m,c,rfl,by rw [List.length_append,List.length_take,List.length_drop]; omega,F,mN w g (m+1) m c c d⟩);have T:((m:Int) == (m:Int)+1)=false:=by rw [beq_eq_false_iff_ne]; omega
 have W:(0:Int)<=(m:Int)+1:=by omega
 have V:((m:Int)+1).toNat=m+1:=by omega
 have O:(m:Int)+1<=(m:Int)+1:=by omega
 have Q:(m:Int)<=(m:Int)+1:=by omega
 have R:¬ c=m:=by omega
 have S:(m:Int)<=(c:Int):=by omega
 have i:=ω E;clear y a I r o J E q H D F K;by_cases M:c=m+1
 · subst M
   first|(guard_hyp e;go_enter Tryz.func184,Tryz.ntmps184)|(guard_hyp h;go_enter Tryz.func186,Tryz.ntmps186)|go_enter Tryz.func189,Tryz.ntmps189
   go_wp2
   go_region
   first|(guard_hyp e;go_wp2_with (refine cW _ rfl _ 22 rfl _ rfl (i.z _ _) ?_))|(guard_hyp h;go_wp2_with (refine cW _ rfl _ 23 rfl _ rfl (i.z _ _) ?_))|go_wp2_with (refine cW _ rfl _ 24 rfl _ rfl (i.z _ _) ?_)
   go_ret;exact C
 · first|(guard_hyp e;go_enter Tryz.func184,Tryz.ntmps184)|(guard_hyp h;go_enter Tryz.func186,Tryz.ntmps186)|go_enter Tryz.func189,Tryz.ntmps189
   go_wp2
   go_region
   first|(guard_hyp e;go_wp2_with (refine cW _ rfl _ 22 rfl _ rfl (i.z _ _) ?_))|(guard_hyp h;go_wp2_with (refine cW _ rfl _ 23 rfl _ rfl (i.z _ _) ?_))|go_wp2_with (refine cW _ rfl _ 24 rfl _ rfl (i.z _ _) ?_)
   go_ret;exact C)
theorem MM (base g m c k:Nat) (l:List aC) (w:World) (d:w.ownsRow base 85 5 (.slice (some ⟨g,0,none⟩) (m+1) c) (m+1) (au aS l)) (a:l.length=m+1) (b:m+1<=1000) (e:k<=m) :
 ψ 184 #[.slice (some ⟨g,0,none⟩) (m+1) c,k,.int .i64 ((k:Int)+1)] w (cQ aS base 85 5 (some ⟨g,0,none⟩) (m+1) c (l.take k ++ l.drop (k+1)) w):=by
 by_cases h:k=m
 · subst h; exact vv.1 base g k c l w d a b
 · exact vg.1 base g m c k l w d a b (by omega)
theorem FM (base g n c k:Nat) (l:List aC) (x:aC) (w W:World) (r:w.ownsRow base 85 5 (.slice (some ⟨g,0,none⟩) n c) n (au aS l)) (p:l.length=n) (z:k<n) (i:Below w w W) :
 (∀ j,κ W g j)/\(∀ j,j<n*5->∃ u,ζ W g j u)/\cQ aS base 85 5 (some ⟨g,0,none⟩) n c (l.take k ++ x :: l.drop (k+1)) w (.returned (.slice (some ⟨g,0,none⟩) n c)) (sX (sX (sX (sX (sX W g (k*5) (.string x.name)) g (k*5+1) (.int .i64 x.prio)) g (k*5+2) (.int .i64 x.need)) g (k*5+3) (.int .i64 x.tries)) g (k*5+4) (.string x.tag)):=by
 obtain⟨d,e,q,v⟩:=eX.of (aF r i);have f:d.toList.length=c*5:=by rw [Array.length_toList,e.size]
 have o:=(((((e.setCell (k*5) (.string x.name)).setCell (k*5+1) (.int .i64 x.prio)).setCell (k*5+2) (.int .i64 x.need)).setCell (k*5+3) (.int .i64 x.tries)).setCell (k*5+4) (.string x.tag))
 have m:(((((d.setIfInBounds (k*5) (.string x.name)).setIfInBounds (k*5+1) (.int .i64 x.prio)).setIfInBounds (k*5+2) (.int .i64 x.need)).setIfInBounds (k*5+3) (.int .i64 x.tries)).setIfInBounds (k*5+4) (.string x.tag)).toList=d.toList.take (k*5) ++ aS x ++ d.toList.drop (k*5+5):=by
  have h:=tX (aS x) d.toList (k*5) (by rw [aT,f]; omega);rw [aT] at h;rw [<- h];simp only [Array.toList_setIfInBounds];rfl
 refine⟨e.thaw,fun j y=>⟨_,e.cell (gO (by rw [f]; omega))⟩,_,n,c,rfl,by rw [List.length_append,List.length_cons,List.length_take,List.length_drop,p]; omega,o.own q ?_,cY.after i ((((((eL g (k*5) n n c c (.string x.name)).trans (eL g (k*5+1) n n c c (.int .i64 x.prio))).trans (eL g (k*5+2) n n c c (.int .i64 x.need))).trans (eL g (k*5+3) n n c c (.int .i64 x.tries))).trans (eL g (k*5+4) n n c c (.string x.tag))))⟩;have h:=xT (L:=d.toList) (X:=aS x) (R:=au aS l) (a:=k*5) (b:=n*5) (s:=5) (by omega) (by rw [f]; omega) (aT x) v;rw [dw,show au aS (x :: l.drop (k+1))=aS x ++ au aS (l.drop (k+1)) from rfl,<- eA aT,<- fB aT,<- List.append_assoc,show (k+1)*5=k*5+5 by omega,<- h,m]
theorem Kt (base:Nat) (A:Option Addr) (n c:Nat) (l:List aC) (x:aC) (w:World) (B:w.ownsRow base 85 5 (.slice A n c) n (au aS l)) (E:l.length=n) (hn:n<=999) (I:cH aC.name l) (ag:base<=w.heap.size) :
 ψ 142 #[.slice A n c,.agg (aS x).toArray,.func (.func 129) #[] #[]] w (cQ aS base 85 5 A n c (jI aC.name l x) w):=by
 have i:=sJ (x:=x) I;have xU:=wD (key:=aC.name) l (aC.name x);have am:=enters_of Tryz.func129 (by kernel_rfl) rfl;obtain⟨k,D⟩:∃ k,eW aC.name l (aC.name x)=k:=⟨_,rfl⟩;have T:Below w w (w.alloc (.cells (aS x).toArray 85)):=(θ).alloc lJ _;have R:Blk (w.alloc (.cells (aS x).toArray 85)) w 85 (aS x).toArray:=n5 w _;have v:=ω (fun W (S:Below w w W)=>gZ.1 (aC.name x) l A n c W (cS (aF B S)) E (by omega) I);have Y:=ω B;have j:=ω T;have F:=ω R;unfold kE at v;rw [D] at i xU;simp only [D] at v
 cases s:isL aC.name l (aC.name x) with
 | true=>
  rw [s] at i;simp only [s] at v;obtain⟨ao,U,ai⟩:=pH s;rw [D] at U;have ah:k<n:=by have:=(List.getElem?_eq_some_iff.1 U).1; omega
  obtain⟨g,ak,Q,al⟩:=B.form (by omega);injection Q with Q _ hc;subst Q; subst hc;rw [if_pos rfl] at i;have HS:=ω (fun W S=>FM base g n c k l x w W B E ah S);rw [i];clear i T R s U ai D E B xU I;obtain⟨a,d,b,h,e⟩:=x;have u:=ω (show Blk (χ w #[a,d,b,h,e] 85) w 85 #[a,d,b,h,e] from F.z);obtain⟨L,M,N,O,P⟩:=Blk.c5 (u.z)
  show ψ 142 #[.slice (some ⟨g,0,none⟩) n c,.agg #[a,d,b,h,e],.func (.func 129) #[] #[]] w _
  have j:=ω (show Below w w (χ w #[a,d,b,h,e] 85) from j.z);clear F;go_enter Tryz.func142,Tryz.ntmps142
  go_wp2_with fail
  refine Calls.mono (kF a d b h e _) ?_;rintro G w2 ⟨rfl,q⟩;have p:=ω (j.trans (q.mono j.size));have o:=ω (u.below q u.lt);clear q L M N O P
  go_wp2_with fail
  refine Calls.mono (v.z _ p.z) ?_;rintro G m ⟨rfl,r⟩;have C:=ω (p.trans (r.mono p.size));have J:=ω (o.below r o.lt);clear r o;obtain⟨z,y,ab⟩:=HS.z m C.z;obtain⟨d0,d1,d2,d3,d4⟩:=Blk.c5 (J.z);have f0:=z (k*5);obtain⟨u0,p0⟩:=y (k*5) (by omega);have f1:=z (k*5+1);obtain⟨u1,p1⟩:=y (k*5+1) (by omega);have f2:=z (k*5+2);obtain⟨u2,p2⟩:=y (k*5+2) (by omega);have f3:=z (k*5+3);obtain⟨u3,p3⟩:=y (k*5+3) (by omega);have f4:=z (k*5+4);obtain⟨u4,p4⟩:=y (k*5+4) (by omega);have K:=ω ab;clear z y ab;go_wp2;go_ret;exact K
 | false=>
  rw [s] at i;simp only [s] at v;rw [if_neg (by decide)] at i;rw [i];have X:=ω E;clear i T R s D E B I;obtain⟨a,d,b,h,e⟩:=x;have u:=ω (show Blk (χ w #[a,d,b,h,e] 85) w 85 #[a,d,b,h,e] from F.z);obtain⟨L,M,N,O,P⟩:=Blk.c5 (u.z)
  show ψ 142 #[.slice A n c,.agg #[a,d,b,h,e],.func (.func 129) #[] #[]] w _
  have j:=ω (show Below w w (χ w #[a,d,b,h,e] 85) from j.z);clear F;go_enter Tryz.func142,Tryz.ntmps142
  go_wp2_with fail
  refine Calls.mono (kF a d b h e _) ?_;rintro G w2 ⟨rfl,q⟩;have p:=ω (j.trans (q.mono j.size));have o:=ω (u.below q u.lt);clear q L M N O P
  go_wp2_with fail
  refine Calls.mono (v.z _ p.z) ?_;rintro G m ⟨rfl,r⟩;have C:=ω (p.trans (r.mono p.size));have J:=ω (o.below r o.lt);clear r o;obtain⟨d0,d1,d2,d3,d4⟩:=Blk.c5 (J.z);have H:Below w w (χ m #[a,d,b,h,e] 85):=C.alloc C.size _;have aa:Blk (χ m #[a,d,b,h,e] 85) m 85 (aS ⟨a,d,b,h,e⟩).toArray:=n5 m _;have HI:=ω (xV.1 base A n c m k l ⟨a,d,b,h,e⟩ (χ m #[a,d,b,h,e] 85) (aF Y.z H) X.z (by omega) (by have:=X.z; omega) aa (fun aj hq=>by have:=(Y.lt aj hq).2; have:=C.size; omega) (v6 ag H.size));have af:=ω H;clear H aa
  go_wp2_with fail
  refine HI.mono ?_;rintro G w5 ⟨V,ae,Z,rfl,hm,ad,ac⟩;have K:=ω (show cQ aS base 85 5 A n c (l.take k ++ ⟨a,d,b,h,e⟩ :: l.drop k) w (.returned (.slice V ae Z)) w5 from ⟨V,ae,Z,rfl,hm,ad,cY.after af.z ac⟩);clear hm ad ac d0 d1 d2 d3 d4;go_wp2;go_ret;exact K
theorem IN (base:Nat) (A:Option Addr) (n c:Nat) (l:List aC) (s:ByteArray) (w:World) (h:w.ownsRow base 85 5 (.slice A n c) n (au aS l)) (j:l.length=n) (Q:n<=999) (o:cH aC.name l) :
 ψ 144 #[.slice A n c,s,.func (.func 129) #[] #[]] w (wC aS base 85 5 A n c (l.filter fun I=>!decide (aC.name I=s)) (isL aC.name l s) w):=by
 have a:=Am (s:=s) o;obtain⟨k,i⟩:∃ k,eW aC.name l s=k:=⟨_,rfl⟩;have d:=ω (gZ.1 s l A n c w (cS h) j (by omega) o);have H:=ω h;have G:=ω j;unfold kE at d;rw [i] at a;simp only [i] at d
 cases b:isL aC.name l s with
 | true=>
  rw [b] at a;simp only [b] at d;obtain⟨S,r,L⟩:=pH b;rw [i] at r;have P:k<n:=by have:=(List.getElem?_eq_some_iff.1 r).1; omega
  obtain⟨g,N,q,O⟩:=h.form (by omega);injection q with q _ K;subst q; subst K;rw [if_pos rfl] at a;rw [a];obtain⟨m,rfl⟩:∃ m,n=m+1:=⟨n - 1,by omega⟩;have F:=ω (fun W (J:Below w w W)=>MM base g m c k l W (aF h J) j (by omega) (by omega));have R:IntKind.i64.wrap ((k:Int)+1)=(k:Int)+1:=by rw [IntKind.wrap_i64]; omega
  clear a b r L i j h o;go_enter Tryz.func144,Tryz.ntmps144
  go_wp2_with fail
  refine d.mono ?_;rintro y E ⟨rfl,e⟩;have v:=ω e;clear e
  go_wp2_with fail
  refine Calls.mono (F.z _ v.z) ?_;rintro y M ⟨u,D,x,rfl,B,C,z⟩;have p:=ω (show wC aS base 85 5 (some ⟨g,0,none⟩) (m+1) c (l.take k ++ l.drop (k+1)) true w (.returned (.tuple #[.slice u D x,.bool true])) M from ⟨u,D,x,rfl,B,C,cY.after v.z z⟩);clear B C z;go_wp2;go_ret2;exact p
 | false=>
  rw [b] at a;simp only [b] at d;rw [if_neg (by decide)] at a;rw [a];clear a b i j h o;go_enter Tryz.func144,Tryz.ntmps144
  go_wp2_with fail
  refine d.mono ?_;rintro y E ⟨rfl,e⟩;have p:=ω (show wC aS base 85 5 A n c l false w (.returned (.tuple #[.slice A n c,.bool false])) E from ⟨A,n,c,rfl,G.symm,aF H.z e,cY.after e (cY.refl _ _)⟩);clear e;go_wp2;go_ret2;exact p
theorem Ku (base g m c k:Nat) (l:List av) (w:World) (d:w.ownsRow base 70 3 (.slice (some ⟨g,0,none⟩) (m+1) c) (m+1) (au aH l)) (a:l.length=m+1) (b:m+1<=1000) (e:k<=m) :
 ψ 186 #[.slice (some ⟨g,0,none⟩) (m+1) c,k,.int .i64 ((k:Int)+1)] w (cQ aH base 70 3 (some ⟨g,0,none⟩) (m+1) c (l.take k ++ l.drop (k+1)) w):=by
 by_cases h:k=m
 · subst h; exact vv.2.1 base g k c l w d a b
 · exact vg.2.1 base g m c k l w d a b (by omega)
theorem DW (base g n c k:Nat) (l:List av) (x:av) (w W:World) (r:w.ownsRow base 70 3 (.slice (some ⟨g,0,none⟩) n c) n (au aH l)) (p:l.length=n) (z:k<n) (i:Below w w W) :
 (∀ j,κ W g j)/\(∀ j,j<n*3->∃ u,ζ W g j u)/\cQ aH base 70 3 (some ⟨g,0,none⟩) n c (l.take k ++ x :: l.drop (k+1)) w (.returned (.slice (some ⟨g,0,none⟩) n c)) (sX (sX (sX W g (k*3) (.string x.name)) g (k*3+1) (.int .i64 x.room)) g (k*3+2) (.string x.zone)):=by
 obtain⟨d,e,q,v⟩:=eX.of (aF r i);have f:d.toList.length=c*3:=by rw [Array.length_toList,e.size]
 have o:=(((e.setCell (k*3) (.string x.name)).setCell (k*3+1) (.int .i64 x.room)).setCell (k*3+2) (.string x.zone))
 have m:(((d.setIfInBounds (k*3) (.string x.name)).setIfInBounds (k*3+1) (.int .i64 x.room)).setIfInBounds (k*3+2) (.string x.zone)).toList=d.toList.take (k*3) ++ aH x ++ d.toList.drop (k*3+3):=by
  have h:=tX (aH x) d.toList (k*3) (by rw [aO,f]; omega);rw [aO] at h;rw [<- h];simp only [Array.toList_setIfInBounds];rfl
 refine⟨e.thaw,fun j y=>⟨_,e.cell (gO (by rw [f]; omega))⟩,_,n,c,rfl,by rw [List.length_append,List.length_cons,List.length_take,List.length_drop,p]; omega,o.own q ?_,cY.after i ((((eL g (k*3) n n c c (.string x.name)).trans (eL g (k*3+1) n n c c (.int .i64 x.room))).trans (eL g (k*3+2) n n c c (.string x.zone))))⟩;have h:=xT (L:=d.toList) (X:=aH x) (R:=au aH l) (a:=k*3) (b:=n*3) (s:=3) (by omega) (by rw [f]; omega) (aO x) v;rw [dw,show au aH (x :: l.drop (k+1))=aH x ++ au aH (l.drop (k+1)) from rfl,<- eA aO,<- fB aO,<- List.append_assoc,show (k+1)*3=k*3+3 by omega,<- h,m]
theorem IP (base:Nat) (A:Option Addr) (n c:Nat) (l:List av) (x:av) (w:World) (v:w.ownsRow base 70 3 (.slice A n c) n (au aH l)) (B:l.length=n) (hn:n<=999) (H:cH av.name l) (af:base<=w.heap.size) :
 ψ 143 #[.slice A n c,.agg (aH x).toArray,.func (.func 132) #[] #[]] w (cQ aH base 70 3 A n c (jI av.name l x) w):=by
 have i:=sJ (x:=x) H;have xU:=wD (key:=av.name) l (av.name x);have al:=enters_of Tryz.func132 (by kernel_rfl) rfl;obtain⟨k,z⟩:∃ k,eW av.name l (av.name x)=k:=⟨_,rfl⟩;have P:Below w w (w.alloc (.cells (aH x).toArray 70)):=(θ).alloc lJ _;have N:Blk (w.alloc (.cells (aH x).toArray 70)) w 70 (aH x).toArray:=n5 w _;have u:=ω (fun W (O:Below w w W)=>gZ.2.1 (av.name x) l A n c W (cS (aF v O)) B (by omega) H);have T:=ω v;have j:=ω P;have C:=ω N;unfold kE at u;rw [z] at i xU;simp only [z] at u
 cases s:isL av.name l (av.name x) with
 | true=>
  rw [s] at i;simp only [s] at u;obtain⟨am,Q,ah⟩:=pH s;rw [z] at Q;have ag:k<n:=by have:=(List.getElem?_eq_some_iff.1 Q).1; omega
  obtain⟨g,aj,M,ak⟩:=v.form (by omega);injection M with M _ hc;subst M; subst hc;rw [if_pos rfl] at i;have HS:=ω (fun W O=>DW base g n c k l x w W v B ag O);rw [i];clear i P N s Q ah z B v xU H;obtain⟨a,b,d⟩:=x;have h:=ω (show Blk (χ w #[a,b,d] 70) w 70 #[a,b,d] from C.z);have J:ζ (χ w #[a,b,d] 70) w 0 (.string a):=h.cell 0;have K:ζ (χ w #[a,b,d] 70) w 1 (.int .i64 b):=h.cell 1;have L:ζ (χ w #[a,b,d] 70) w 2 (.string d):=h.cell 2
  show ψ 143 #[.slice (some ⟨g,0,none⟩) n c,.agg #[a,b,d],.func (.func 132) #[] #[]] w _
  have j:=ω (show Below w w (χ w #[a,b,d] 70) from j.z);clear C;go_enter Tryz.func143,Tryz.ntmps143
  go_wp2_with fail
  refine Calls.mono (ji a b d _) ?_;rintro D w2 ⟨rfl,q⟩;have p:=ω (j.trans (q.mono j.size));have m:=ω (h.below q h.lt);clear q J K L
  go_wp2_with fail
  refine Calls.mono (u.z _ p.z) ?_;rintro D e ⟨rfl,r⟩;have y:=ω (p.trans (r.mono p.size));have o:=ω (m.below r m.lt);clear r m;obtain⟨G,F,aa⟩:=HS.z e y.z;have V:ζ e w 0 (.string a):=o.cell 0;have X:ζ e w 1 (.int .i64 b):=o.cell 1;have Y:ζ e w 2 (.string d):=o.cell 2;have f0:=G (k*3);obtain⟨u0,p0⟩:=F (k*3) (by omega);have f1:=G (k*3+1);obtain⟨u1,p1⟩:=F (k*3+1) (by omega);have f2:=G (k*3+2);obtain⟨u2,p2⟩:=F (k*3+2) (by omega);have I:=ω aa;clear G F aa;go_wp2;go_ret;exact I
 | false=>
  rw [s] at i;simp only [s] at u;rw [if_neg (by decide)] at i;rw [i];have S:=ω B;clear i P N s z B v H;obtain⟨a,b,d⟩:=x;have h:=ω (show Blk (χ w #[a,b,d] 70) w 70 #[a,b,d] from C.z);have J:ζ (χ w #[a,b,d] 70) w 0 (.string a):=h.cell 0;have K:ζ (χ w #[a,b,d] 70) w 1 (.int .i64 b):=h.cell 1;have L:ζ (χ w #[a,b,d] 70) w 2 (.string d):=h.cell 2
  show ψ 143 #[.slice A n c,.agg #[a,b,d],.func (.func 132) #[] #[]] w _
  have j:=ω (show Below w w (χ w #[a,b,d] 70) from j.z);clear C;go_enter Tryz.func143,Tryz.ntmps143
  go_wp2_with fail
  refine Calls.mono (ji a b d _) ?_;rintro D w2 ⟨rfl,q⟩;have p:=ω (j.trans (q.mono j.size));have m:=ω (h.below q h.lt);clear q J K L
  go_wp2_with fail
  refine Calls.mono (u.z _ p.z) ?_;rintro D e ⟨rfl,r⟩;have y:=ω (p.trans (r.mono p.size));have o:=ω (m.below r m.lt);clear r m;have V:ζ e w 0 (.string a):=o.cell 0;have X:ζ e w 1 (.int .i64 b):=o.cell 1;have Y:ζ e w 2 (.string d):=o.cell 2;have E:Below w w (χ e #[a,b,d] 70):=y.alloc y.size _;have Z:Blk (χ e #[a,b,d] 70) e 70 (aH ⟨a,b,d⟩).toArray:=n5 e _;have HI:=ω (xV.2.1 base A n c e k l ⟨a,b,d⟩ (χ e #[a,b,d] 70) (aF T.z E) S.z (by omega) (by have:=S.z; omega) Z (fun ai hq=>by have:=(T.lt ai hq).2; have:=y.size; omega) (v6 af E.size));have ae:=ω E;clear E Z
  go_wp2_with fail
  refine HI.mono ?_;rintro D w5 ⟨R,ad,U,rfl,hm,ac,ab⟩;have I:=ω (show cQ aH base 70 3 A n c (l.take k ++ ⟨a,b,d⟩ :: l.drop k) w (.returned (.slice R ad U)) w5 from ⟨R,ad,U,rfl,hm,ac,cY.after ae.z ab⟩);clear hm ac ab V X Y;go_wp2;go_ret;exact I
theorem FN (base:Nat) (A:Option Addr) (n c:Nat) (l:List av) (s:ByteArray) (w:World) (h:w.ownsRow base 70 3 (.slice A n c) n (au aH l)) (j:l.length=n) (Q:n<=999) (o:cH av.name l) :
 ψ 147 #[.slice A n c,s,.func (.func 132) #[] #[]] w (wC aH base 70 3 A n c (l.filter fun I=>!decide (av.name I=s)) (isL av.name l s) w):=by
 have a:=Am (s:=s) o;obtain⟨k,i⟩:∃ k,eW av.name l s=k:=⟨_,rfl⟩;have d:=ω (gZ.2.1 s l A n c w (cS h) j (by omega) o);have H:=ω h;have G:=ω j;unfold kE at d;rw [i] at a;simp only [i] at d
 cases b:isL av.name l s with
 | true=>
  rw [b] at a;simp only [b] at d;obtain⟨S,r,L⟩:=pH b;rw [i] at r;have P:k<n:=by have:=(List.getElem?_eq_some_iff.1 r).1; omega
  obtain⟨g,N,q,O⟩:=h.form (by omega);injection q with q _ K;subst q; subst K;rw [if_pos rfl] at a;rw [a];obtain⟨m,rfl⟩:∃ m,n=m+1:=⟨n - 1,by omega⟩;have F:=ω (fun W (J:Below w w W)=>Ku base g m c k l W (aF h J) j (by omega) (by omega));have R:IntKind.i64.wrap ((k:Int)+1)=(k:Int)+1:=by rw [IntKind.wrap_i64]; omega
  clear a b r L i j h o;go_enter Tryz.func147,Tryz.ntmps147
  go_wp2_with fail
  refine d.mono ?_;rintro y E ⟨rfl,e⟩;have v:=ω e;clear e
  go_wp2_with fail
  refine Calls.mono (F.z _ v.z) ?_;rintro y M ⟨u,D,x,rfl,B,C,z⟩;have p:=ω (show wC aH base 70 3 (some ⟨g,0,none⟩) (m+1) c (l.take k ++ l.drop (k+1)) true w (.returned (.tuple #[.slice u D x,.bool true])) M from ⟨u,D,x,rfl,B,C,cY.after v.z z⟩);clear B C z;go_wp2;go_ret2;exact p
 | false=>
  rw [b] at a;simp only [b] at d;rw [if_neg (by decide)] at a;rw [a];clear a b i j h o;go_enter Tryz.func147,Tryz.ntmps147
  go_wp2_with fail
  refine d.mono ?_;rintro y E ⟨rfl,e⟩;have p:=ω (show wC aH base 70 3 A n c l false w (.returned (.tuple #[.slice A n c,.bool false])) E from ⟨A,n,c,rfl,G.symm,aF H.z e,cY.after e (cY.refl _ _)⟩);clear e;go_wp2;go_ret2;exact p
theorem IQ (base g m c k:Nat) (l:List ak) (w:World) (d:w.ownsRow base 66 3 (.slice (some ⟨g,0,none⟩) (m+1) c) (m+1) (au aB l)) (a:l.length=m+1) (b:m+1<=1000) (e:k<=m) :
 ψ 189 #[.slice (some ⟨g,0,none⟩) (m+1) c,k,.int .i64 ((k:Int)+1)] w (cQ aB base 66 3 (some ⟨g,0,none⟩) (m+1) c (l.take k ++ l.drop (k+1)) w):=by
 by_cases h:k=m
 · subst h; exact vv.2.2 base g k c l w d a b
 · exact vg.2.2 base g m c k l w d a b (by omega)
theorem wF (base g n c k:Nat) (l:List ak) (x:ak) (w W:World) (r:w.ownsRow base 66 3 (.slice (some ⟨g,0,none⟩) n c) n (au aB l)) (p:l.length=n) (z:k<n) (i:Below w w W) :
 (∀ j,κ W g j)/\(∀ j,j<n*3->∃ u,ζ W g j u)/\cQ aB base 66 3 (some ⟨g,0,none⟩) n c (l.take k ++ x :: l.drop (k+1)) w (.returned (.slice (some ⟨g,0,none⟩) n c)) (sX (sX (sX W g (k*3) (.string x.job)) g (k*3+1) (.string x.node)) g (k*3+2) (.int .i64 x.till)):=by
 obtain⟨d,e,q,v⟩:=eX.of (aF r i);have f:d.toList.length=c*3:=by rw [Array.length_toList,e.size]
 have o:=(((e.setCell (k*3) (.string x.job)).setCell (k*3+1) (.string x.node)).setCell (k*3+2) (.int .i64 x.till))
 have m:(((d.setIfInBounds (k*3) (.string x.job)).setIfInBounds (k*3+1) (.string x.node)).setIfInBounds (k*3+2) (.int .i64 x.till)).toList=d.toList.take (k*3) ++ aB x ++ d.toList.drop (k*3+3):=by
  have h:=tX (aB x) d.toList (k*3) (by rw [aI,f]; omega);rw [aI] at h;rw [<- h];simp only [Array.toList_setIfInBounds];rfl
 refine⟨e.thaw,fun j y=>⟨_,e.cell (gO (by rw [f]; omega))⟩,_,n,c,rfl,by rw [List.length_append,List.length_cons,List.length_take,List.length_drop,p]; omega,o.own q ?_,cY.after i ((((eL g (k*3) n n c c (.string x.job)).trans (eL g (k*3+1) n n c c (.string x.node))).trans (eL g (k*3+2) n n c c (.int .i64 x.till))))⟩;have h:=xT (L:=d.toList) (X:=aB x) (R:=au aB l) (a:=k*3) (b:=n*3) (s:=3) (by omega) (by rw [f]; omega) (aI x) v;rw [dw,show au aB (x :: l.drop (k+1))=aB x ++ au aB (l.drop (k+1)) from rfl,<- eA aI,<- fB aI,<- List.append_assoc,show (k+1)*3=k*3+3 by omega,<- h,m]
theorem FO (base:Nat) (A:Option Addr) (n c:Nat) (l:List ak) (x:ak) (w:World) (s:w.ownsRow base 66 3 (.slice A n c) n (au aB l)) (y:l.length=n) (hn:n<=999) (F:cH ak.job l) (ad:base<=w.heap.size) :
 ψ 188 #[.slice A n c,.agg (aB x).toArray,.func (.func 135) #[] #[]] w (cQ aB base 66 3 A n c (jI ak.job l x) w):=by
 have e:=sJ (x:=x) F;have xU:=wD (key:=ak.job) l (ak.job x);have aj:=enters_of Tryz.func135 (by kernel_rfl) rfl;obtain⟨k,v⟩:∃ k,eW ak.job l (ak.job x)=k:=⟨_,rfl⟩;have N:Below w w (w.alloc (.cells (aB x).toArray 66)):=(θ).alloc lJ _;have L:Blk (w.alloc (.cells (aB x).toArray 66)) w 66 (aB x).toArray:=n5 w _;have r:=ω (fun W (M:Below w w W)=>gZ.2.2 (ak.job x) l A n c W (cS (aF s M)) y (by omega) F);have R:=ω s;have h:=ω N;have z:=ω L;unfold kE at r;rw [v] at e xU;simp only [v] at r
 cases q:isL ak.job l (ak.job x) with
 | true=>
  rw [q] at e;simp only [q] at r;obtain⟨al,O,af⟩:=pH q;rw [v] at O;have ae:k<n:=by have:=(List.getElem?_eq_some_iff.1 O).1; omega
  obtain⟨g,ah,K,ai⟩:=s.form (by omega);injection K with K _ hc;subst K; subst hc;rw [if_pos rfl] at e;have HS:=ω (fun W M=>wF base g n c k l x w W s y ae M);rw [e];clear e N L q O af v y s xU F;obtain⟨job,node,a⟩:=x;have d:=ω (show Blk (χ w #[job,node,a] 66) w 66 #[job,node,a] from z.z);have H:ζ (χ w #[job,node,a] 66) w 0 (.string job):=d.cell 0;have I:ζ (χ w #[job,node,a] 66) w 1 (.string node):=d.cell 1;have J:ζ (χ w #[job,node,a] 66) w 2 (.int .i64 a):=d.cell 2
  show ψ 188 #[.slice (some ⟨g,0,none⟩) n c,.agg #[job,node,a],.func (.func 135) #[] #[]] w _
  have h:=ω (show Below w w (χ w #[job,node,a] 66) from h.z);clear z;go_enter Tryz.func188,Tryz.ntmps188
  go_wp2_with fail
  refine Calls.mono (fG job node a _) ?_;rintro B w2 ⟨rfl,o⟩;have m:=ω (h.trans (o.mono h.size));have i:=ω (d.below o d.lt);clear o H I J
  go_wp2_with fail
  refine Calls.mono (r.z _ m.z) ?_;rintro B b ⟨rfl,p⟩;have u:=ω (m.trans (p.mono m.size));have j:=ω (i.below p i.lt);clear p i;obtain⟨E,D,Y⟩:=HS.z b u.z;have T:ζ b w 0 (.string job):=j.cell 0;have U:ζ b w 1 (.string node):=j.cell 1;have V:ζ b w 2 (.int .i64 a):=j.cell 2;have f0:=E (k*3);obtain⟨u0,p0⟩:=D (k*3) (by omega);have f1:=E (k*3+1);obtain⟨u1,p1⟩:=D (k*3+1) (by omega);have f2:=E (k*3+2);obtain⟨u2,p2⟩:=D (k*3+2) (by omega);have G:=ω Y;clear E D Y;go_wp2;go_ret;exact G
 | false=>
  rw [q] at e;simp only [q] at r;rw [if_neg (by decide)] at e;rw [e];have Q:=ω y;clear e N L q v y s F;obtain⟨job,node,a⟩:=x;have d:=ω (show Blk (χ w #[job,node,a] 66) w 66 #[job,node,a] from z.z);have H:ζ (χ w #[job,node,a] 66) w 0 (.string job):=d.cell 0;have I:ζ (χ w #[job,node,a] 66) w 1 (.string node):=d.cell 1;have J:ζ (χ w #[job,node,a] 66) w 2 (.int .i64 a):=d.cell 2
  show ψ 188 #[.slice A n c,.agg #[job,node,a],.func (.func 135) #[] #[]] w _
  have h:=ω (show Below w w (χ w #[job,node,a] 66) from h.z);clear z;go_enter Tryz.func188,Tryz.ntmps188
  go_wp2_with fail
  refine Calls.mono (fG job node a _) ?_;rintro B w2 ⟨rfl,o⟩;have m:=ω (h.trans (o.mono h.size));have i:=ω (d.below o d.lt);clear o H I J
  go_wp2_with fail
  refine Calls.mono (r.z _ m.z) ?_;rintro B b ⟨rfl,p⟩;have u:=ω (m.trans (p.mono m.size));have j:=ω (i.below p i.lt);clear p i;have T:ζ b w 0 (.string job):=j.cell 0;have U:ζ b w 1 (.string node):=j.cell 1;have V:ζ b w 2 (.int .i64 a):=j.cell 2;have C:Below w w (χ b #[job,node,a] 66):=u.alloc u.size _;have X:Blk (χ b #[job,node,a] 66) b 66 (aB ⟨job,node,a⟩).toArray:=n5 b _;have HI:=ω (xV.2.2 base A n c b k l ⟨job,node,a⟩ (χ b #[job,node,a] 66) (aF R.z C) Q.z (by omega) (by have:=Q.z; omega) X (fun ag hq=>by have:=(R.lt ag hq).2; have:=u.size; omega) (v6 ad C.size));have ac:=ω C;clear C X
  go_wp2_with fail
  refine HI.mono ?_;rintro B w5 ⟨P,ab,S,rfl,hm,aa,Z⟩;have G:=ω (show cQ aB base 66 3 A n c (l.take k ++ ⟨job,node,a⟩ :: l.drop k) w (.returned (.slice P ab S)) w5 from ⟨P,ab,S,rfl,hm,aa,cY.after ac.z Z⟩);clear hm aa Z T U V;go_wp2;go_ret;exact G
theorem DX (base:Nat) (A:Option Addr) (n c:Nat) (l:List ak) (s:ByteArray) (w:World) (h:w.ownsRow base 66 3 (.slice A n c) n (au aB l)) (j:l.length=n) (Q:n<=999) (o:cH ak.job l) :
 ψ 150 #[.slice A n c,s,.func (.func 135) #[] #[]] w (wC aB base 66 3 A n c (l.filter fun I=>!decide (ak.job I=s)) (isL ak.job l s) w):=by
 have a:=Am (s:=s) o;obtain⟨k,i⟩:∃ k,eW ak.job l s=k:=⟨_,rfl⟩;have d:=ω (gZ.2.2 s l A n c w (cS h) j (by omega) o);have H:=ω h;have G:=ω j;unfold kE at d;rw [i] at a;simp only [i] at d
 cases b:isL ak.job l s with
 | true=>
  rw [b] at a;simp only [b] at d;obtain⟨S,r,L⟩:=pH b;rw [i] at r;have P:k<n:=by have:=(List.getElem?_eq_some_iff.1 r).1; omega
  obtain⟨g,N,q,O⟩:=h.form (by omega);injection q with q _ K;subst q; subst K;rw [if_pos rfl] at a;rw [a];obtain⟨m,rfl⟩:∃ m,n=m+1:=⟨n - 1,by omega⟩;have F:=ω (fun W (J:Below w w W)=>IQ base g m c k l W (aF h J) j (by omega) (by omega));have R:IntKind.i64.wrap ((k:Int)+1)=(k:Int)+1:=by rw [IntKind.wrap_i64]; omega
  clear a b r L i j h o;go_enter Tryz.func150,Tryz.ntmps150
  go_wp2_with fail
  refine d.mono ?_;rintro y E ⟨rfl,e⟩;have v:=ω e;clear e
  go_wp2_with fail
  refine Calls.mono (F.z _ v.z) ?_;rintro y M ⟨u,D,x,rfl,B,C,z⟩;have p:=ω (show wC aB base 66 3 (some ⟨g,0,none⟩) (m+1) c (l.take k ++ l.drop (k+1)) true w (.returned (.tuple #[.slice u D x,.bool true])) M from ⟨u,D,x,rfl,B,C,cY.after v.z z⟩);clear B C z;go_wp2;go_ret2;exact p
 | false=>
  rw [b] at a;simp only [b] at d;rw [if_neg (by decide)] at a;rw [a];clear a b i j h o;go_enter Tryz.func150,Tryz.ntmps150
  go_wp2_with fail
  refine d.mono ?_;rintro y E ⟨rfl,e⟩;have p:=ω (show wC aB base 66 3 A n c l false w (.returned (.tuple #[.slice A n c,.bool false])) E from ⟨A,n,c,rfl,G.symm,aF H.z e,cY.after e (cY.refl _ _)⟩);clear e;go_wp2;go_ret2;exact p
end Go.Proofs.YtimglglgcgpjgaaGreatDoor
