/- Of the proof of a statement: RPut. -/
import Derived.Test.YtimglglgcgpjgaaGreatDoorQRBetween
set_option linter.unusedVariables false
set_option linter.unusedSimpArgs false
set_option maxRecDepth 100000
set_option maxHeartbeats 8000000
namespace Go.Proofs.YtimglglgcgpjgaaGreatDoor
open Go.RowKit
theorem Blk.LT {a b:World} {g:Nat} {t:TypeId} {cs:Array Value} {v v':Value} (h:Blk a g t cs) (c:cY a b v v') (d:v.ownBlock≠some g):Blk b g t cs:=(c.grown.block g h.lt (fun e=>d e.symm)).trans h
theorem Dh {α:Type} {key:α->ByteArray} {x y:α} {d B E:Bool} {l:List α} {k:Nat} (h:l[k]? = some y) (b:dU (key y) (key x)=B) (a:((key y).toList == (key x).toList)=E) :
 bR key x d (l.drop k)=(if !d && !B then [x] else []) ++ (if E then [] else [y]) ++ bR key x (d || !B) (l.drop (k+1)):=by
 rw [drop_cons h,bR,b]
 congr 2
 by_cases e:key y=key x
 · rw [if_neg (by simp [e])];rw [e,beq_self_eq_true] at a;subst a; rfl
 · rw [if_pos e]
   have:((key y).toList == (key x).toList)=false:=by
    rw [beq_eq_false_iff_ne];exact fun h=>e (rX h)
   rw [this] at a;subst a; rfl
theorem lX {α:Type} (key:α->ByteArray) (x:α):∀ (l:List α) (d:Bool),(bR key x d l).length<=l.length+(if d then 0 else 1)
 | [],d=>by cases d <;> simp [bR]
 | y :: l,d=>by
  have b:=lX key x l (d || !dU (key y) (key x));rw [bR,List.length_append,List.length_append,List.length_cons];cases d <;> cases a:dU (key y) (key x) <;> simp [a] at b |- <;> split <;> simp <;> omega
def DU {α:Type} (T:TypeId) (sz:Nat) (enc:α->List Value) (l:List α) (w:World) (e:Ending) (w':World):Prop:=
 ∃ A c,e = .returned (.slice A l.length c)/\w'.ownsRow w T sz (.slice A l.length c) l.length (au enc l)/\Below w w w'
theorem xg (name:ByteArray) (prio:Int) (need:Int) (tries:Int) (tag:ByteArray) (w:World):ψ 99 #[.agg #[name,prio,need,tries,tag]] w fun e b=>e = .returned (.string name)/\Below w w b:=by
 have a:=ω ((Below.refl w w).alloc lJ (.cells #[name,prio,need,tries,tag] 85));go_enter Tryz.func99,Tryz.ntmps99;go_wp2;go_ret;exact⟨rfl,a⟩
theorem uw (name:ByteArray) (room:Int) (zone:ByteArray) (w:World):ψ 101 #[.agg #[name,room,zone]] w fun e b=>e = .returned (.string name)/\Below w w b:=by
 have a:=ω ((Below.refl w w).alloc lJ (.cells #[name,room,zone] 70));go_enter Tryz.func101,Tryz.ntmps101;go_wp2;go_ret;exact⟨rfl,a⟩
theorem rQ (job:ByteArray) (node:ByteArray) (till:Int) (w:World):ψ 110 #[.agg #[job,node,till]] w fun e b=>e = .returned (.string job)/\Below w w b:=by
 have a:=ω ((Below.refl w w).alloc lJ (.cells #[job,node,till] 66));go_enter Tryz.func110,Tryz.ntmps110;go_wp2;go_ret;exact⟨rfl,a⟩
def vM (a:Type) (d:Nat) (b:a->List Value) (e:FuncId) (f:FuncId) (g:TypeId) (h:a->ByteArray):Prop:=
 ∀ (x:a) (xs:List a) (A:Option Addr) (n c:Nat) (w:World) (k:bC w w d A n (au b xs)) (i:xs.length=n) (j:n<=1000),ψ e #[.slice A n c,.agg (b x).toArray,.func (.func f) #[] #[]] w (DU g d b (jI h xs x) w)
theorem ru:vM aC 5 aS 98 99 85 aC.name/\vM av 3 aH 100 101 70 av.name/\vM ak 3 aB 109 110 66 ak.job:=by
 refine⟨@fun am N A ag c w hx hl hn=>(fun(L:Unit)=>?_) (),@fun am N A ag c w hx hl hn=>(fun(S az:Unit)=>?_) () (),@fun am N A ag c w hx hl hn=>(fun(W az:Unit)=>?_) () ()⟩<;>(
 first|(guard_hyp L;have a4:Tg 19:=⟨⟩;have a5:=@aT)|(guard_hyp S;have a4:Tg 21:=⟨⟩;have a5:=@aO)|(have a4:Tg 23:=⟨⟩;have a5:=@aI)
 first|(guard_hyp L;obtain⟨P,hP⟩:∃ P,jI aC.name N am=P:=⟨_,rfl⟩)|(guard_hyp S;obtain⟨P,hP⟩:∃ P,jI av.name N am=P:=⟨_,rfl⟩)|obtain⟨P,hP⟩:∃ P,jI ak.job N am=P:=⟨_,rfl⟩
 have a7:=ω (show [] ++ bR a4 am false (N.drop 0)=P from hP);have aJ:=ω (show P.length<=ag+1 from by rw [<- hP,<- hl]; exact lX _ _ _ _);rw [hP];clear hP
 first
  |(
   guard_hyp L
   obtain⟨j,Q,R,O,T⟩:=am;rw [show (Value.agg (aS ⟨j,Q,R,O,T⟩).toArray) = .agg #[j,Q,R,O,T] from rfl];obtain⟨W0,al⟩:∃ W0,w.alloc (.cells #[j,Q,R,O,T] 85)=W0:=⟨_,rfl⟩;have a0:=ω (show Blk W0 w 85 #[j,Q,R,O,T] from by rw [<- al]; exact n5 w _))
  |(
   guard_hyp S
   obtain⟨j,v,x⟩:=am;rw [show (Value.agg (aH ⟨j,v,x⟩).toArray) = .agg #[j,v,x] from rfl];obtain⟨W0,al⟩:∃ W0,w.alloc (.cells #[j,v,x] 70)=W0:=⟨_,rfl⟩;have a0:=ω (show Blk W0 w 70 #[j,v,x] from by rw [<- al]; exact n5 w _))
  |(
   guard_hyp W
   obtain⟨s,z,C⟩:=am;rw [show (Value.agg (aB ⟨s,z,C⟩).toArray) = .agg #[s,z,C] from rfl];obtain⟨W0,al⟩:∃ W0,w.alloc (.cells #[s,z,C] 66)=W0:=⟨_,rfl⟩;have a0:=ω (show Blk W0 w 66 #[s,z,C] from by rw [<- al]; exact n5 w _))
 have a6:=ω (show Below w w W0 from by rw [<- al]; exact (θ).alloc lJ _);have aE:W0.heap.size=w.heap.size+1:=by rw [<- al]; simp
 have a8:=ω al;have Hl:=ω hl;have Hx:=ω hx;clear al hl hx
 first|(guard_hyp L;go_enter Tryz.func98,Tryz.ntmps98)|(guard_hyp S;go_enter Tryz.func100,Tryz.ntmps100)|go_enter Tryz.func109,Tryz.ntmps109
 go_wp2;rw [a8.z]
 first
  |(
   guard_hyp L
   go_loopw [7,8,13] (fun out done ah wr=>∃ (k:Nat) (A:Option Addr) (c:Nat) (l:List aC) (d:Bool),k<=ag/\ah = .int .i64 k/\out = .slice A l.length c/\done = .bool d/\l ++ bR aC.name ⟨j,Q,R,O,T⟩ d (N.drop k)=P/\l.length<=2*k/\Blk wr w 85 #[j,Q,R,O,T]/\Below w w wr/\wr.ownsRow (w.heap.size+1) 85 5 (.slice A l.length c) l.length (au aS l)) (fun _ _ ah _=>ag - (intOf ah).toNat))
  |(
   guard_hyp S
   go_loopw [7,8,13] (fun out done ah wr=>∃ (k:Nat) (A:Option Addr) (c:Nat) (l:List av) (d:Bool),k<=ag/\ah = .int .i64 k/\out = .slice A l.length c/\done = .bool d/\l ++ bR av.name ⟨j,v,x⟩ d (N.drop k)=P/\l.length<=2*k/\Blk wr w 70 #[j,v,x]/\Below w w wr/\wr.ownsRow (w.heap.size+1) 70 3 (.slice A l.length c) l.length (au aH l)) (fun _ _ ah _=>ag - (intOf ah).toNat))
  |(
   guard_hyp W
   go_loopw [7,8,13] (fun out done ah wr=>∃ (k:Nat) (A:Option Addr) (c:Nat) (l:List ak) (d:Bool),k<=ag/\ah = .int .i64 k/\out = .slice A l.length c/\done = .bool d/\l ++ bR ak.job ⟨s,z,C⟩ d (N.drop k)=P/\l.length<=2*k/\Blk wr w 66 #[s,z,C]/\Below w w wr/\wr.ownsRow (w.heap.size+1) 66 3 (.slice A l.length c) l.length (au aB l)) (fun _ _ ah _=>ag - (intOf ah).toNat))
 case atStart=>exact⟨0,none,0,[],false,Nat.zero_le _,rfl,rfl,rfl,a7,lJ,a0,a6,World.ownsRow_nil _ _ _ _⟩
 case round=>
  clear a7 a0 a6 a8 aE;obtain⟨k,A',c',l,d,hk,rfl,rfl,rfl,hp,aM,hX,hb,ho⟩:=hrel;have K:=ω hp;have h:=ω hX;have m:=ω hb;have i:=ω ho;have a2:=hb.size;have aG:=hX.lt;clear hp hX hb ho;by_cases hlt:k<ag
  · obtain⟨y,hf⟩:∃ y,N[k]? = some y:=⟨_,gO (by have:=Hl.z; omega)⟩;obtain⟨bb,aN,aD,aK,hc⟩:=(Hx.below m.z).eC a5 Hl.z hf;subst aD
    first
     |(
      guard_hyp L
      obtain⟨b1,ax⟩:∃ b,dU (aC.name y) (aC.name (⟨j,Q,R,O,T⟩:aC))=b:=⟨_,rfl⟩;obtain⟨b2,ay⟩:∃ b,((aC.name y).toList == (aC.name (⟨j,Q,R,O,T⟩:aC)).toList)=b:=⟨_,rfl⟩)
     |(
      guard_hyp S
      obtain⟨b1,ax⟩:∃ b,dU (av.name y) (av.name (⟨j,v,x⟩:av))=b:=⟨_,rfl⟩;obtain⟨b2,ay⟩:∃ b,((av.name y).toList == (av.name (⟨j,v,x⟩:av)).toList)=b:=⟨_,rfl⟩)
     |(
      guard_hyp W
      obtain⟨b1,ax⟩:∃ b,dU (ak.job y) (ak.job (⟨s,z,C⟩:ak))=b:=⟨_,rfl⟩;obtain⟨b2,ay⟩:∃ b,((ak.job y).toList == (ak.job (⟨s,z,C⟩:ak)).toList)=b:=⟨_,rfl⟩)
    have o:=ω (fun d=>Dh (d:=d) hf ax ay)
    first
     |(
      guard_hyp L
      obtain⟨r,gM,gN,eI,mo⟩:=y)
     |(
      guard_hyp S
      obtain⟨r,dX,dY⟩:=y)
     |(
      guard_hyp W
      obtain⟨X,dZ,eu⟩:=y)
    first|(guard_hyp W;have af:=ω (show Op.bytesLess X.toList s.toList=b1 from ax))|have af:=ω (show Op.bytesLess r.toList j.toList=b1 from ax)
    first|(guard_hyp W;have ac:=ω (show (X.toList == s.toList)=b2 from ay))|have ac:=ω (show (r.toList == j.toList)=b2 from ay)
    clear ax ay
    first
     |(
      guard_hyp L
      obtain⟨e0,e1,e2,e3,e4⟩:=rc5 hc)
     |(
      guard_hyp az
      obtain⟨e0,e1,e2⟩:=rc3 hc)
    have aL:bb<wr.heap.size:=by omega
    first
     |(
      guard_hyp L
      obtain⟨p,ar⟩:∃ p,wr.alloc (.cells #[r,gM,gN,eI,mo] 85)=p:=⟨_,rfl⟩)
     |(
      guard_hyp S
      obtain⟨p,ar⟩:∃ p,wr.alloc (.cells #[r,dX,dY] 70)=p:=⟨_,rfl⟩)
     |(
      guard_hyp W
      obtain⟨p,ar⟩:∃ p,wr.alloc (.cells #[X,dZ,eu] 66)=p:=⟨_,rfl⟩)
    have a1:Below wr wr p:=by rw [<- ar]; exact (θ).alloc lJ _
    first
     |(
      guard_hyp L
      have g:=ω (show Blk p wr 85 #[r,gM,gN,eI,mo] from by rw [<- ar]; exact n5 wr _))
     |(
      guard_hyp S
      have g:=ω (show Blk p wr 70 #[r,dX,dY] from by rw [<- ar]; exact n5 wr _))
     |(
      guard_hyp W
      have g:=ω (show Blk p wr 66 #[X,dZ,eu] from by rw [<- ar]; exact n5 wr _))
    have h:=ω (h.below a1 aG);have Hn:=ω (show ∀ q,(Value.slice A' l.length c').ownBlock=some q->w.heap.size+1<=q/\q<wr.heap.size from fun q e=>⟨(i.lt q e).1,(i.lt q e).2⟩);have i:=ω (aF i.z a1);have m:=ω (m.trans (a1.mono a2));have a9:=ω ar;have aj:=g.lt;clear hc hf a1 ar;cases d
    · go_wp2_with fail
      rw [a9.z]
      first
       |(
        guard_hyp L
        obtain⟨D,E,F,x3,x4⟩:=Blk.r5 (h.z);obtain⟨G,H,I,y3,y4⟩:=Blk.r5 (g.z))
       |(
        guard_hyp S
        have D:=fun d a=>cell_regrown (show ζ p w 0 (.string j) from h.cell 0) d a;have E:=fun d a=>cell_regrown (show ζ p w 1 (.int .i64 v) from h.cell 1) d a;have F:=fun d a=>cell_regrown (show ζ p w 2 (.string x) from h.cell 2) d a;have G:=fun d a=>cell_regrown (show ζ p wr 0 (.string r) from g.cell 0) d a;have H:=fun d a=>cell_regrown (show ζ p wr 1 (.int .i64 dX) from g.cell 1) d a;have I:=fun d a=>cell_regrown (show ζ p wr 2 (.string dY) from g.cell 2) d a)
       |(
        guard_hyp W
        have D:=fun d a=>cell_regrown (show ζ p w 0 (.string s) from h.cell 0) d a;have E:=fun d a=>cell_regrown (show ζ p w 1 (.string z) from h.cell 1) d a;have F:=fun d a=>cell_regrown (show ζ p w 2 (.int .i64 C) from h.cell 2) d a;have G:=fun d a=>cell_regrown (show ζ p wr 0 (.string X) from g.cell 0) d a;have H:=fun d a=>cell_regrown (show ζ p wr 1 (.string dZ) from g.cell 1) d a;have I:=fun d a=>cell_regrown (show ζ p wr 2 (.int .i64 eu) from g.cell 2) d a)
      refine wp_region_quiet_below (by kernel_rfl) (by kernel_rfl) ?_
      first
       |(
        guard_hyp L
        repeat (go_big_quiet_step ((go_at_call 99; exact Calls.regrown_of (xg _ _ _ _ _ _)))))
       |(
        guard_hyp S
        repeat (go_big_quiet_step ((go_at_call 101; exact Calls.regrown_of (uw _ _ _ _)))))
       |(
        guard_hyp W
        repeat (go_big_quiet_step ((go_at_call 110; exact Calls.regrown_of (rQ _ _ _ _)))))
      refine wpQuiet_nil ?_;intro _ ae;obtain⟨⟨nq,osq⟩,hw''⟩:=ae;subst hw'';have e:=below_regrown p nq osq
      first
       |(
        guard_hyp L
        clear D G E H F I x3 y3 x4 y4)
       |(
        guard_hyp az
        clear D G E H F I)
      dsimp only;generalize Sort.grow (redrawn p nq) osq=u at e |-;have h:=ω (h.below e h.lt);have g:=ω (g.below e g.lt);have i:=ω (aF i.z e);have m:=ω (m.trans (e.mono m.size));have aj:=g.lt;have mq:=m.size;clear e;rw [af.z];cases b1
      first
       |(
        guard_hyp L
        · have aA:(l ++ [(⟨j,Q,R,O,T⟩:aC)]).length=l.length+1:=by simp
          obtain⟨D,E,F,x3,x4⟩:=Blk.c5 (h.z)
          go_wp2_with (at_builtin; refine cI aS rfl _ _ 22 85 (.agg #[.string ⟨#[]⟩,(0:Int),(0:Int),(0:Int),.string ⟨#[]⟩]) 5 56 rfl Tryz.underlying22 mI rfl (by decide) aT kV (w.heap.size+1) _ _ _ l rfl i.z _ ⟨j,Q,R,O,T⟩ rfl _ (by simp) rfl (by omega) (by unfold maxLen; omega) (by omega) ?_; intro A2 c2 Y ad aa; have U:=ω (h.grew aa (fun q e=>by have:=(Hn.z q e).1; omega)); have ap:=ω (g.LT aa (fun e=>by have:=(Hn.z _ e).2; omega)); have J:=ω (m.trans (aa.below (B:=w.heap.size) mq (fun q e=>by have:=(Hn.z q e).1; omega))); have ao:=ω ad; clear D E F x3 x4 h g m i ad)
          have h:=U;have g:=ap;have m:=J;have i:=ao;clear U ap J ao aa;have aj:=g.lt;obtain⟨D,E,F,x3,x4⟩:=Blk.r5 (h.z);obtain⟨G,H,I,y3,y4⟩:=Blk.r5 (g.z);refine wp_region_quiet_below (by kernel_rfl) (by kernel_rfl) ?_
          repeat (go_big_quiet_step ((go_at_call 99; exact Calls.regrown_of (xg _ _ _ _ _ _))))
          refine wpQuiet_nil ?_;intro _ ae;obtain⟨⟨nq,osq⟩,hw''⟩:=ae;subst hw'';have e:=below_regrown Y nq osq;clear D G E H F I x3 y3 x4 y4;dsimp only;generalize Sort.grow (redrawn Y nq) osq=Z at e |-;have h:=ω (h.below e h.lt);have g:=ω (g.below e g.lt);have i:=ω (aF i.z e);have m:=ω (m.trans (e.mono m.size));have aj:=g.lt;have mq:=m.size;clear e;rw [ac.z];cases b2
          · have o:=ω (o.z false);have M:=ω (show ((l ++ [(⟨j,Q,R,O,T⟩:aC)]) ++ [(⟨r,gM,gN,eI,mo⟩:aC)]) ++ bR aC.name ⟨j,Q,R,O,T⟩ true (N.drop (k+1))=P from by rw [<- K.z,o.z]; simp);have n:((l ++ [(⟨j,Q,R,O,T⟩:aC)]) ++ [(⟨r,gM,gN,eI,mo⟩:aC)]).length=(l.length+1)+1:=by simp
            clear o K af ac;obtain⟨G,H,I,y3,y4⟩:=Blk.c5 (g.z)
            go_wp2_with (at_builtin; refine cI aS rfl _ _ 22 85 (.agg #[.string ⟨#[]⟩,(0:Int),(0:Int),(0:Int),.string ⟨#[]⟩]) 5 56 rfl Tryz.underlying22 mI rfl (by decide) aT kV (w.heap.size+1) _ _ _ (l ++ [(⟨j,Q,R,O,T⟩:aC)]) rfl i.z _ ⟨r,gM,gN,eI,mo⟩ rfl _ (by simp) rfl (by omega) (by unfold maxLen; omega) (by omega) ?_; intro A3 c3 aq ab V; have U:=ω (h.grew V (fun q e=>by have:=(i.lt q e).1; omega)); have J:=ω (m.trans (V.below (B:=w.heap.size) mq (fun q e=>by have:=(i.lt q e).1; omega))))
            go_roundw
            case rel=>exact⟨k+1,A3,c3,(l ++ [(⟨j,Q,R,O,T⟩:aC)]) ++ [(⟨r,gM,gN,eI,mo⟩:aC)],true,by omega,by go_num,by rw [n],rfl,M.z,by omega,U.z,J.z,by rw [n]; exact ab⟩
            case measure=>simp [intOf]; omega
          · have o:=ω (o.z false);have M:=ω (show ((l ++ [(⟨j,Q,R,O,T⟩:aC)])) ++ bR aC.name ⟨j,Q,R,O,T⟩ true (N.drop (k+1))=P from by rw [<- K.z,o.z]; simp);have n:((l ++ [(⟨j,Q,R,O,T⟩:aC)])).length=(l.length+1):=by simp
            clear o K af ac;go_wp2
            go_roundw
            case rel=>exact⟨k+1,A2,c2,(l ++ [(⟨j,Q,R,O,T⟩:aC)]),true,by omega,by go_num,by rw [n],rfl,M.z,by omega,h.z,m.z,by rw [n]; exact i.z⟩
            case measure=>simp [intOf]; omega)
       |(
        guard_hyp S
        · have aA:(l ++ [(⟨j,v,x⟩:av)]).length=l.length+1:=by simp
          have D:ζ u w 0 (.string j):=h.cell 0;have E:ζ u w 1 (.int .i64 v):=h.cell 1;have F:ζ u w 2 (.string x):=h.cell 2
          go_wp2_with (at_builtin; refine cI aH rfl _ _ 23 70 (.agg #[.string ⟨#[]⟩,(0:Int),.string ⟨#[]⟩]) 3 40 rfl Tryz.underlying23 kW rfl (by decide) aO jA (w.heap.size+1) _ _ _ l rfl i.z _ ⟨j,v,x⟩ rfl _ (by simp) rfl (by omega) (by unfold maxLen; omega) (by omega) ?_; intro A2 c2 Y ad aa; have U:=ω (h.grew aa (fun q e=>by have:=(Hn.z q e).1; omega)); have ap:=ω (g.LT aa (fun e=>by have:=(Hn.z _ e).2; omega)); have J:=ω (m.trans (aa.below (B:=w.heap.size) mq (fun q e=>by have:=(Hn.z q e).1; omega))); have ao:=ω ad; clear D E F h g m i ad)
          have h:=U;have g:=ap;have m:=J;have i:=ao;clear U ap J ao aa;have aj:=g.lt;have D:=fun d a=>cell_regrown (show ζ Y w 0 (.string j) from h.cell 0) d a;have E:=fun d a=>cell_regrown (show ζ Y w 1 (.int .i64 v) from h.cell 1) d a;have F:=fun d a=>cell_regrown (show ζ Y w 2 (.string x) from h.cell 2) d a;have G:=fun d a=>cell_regrown (show ζ Y wr 0 (.string r) from g.cell 0) d a;have H:=fun d a=>cell_regrown (show ζ Y wr 1 (.int .i64 dX) from g.cell 1) d a;have I:=fun d a=>cell_regrown (show ζ Y wr 2 (.string dY) from g.cell 2) d a;refine wp_region_quiet_below (by kernel_rfl) (by kernel_rfl) ?_
          repeat (go_big_quiet_step ((go_at_call 101; exact Calls.regrown_of (uw _ _ _ _))))
          refine wpQuiet_nil ?_;intro _ ae;obtain⟨⟨nq,osq⟩,hw''⟩:=ae;subst hw'';have e:=below_regrown Y nq osq;clear D G E H F I;dsimp only;generalize Sort.grow (redrawn Y nq) osq=Z at e |-;have h:=ω (h.below e h.lt);have g:=ω (g.below e g.lt);have i:=ω (aF i.z e);have m:=ω (m.trans (e.mono m.size));have aj:=g.lt;have mq:=m.size;clear e;rw [ac.z];cases b2
          · have o:=ω (o.z false);have M:=ω (show ((l ++ [(⟨j,v,x⟩:av)]) ++ [(⟨r,dX,dY⟩:av)]) ++ bR av.name ⟨j,v,x⟩ true (N.drop (k+1))=P from by rw [<- K.z,o.z]; simp);have n:((l ++ [(⟨j,v,x⟩:av)]) ++ [(⟨r,dX,dY⟩:av)]).length=(l.length+1)+1:=by simp
            clear o K af ac;have G:ζ Z wr 0 (.string r):=g.cell 0;have H:ζ Z wr 1 (.int .i64 dX):=g.cell 1;have I:ζ Z wr 2 (.string dY):=g.cell 2
            go_wp2_with (at_builtin; refine cI aH rfl _ _ 23 70 (.agg #[.string ⟨#[]⟩,(0:Int),.string ⟨#[]⟩]) 3 40 rfl Tryz.underlying23 kW rfl (by decide) aO jA (w.heap.size+1) _ _ _ (l ++ [(⟨j,v,x⟩:av)]) rfl i.z _ ⟨r,dX,dY⟩ rfl _ (by simp) rfl (by omega) (by unfold maxLen; omega) (by omega) ?_; intro A3 c3 aq ab V; have U:=ω (h.grew V (fun q e=>by have:=(i.lt q e).1; omega)); have J:=ω (m.trans (V.below (B:=w.heap.size) mq (fun q e=>by have:=(i.lt q e).1; omega))))
            go_roundw
            case rel=>exact⟨k+1,A3,c3,(l ++ [(⟨j,v,x⟩:av)]) ++ [(⟨r,dX,dY⟩:av)],true,by omega,by go_num,by rw [n],rfl,M.z,by omega,U.z,J.z,by rw [n]; exact ab⟩
            case measure=>simp [intOf]; omega
          · have o:=ω (o.z false);have M:=ω (show ((l ++ [(⟨j,v,x⟩:av)])) ++ bR av.name ⟨j,v,x⟩ true (N.drop (k+1))=P from by rw [<- K.z,o.z]; simp);have n:((l ++ [(⟨j,v,x⟩:av)])).length=(l.length+1):=by simp
            clear o K af ac;go_wp2
            go_roundw
            case rel=>exact⟨k+1,A2,c2,(l ++ [(⟨j,v,x⟩:av)]),true,by omega,by go_num,by rw [n],rfl,M.z,by omega,h.z,m.z,by rw [n]; exact i.z⟩
            case measure=>simp [intOf]; omega)
       |(
        guard_hyp W
        · have aA:(l ++ [(⟨s,z,C⟩:ak)]).length=l.length+1:=by simp
          have D:ζ u w 0 (.string s):=h.cell 0;have E:ζ u w 1 (.string z):=h.cell 1;have F:ζ u w 2 (.int .i64 C):=h.cell 2
          go_wp2_with (at_builtin; refine cI aB rfl _ _ 24 66 (.agg #[.string ⟨#[]⟩,.string ⟨#[]⟩,(0:Int)]) 3 40 rfl Tryz.underlying24 jB rfl (by decide) aI gY (w.heap.size+1) _ _ _ l rfl i.z _ ⟨s,z,C⟩ rfl _ (by simp) rfl (by omega) (by unfold maxLen; omega) (by omega) ?_; intro A2 c2 Y ad aa; have U:=ω (h.grew aa (fun q e=>by have:=(Hn.z q e).1; omega)); have ap:=ω (g.LT aa (fun e=>by have:=(Hn.z _ e).2; omega)); have J:=ω (m.trans (aa.below (B:=w.heap.size) mq (fun q e=>by have:=(Hn.z q e).1; omega))); have ao:=ω ad; clear D E F h g m i ad)
          have h:=U;have g:=ap;have m:=J;have i:=ao;clear U ap J ao aa;have aj:=g.lt;have D:=fun d a=>cell_regrown (show ζ Y w 0 (.string s) from h.cell 0) d a;have E:=fun d a=>cell_regrown (show ζ Y w 1 (.string z) from h.cell 1) d a;have F:=fun d a=>cell_regrown (show ζ Y w 2 (.int .i64 C) from h.cell 2) d a;have G:=fun d a=>cell_regrown (show ζ Y wr 0 (.string X) from g.cell 0) d a;have H:=fun d a=>cell_regrown (show ζ Y wr 1 (.string dZ) from g.cell 1) d a;have I:=fun d a=>cell_regrown (show ζ Y wr 2 (.int .i64 eu) from g.cell 2) d a;refine wp_region_quiet_below (by kernel_rfl) (by kernel_rfl) ?_
          repeat (go_big_quiet_step ((go_at_call 110; exact Calls.regrown_of (rQ _ _ _ _))))
          refine wpQuiet_nil ?_;intro _ ae;obtain⟨⟨nq,osq⟩,hw''⟩:=ae;subst hw'';have e:=below_regrown Y nq osq;clear D G E H F I;dsimp only;generalize Sort.grow (redrawn Y nq) osq=Z at e |-;have h:=ω (h.below e h.lt);have g:=ω (g.below e g.lt);have i:=ω (aF i.z e);have m:=ω (m.trans (e.mono m.size));have aj:=g.lt;have mq:=m.size;clear e;rw [ac.z];cases b2
          · have o:=ω (o.z false);have M:=ω (show ((l ++ [(⟨s,z,C⟩:ak)]) ++ [(⟨X,dZ,eu⟩:ak)]) ++ bR ak.job ⟨s,z,C⟩ true (N.drop (k+1))=P from by rw [<- K.z,o.z]; simp);have n:((l ++ [(⟨s,z,C⟩:ak)]) ++ [(⟨X,dZ,eu⟩:ak)]).length=(l.length+1)+1:=by simp
            clear o K af ac;have G:ζ Z wr 0 (.string X):=g.cell 0;have H:ζ Z wr 1 (.string dZ):=g.cell 1;have I:ζ Z wr 2 (.int .i64 eu):=g.cell 2
            go_wp2_with (at_builtin; refine cI aB rfl _ _ 24 66 (.agg #[.string ⟨#[]⟩,.string ⟨#[]⟩,(0:Int)]) 3 40 rfl Tryz.underlying24 jB rfl (by decide) aI gY (w.heap.size+1) _ _ _ (l ++ [(⟨s,z,C⟩:ak)]) rfl i.z _ ⟨X,dZ,eu⟩ rfl _ (by simp) rfl (by omega) (by unfold maxLen; omega) (by omega) ?_; intro A3 c3 aq ab V; have U:=ω (h.grew V (fun q e=>by have:=(i.lt q e).1; omega)); have J:=ω (m.trans (V.below (B:=w.heap.size) mq (fun q e=>by have:=(i.lt q e).1; omega))))
            go_roundw
            case rel=>exact⟨k+1,A3,c3,(l ++ [(⟨s,z,C⟩:ak)]) ++ [(⟨X,dZ,eu⟩:ak)],true,by omega,by go_num,by rw [n],rfl,M.z,by omega,U.z,J.z,by rw [n]; exact ab⟩
            case measure=>simp [intOf]; omega
          · have o:=ω (o.z false);have M:=ω (show ((l ++ [(⟨s,z,C⟩:ak)])) ++ bR ak.job ⟨s,z,C⟩ true (N.drop (k+1))=P from by rw [<- K.z,o.z]; simp);have n:((l ++ [(⟨s,z,C⟩:ak)])).length=(l.length+1):=by simp
            clear o K af ac;go_wp2
            go_roundw
            case rel=>exact⟨k+1,A2,c2,(l ++ [(⟨s,z,C⟩:ak)]),true,by omega,by go_num,by rw [n],rfl,M.z,by omega,h.z,m.z,by rw [n]; exact i.z⟩
            case measure=>simp [intOf]; omega)
      · go_wp2_with fail
        first
         |(
          guard_hyp L
          obtain⟨D,E,F,x3,x4⟩:=Blk.r5 (h.z);obtain⟨G,H,I,y3,y4⟩:=Blk.r5 (g.z))
         |(
          guard_hyp S
          have D:=fun d a=>cell_regrown (show ζ u w 0 (.string j) from h.cell 0) d a;have E:=fun d a=>cell_regrown (show ζ u w 1 (.int .i64 v) from h.cell 1) d a;have F:=fun d a=>cell_regrown (show ζ u w 2 (.string x) from h.cell 2) d a;have G:=fun d a=>cell_regrown (show ζ u wr 0 (.string r) from g.cell 0) d a;have H:=fun d a=>cell_regrown (show ζ u wr 1 (.int .i64 dX) from g.cell 1) d a;have I:=fun d a=>cell_regrown (show ζ u wr 2 (.string dY) from g.cell 2) d a)
         |(
          guard_hyp W
          have D:=fun d a=>cell_regrown (show ζ u w 0 (.string s) from h.cell 0) d a;have E:=fun d a=>cell_regrown (show ζ u w 1 (.string z) from h.cell 1) d a;have F:=fun d a=>cell_regrown (show ζ u w 2 (.int .i64 C) from h.cell 2) d a;have G:=fun d a=>cell_regrown (show ζ u wr 0 (.string X) from g.cell 0) d a;have H:=fun d a=>cell_regrown (show ζ u wr 1 (.string dZ) from g.cell 1) d a;have I:=fun d a=>cell_regrown (show ζ u wr 2 (.int .i64 eu) from g.cell 2) d a)
        refine wp_region_quiet_below (by kernel_rfl) (by kernel_rfl) ?_
        first
         |(
          guard_hyp L
          repeat (go_big_quiet_step ((go_at_call 99; exact Calls.regrown_of (xg _ _ _ _ _ _)))))
         |(
          guard_hyp S
          repeat (go_big_quiet_step ((go_at_call 101; exact Calls.regrown_of (uw _ _ _ _)))))
         |(
          guard_hyp W
          repeat (go_big_quiet_step ((go_at_call 110; exact Calls.regrown_of (rQ _ _ _ _)))))
        refine wpQuiet_nil ?_;intro _ ae;obtain⟨⟨nq,osq⟩,hw''⟩:=ae;subst hw'';have e:=below_regrown u nq osq
        first
         |(
          guard_hyp L
          clear D G E H F I x3 y3 x4 y4)
         |(
          guard_hyp az
          clear D G E H F I)
        dsimp only;generalize Sort.grow (redrawn u nq) osq=Z at e |-;have h:=ω (h.below e h.lt);have g:=ω (g.below e g.lt);have i:=ω (aF i.z e);have m:=ω (m.trans (e.mono m.size));have aj:=g.lt;have mq:=m.size;clear e;rw [ac.z];cases b2
        · have o:=ω (o.z false)
          first
           |(
            guard_hyp L
            have M:=ω (show (l ++ [(⟨r,gM,gN,eI,mo⟩:aC)]) ++ bR aC.name ⟨j,Q,R,O,T⟩ false (N.drop (k+1))=P from by rw [<- K.z,o.z]; simp);have n:(l ++ [(⟨r,gM,gN,eI,mo⟩:aC)]).length=l.length+1:=by simp)
           |(
            guard_hyp S
            have M:=ω (show (l ++ [(⟨r,dX,dY⟩:av)]) ++ bR av.name ⟨j,v,x⟩ false (N.drop (k+1))=P from by rw [<- K.z,o.z]; simp);have n:(l ++ [(⟨r,dX,dY⟩:av)]).length=l.length+1:=by simp)
           |(
            guard_hyp W
            have M:=ω (show (l ++ [(⟨X,dZ,eu⟩:ak)]) ++ bR ak.job ⟨s,z,C⟩ false (N.drop (k+1))=P from by rw [<- K.z,o.z]; simp);have n:(l ++ [(⟨X,dZ,eu⟩:ak)]).length=l.length+1:=by simp)
          clear o K af ac
          first
           |(
            guard_hyp L
            obtain⟨G,H,I,y3,y4⟩:=Blk.c5 (g.z)
            go_wp2_with (at_builtin; refine cI aS rfl _ _ 22 85 (.agg #[.string ⟨#[]⟩,(0:Int),(0:Int),(0:Int),.string ⟨#[]⟩]) 5 56 rfl Tryz.underlying22 mI rfl (by decide) aT kV (w.heap.size+1) _ _ _ l rfl i.z _ ⟨r,gM,gN,eI,mo⟩ rfl _ (by simp) rfl (by omega) (by unfold maxLen; omega) (by omega) ?_; intro A3 c3 aq ab V; have U:=ω (h.grew V (fun q e=>by have:=(i.lt q e).1; omega)); have J:=ω (m.trans (V.below (B:=w.heap.size) mq (fun q e=>by have:=(i.lt q e).1; omega)))))
           |(
            guard_hyp S
            have G:ζ Z wr 0 (.string r):=g.cell 0;have H:ζ Z wr 1 (.int .i64 dX):=g.cell 1;have I:ζ Z wr 2 (.string dY):=g.cell 2
            go_wp2_with (at_builtin; refine cI aH rfl _ _ 23 70 (.agg #[.string ⟨#[]⟩,(0:Int),.string ⟨#[]⟩]) 3 40 rfl Tryz.underlying23 kW rfl (by decide) aO jA (w.heap.size+1) _ _ _ l rfl i.z _ ⟨r,dX,dY⟩ rfl _ (by simp) rfl (by omega) (by unfold maxLen; omega) (by omega) ?_; intro A3 c3 aq ab V; have U:=ω (h.grew V (fun q e=>by have:=(i.lt q e).1; omega)); have J:=ω (m.trans (V.below (B:=w.heap.size) mq (fun q e=>by have:=(i.lt q e).1; omega)))))
           |(
            guard_hyp W
            have G:ζ Z wr 0 (.string X):=g.cell 0;have H:ζ Z wr 1 (.string dZ):=g.cell 1;have I:ζ Z wr 2 (.int .i64 eu):=g.cell 2
            go_wp2_with (at_builtin; refine cI aB rfl _ _ 24 66 (.agg #[.string ⟨#[]⟩,.string ⟨#[]⟩,(0:Int)]) 3 40 rfl Tryz.underlying24 jB rfl (by decide) aI gY (w.heap.size+1) _ _ _ l rfl i.z _ ⟨X,dZ,eu⟩ rfl _ (by simp) rfl (by omega) (by unfold maxLen; omega) (by omega) ?_; intro A3 c3 aq ab V; have U:=ω (h.grew V (fun q e=>by have:=(i.lt q e).1; omega)); have J:=ω (m.trans (V.below (B:=w.heap.size) mq (fun q e=>by have:=(i.lt q e).1; omega)))))
          go_roundw
          first
           |(
            guard_hyp L
            case rel=>exact⟨k+1,A3,c3,l ++ [(⟨r,gM,gN,eI,mo⟩:aC)],false,by omega,by go_num,by rw [n],rfl,M.z,by omega,U.z,J.z,by rw [n]; exact ab⟩)
           |(
            guard_hyp S
            case rel=>exact⟨k+1,A3,c3,l ++ [(⟨r,dX,dY⟩:av)],false,by omega,by go_num,by rw [n],rfl,M.z,by omega,U.z,J.z,by rw [n]; exact ab⟩)
           |(
            guard_hyp W
            case rel=>exact⟨k+1,A3,c3,l ++ [(⟨X,dZ,eu⟩:ak)],false,by omega,by go_num,by rw [n],rfl,M.z,by omega,U.z,J.z,by rw [n]; exact ab⟩)
          case measure=>simp [intOf]; omega
        · have o:=ω (o.z false)
          first
           |(
            guard_hyp L
            have M:=ω (show (l) ++ bR aC.name ⟨j,Q,R,O,T⟩ false (N.drop (k+1))=P from by rw [<- K.z,o.z]; simp))
           |(
            guard_hyp S
            have M:=ω (show (l) ++ bR av.name ⟨j,v,x⟩ false (N.drop (k+1))=P from by rw [<- K.z,o.z]; simp))
           |(
            guard_hyp W
            have M:=ω (show (l) ++ bR ak.job ⟨s,z,C⟩ false (N.drop (k+1))=P from by rw [<- K.z,o.z]; simp))
          have n:(l).length=l.length:=by simp
          clear o K af ac;go_wp2
          go_roundw
          case rel=>exact⟨k+1,A',c',l,false,by omega,by go_num,by rw [n],rfl,M.z,by omega,h.z,m.z,by rw [n]; exact i.z⟩
          case measure=>simp [intOf]; omega
    · go_wp2_with fail
      rw [a9.z]
      first
       |(
        guard_hyp L
        obtain⟨D,E,F,x3,x4⟩:=Blk.r5 (h.z);obtain⟨G,H,I,y3,y4⟩:=Blk.r5 (g.z))
       |(
        guard_hyp S
        have D:=fun d a=>cell_regrown (show ζ p w 0 (.string j) from h.cell 0) d a;have E:=fun d a=>cell_regrown (show ζ p w 1 (.int .i64 v) from h.cell 1) d a;have F:=fun d a=>cell_regrown (show ζ p w 2 (.string x) from h.cell 2) d a;have G:=fun d a=>cell_regrown (show ζ p wr 0 (.string r) from g.cell 0) d a;have H:=fun d a=>cell_regrown (show ζ p wr 1 (.int .i64 dX) from g.cell 1) d a;have I:=fun d a=>cell_regrown (show ζ p wr 2 (.string dY) from g.cell 2) d a)
       |(
        guard_hyp W
        have D:=fun d a=>cell_regrown (show ζ p w 0 (.string s) from h.cell 0) d a;have E:=fun d a=>cell_regrown (show ζ p w 1 (.string z) from h.cell 1) d a;have F:=fun d a=>cell_regrown (show ζ p w 2 (.int .i64 C) from h.cell 2) d a;have G:=fun d a=>cell_regrown (show ζ p wr 0 (.string X) from g.cell 0) d a;have H:=fun d a=>cell_regrown (show ζ p wr 1 (.string dZ) from g.cell 1) d a;have I:=fun d a=>cell_regrown (show ζ p wr 2 (.int .i64 eu) from g.cell 2) d a)
      refine wp_region_quiet_below (by kernel_rfl) (by kernel_rfl) ?_
      repeat (go_big_quiet_step ((fail)))
      refine wpQuiet_nil ?_;intro _ ae;obtain⟨⟨nq,osq⟩,hw''⟩:=ae;subst hw'';have e:=below_regrown p nq osq
      first
       |(
        guard_hyp L
        clear D G E H F I x3 y3 x4 y4)
       |(
        guard_hyp az
        clear D G E H F I)
      dsimp only;generalize Sort.grow (redrawn p nq) osq=u at e |-;have h:=ω (h.below e h.lt);have g:=ω (g.below e g.lt);have i:=ω (aF i.z e);have m:=ω (m.trans (e.mono m.size));have aj:=g.lt;have mq:=m.size;clear e
      go_wp2_with fail
      first
       |(
        guard_hyp L
        obtain⟨D,E,F,x3,x4⟩:=Blk.r5 (h.z);obtain⟨G,H,I,y3,y4⟩:=Blk.r5 (g.z))
       |(
        guard_hyp S
        have D:=fun d a=>cell_regrown (show ζ u w 0 (.string j) from h.cell 0) d a;have E:=fun d a=>cell_regrown (show ζ u w 1 (.int .i64 v) from h.cell 1) d a;have F:=fun d a=>cell_regrown (show ζ u w 2 (.string x) from h.cell 2) d a;have G:=fun d a=>cell_regrown (show ζ u wr 0 (.string r) from g.cell 0) d a;have H:=fun d a=>cell_regrown (show ζ u wr 1 (.int .i64 dX) from g.cell 1) d a;have I:=fun d a=>cell_regrown (show ζ u wr 2 (.string dY) from g.cell 2) d a)
       |(
        guard_hyp W
        have D:=fun d a=>cell_regrown (show ζ u w 0 (.string s) from h.cell 0) d a;have E:=fun d a=>cell_regrown (show ζ u w 1 (.string z) from h.cell 1) d a;have F:=fun d a=>cell_regrown (show ζ u w 2 (.int .i64 C) from h.cell 2) d a;have G:=fun d a=>cell_regrown (show ζ u wr 0 (.string X) from g.cell 0) d a;have H:=fun d a=>cell_regrown (show ζ u wr 1 (.string dZ) from g.cell 1) d a;have I:=fun d a=>cell_regrown (show ζ u wr 2 (.int .i64 eu) from g.cell 2) d a)
      refine wp_region_quiet_below (by kernel_rfl) (by kernel_rfl) ?_
      first
       |(
        guard_hyp L
        repeat (go_big_quiet_step ((go_at_call 99; exact Calls.regrown_of (xg _ _ _ _ _ _)))))
       |(
        guard_hyp S
        repeat (go_big_quiet_step ((go_at_call 101; exact Calls.regrown_of (uw _ _ _ _)))))
       |(
        guard_hyp W
        repeat (go_big_quiet_step ((go_at_call 110; exact Calls.regrown_of (rQ _ _ _ _)))))
      refine wpQuiet_nil ?_;intro _ ae;obtain⟨⟨nq,osq⟩,hw''⟩:=ae;subst hw'';have e:=below_regrown u nq osq
      first
       |(
        guard_hyp L
        clear D G E H F I x3 y3 x4 y4)
       |(
        guard_hyp az
        clear D G E H F I)
      dsimp only;generalize Sort.grow (redrawn u nq) osq=Z at e |-;have h:=ω (h.below e h.lt);have g:=ω (g.below e g.lt);have i:=ω (aF i.z e);have m:=ω (m.trans (e.mono m.size));have aj:=g.lt;have mq:=m.size;clear e;rw [ac.z];cases b2
      · have o:=ω (o.z true)
        first
         |(
          guard_hyp L
          have M:=ω (show (l ++ [(⟨r,gM,gN,eI,mo⟩:aC)]) ++ bR aC.name ⟨j,Q,R,O,T⟩ true (N.drop (k+1))=P from by rw [<- K.z,o.z]; simp);have n:(l ++ [(⟨r,gM,gN,eI,mo⟩:aC)]).length=l.length+1:=by simp)
         |(
          guard_hyp S
          have M:=ω (show (l ++ [(⟨r,dX,dY⟩:av)]) ++ bR av.name ⟨j,v,x⟩ true (N.drop (k+1))=P from by rw [<- K.z,o.z]; simp);have n:(l ++ [(⟨r,dX,dY⟩:av)]).length=l.length+1:=by simp)
         |(
          guard_hyp W
          have M:=ω (show (l ++ [(⟨X,dZ,eu⟩:ak)]) ++ bR ak.job ⟨s,z,C⟩ true (N.drop (k+1))=P from by rw [<- K.z,o.z]; simp);have n:(l ++ [(⟨X,dZ,eu⟩:ak)]).length=l.length+1:=by simp)
        clear o K af ac
        first
         |(
          guard_hyp L
          obtain⟨G,H,I,y3,y4⟩:=Blk.c5 (g.z)
          go_wp2_with (at_builtin; refine cI aS rfl _ _ 22 85 (.agg #[.string ⟨#[]⟩,(0:Int),(0:Int),(0:Int),.string ⟨#[]⟩]) 5 56 rfl Tryz.underlying22 mI rfl (by decide) aT kV (w.heap.size+1) _ _ _ l rfl i.z _ ⟨r,gM,gN,eI,mo⟩ rfl _ (by simp) rfl (by omega) (by unfold maxLen; omega) (by omega) ?_; intro A3 c3 aq ab V; have U:=ω (h.grew V (fun q e=>by have:=(i.lt q e).1; omega)); have J:=ω (m.trans (V.below (B:=w.heap.size) mq (fun q e=>by have:=(i.lt q e).1; omega)))))
         |(
          guard_hyp S
          have G:ζ Z wr 0 (.string r):=g.cell 0;have H:ζ Z wr 1 (.int .i64 dX):=g.cell 1;have I:ζ Z wr 2 (.string dY):=g.cell 2
          go_wp2_with (at_builtin; refine cI aH rfl _ _ 23 70 (.agg #[.string ⟨#[]⟩,(0:Int),.string ⟨#[]⟩]) 3 40 rfl Tryz.underlying23 kW rfl (by decide) aO jA (w.heap.size+1) _ _ _ l rfl i.z _ ⟨r,dX,dY⟩ rfl _ (by simp) rfl (by omega) (by unfold maxLen; omega) (by omega) ?_; intro A3 c3 aq ab V; have U:=ω (h.grew V (fun q e=>by have:=(i.lt q e).1; omega)); have J:=ω (m.trans (V.below (B:=w.heap.size) mq (fun q e=>by have:=(i.lt q e).1; omega)))))
         |(
          guard_hyp W
          have G:ζ Z wr 0 (.string X):=g.cell 0;have H:ζ Z wr 1 (.string dZ):=g.cell 1;have I:ζ Z wr 2 (.int .i64 eu):=g.cell 2
          go_wp2_with (at_builtin; refine cI aB rfl _ _ 24 66 (.agg #[.string ⟨#[]⟩,.string ⟨#[]⟩,(0:Int)]) 3 40 rfl Tryz.underlying24 jB rfl (by decide) aI gY (w.heap.size+1) _ _ _ l rfl i.z _ ⟨X,dZ,eu⟩ rfl _ (by simp) rfl (by omega) (by unfold maxLen; omega) (by omega) ?_; intro A3 c3 aq ab V; have U:=ω (h.grew V (fun q e=>by have:=(i.lt q e).1; omega)); have J:=ω (m.trans (V.below (B:=w.heap.size) mq (fun q e=>by have:=(i.lt q e).1; omega)))))
        go_roundw
        first
         |(
          guard_hyp L
          case rel=>exact⟨k+1,A3,c3,l ++ [(⟨r,gM,gN,eI,mo⟩:aC)],true,by omega,by go_num,by rw [n],rfl,M.z,by omega,U.z,J.z,by rw [n]; exact ab⟩)
         |(
          guard_hyp S
          case rel=>exact⟨k+1,A3,c3,l ++ [(⟨r,dX,dY⟩:av)],true,by omega,by go_num,by rw [n],rfl,M.z,by omega,U.z,J.z,by rw [n]; exact ab⟩)
         |(
          guard_hyp W
          case rel=>exact⟨k+1,A3,c3,l ++ [(⟨X,dZ,eu⟩:ak)],true,by omega,by go_num,by rw [n],rfl,M.z,by omega,U.z,J.z,by rw [n]; exact ab⟩)
        case measure=>simp [intOf]; omega
      · have o:=ω (o.z true)
        first
         |(
          guard_hyp L
          have M:=ω (show (l) ++ bR aC.name ⟨j,Q,R,O,T⟩ true (N.drop (k+1))=P from by rw [<- K.z,o.z]; simp))
         |(
          guard_hyp S
          have M:=ω (show (l) ++ bR av.name ⟨j,v,x⟩ true (N.drop (k+1))=P from by rw [<- K.z,o.z]; simp))
         |(
          guard_hyp W
          have M:=ω (show (l) ++ bR ak.job ⟨s,z,C⟩ true (N.drop (k+1))=P from by rw [<- K.z,o.z]; simp))
        have n:(l).length=l.length:=by simp
        clear o K af ac;go_wp2
        go_roundw
        case rel=>exact⟨k+1,A',c',l,true,by omega,by go_num,by rw [n],rfl,M.z,by omega,h.z,m.z,by rw [n]; exact i.z⟩
        case measure=>simp [intOf]; omega
  · obtain rfl:ag=k:=by omega
    have a3:N.drop ag=[]:=by rw [<- Hl.z]; simp
    first
     |(
      guard_hyp L
      have ai:=ω (show l ++ bR aC.name ⟨j,Q,R,O,T⟩ d []=P from by rw [<- a3]; exact K))
     |(
      guard_hyp S
      have ai:=ω (show l ++ bR av.name ⟨j,v,x⟩ d []=P from by rw [<- a3]; exact K))
     |(
      guard_hyp W
      have ai:=ω (show l ++ bR ak.job ⟨s,z,C⟩ d []=P from by rw [<- a3]; exact K))
    clear K a3 Hx;cases d
    first
     |(
      guard_hyp L
      · have aw:=ω (show l ++ [(⟨j,Q,R,O,T⟩:aC)]=P from ai.z);have n:(l ++ [(⟨j,Q,R,O,T⟩:aC)]).length=l.length+1:=by simp
        clear ai;obtain⟨D,E,F,x3,x4⟩:=Blk.c5 (h.z)
        go_wp2_with (at_builtin; refine cI aS rfl _ _ 22 85 (.agg #[.string ⟨#[]⟩,(0:Int),(0:Int),(0:Int),.string ⟨#[]⟩]) 5 56 rfl Tryz.underlying22 mI rfl (by decide) aT kV (w.heap.size+1) _ _ _ l rfl i.z _ ⟨j,Q,R,O,T⟩ rfl _ (by simp) rfl (by omega) (by unfold maxLen; omega) (by omega) ?_; intro A2 c2 Y ad aa; have J:=ω (m.trans (aa.below (B:=w.heap.size) a2 (fun q e=>by have:=(i.lt q e).1; omega))))
        go_ret;rw [<- aw.z];exact⟨A2,c2,by rw [n]; rfl,by rw [n]; exact cZ ad (by omega),J⟩)
     |(
      guard_hyp S
      · have aw:=ω (show l ++ [(⟨j,v,x⟩:av)]=P from ai.z);have n:(l ++ [(⟨j,v,x⟩:av)]).length=l.length+1:=by simp
        clear ai;have D:ζ wr w 0 (.string j):=h.cell 0;have E:ζ wr w 1 (.int .i64 v):=h.cell 1;have F:ζ wr w 2 (.string x):=h.cell 2
        go_wp2_with (at_builtin; refine cI aH rfl _ _ 23 70 (.agg #[.string ⟨#[]⟩,(0:Int),.string ⟨#[]⟩]) 3 40 rfl Tryz.underlying23 kW rfl (by decide) aO jA (w.heap.size+1) _ _ _ l rfl i.z _ ⟨j,v,x⟩ rfl _ (by simp) rfl (by omega) (by unfold maxLen; omega) (by omega) ?_; intro A2 c2 Y ad aa; have J:=ω (m.trans (aa.below (B:=w.heap.size) a2 (fun q e=>by have:=(i.lt q e).1; omega))))
        go_ret;rw [<- aw.z];exact⟨A2,c2,by rw [n]; rfl,by rw [n]; exact cZ ad (by omega),J⟩)
     |(
      guard_hyp W
      · have aw:=ω (show l ++ [(⟨s,z,C⟩:ak)]=P from ai.z);have n:(l ++ [(⟨s,z,C⟩:ak)]).length=l.length+1:=by simp
        clear ai;have D:ζ wr w 0 (.string s):=h.cell 0;have E:ζ wr w 1 (.string z):=h.cell 1;have F:ζ wr w 2 (.int .i64 C):=h.cell 2
        go_wp2_with (at_builtin; refine cI aB rfl _ _ 24 66 (.agg #[.string ⟨#[]⟩,.string ⟨#[]⟩,(0:Int)]) 3 40 rfl Tryz.underlying24 jB rfl (by decide) aI gY (w.heap.size+1) _ _ _ l rfl i.z _ ⟨s,z,C⟩ rfl _ (by simp) rfl (by omega) (by unfold maxLen; omega) (by omega) ?_; intro A2 c2 Y ad aa; have J:=ω (m.trans (aa.below (B:=w.heap.size) a2 (fun q e=>by have:=(i.lt q e).1; omega))))
        go_ret;rw [<- aw.z];exact⟨A2,c2,by rw [n]; rfl,by rw [n]; exact cZ ad (by omega),J⟩)
    · have aw:=ω (show l=P from by rw [<- ai.z]; exact (List.append_nil _).symm);clear ai;go_wp2;go_ret;rw [<- aw.z];exact⟨A',c',rfl,cZ i.z (by omega),m⟩)
end Go.Proofs.YtimglglgcgpjgaaGreatDoor
