/- Of the proof of a statement: RowsP, RPh. -/
import Derived.Lib.QuietBelow
import Derived.Deep.QuietTactic
import Derived.BigQuiet
import Derived.Test.YtimglglgcgpjgabGreatDoorPTabM
set_option linter.unusedVariables false
set_option linter.unusedSimpArgs false
set_option maxRecDepth 100000
set_option maxHeartbeats 8000000
namespace Go.Proofs.YtimglglgcgpjgabGreatDoor
open Go.RowKit
theorem kr (name:ByteArray) (prio:Int) (need:Int) (tries:Int) (tag:ByteArray) (w:World):ψ 130 #[.agg #[name,prio,need,tries,tag]] w fun e b=>e = .returned (.string name)/\Below w w b:=by
 have a:=ω ((Below.refl w w).alloc lQ (.cells #[name,prio,need,tries,tag] 86));go_enter Tryz.func130,Tryz.ntmps130;go_wp2;go_ret;exact⟨rfl,a⟩
theorem jc (name:ByteArray) (room:Int) (zone:ByteArray) (w:World):ψ 133 #[.agg #[name,room,zone]] w fun e b=>e = .returned (.string name)/\Below w w b:=by
 have a:=ω ((Below.refl w w).alloc lQ (.cells #[name,room,zone] 81));go_enter Tryz.func133,Tryz.ntmps133;go_wp2;go_ret;exact⟨rfl,a⟩
theorem nN :
 (∀ (xs:List aC) (A:Option Addr) (n c:Nat) (w:World) (o:bg w w 5 A n (au aS xs)) (hl:xs.length=n) (hn:n<=9223372036854775807) (aa:oC xs) (hT:Tabs w),ψ 129 #[.slice A n c,.func (.func 130) #[] #[],.func (.func 131) #[] #[]] w fun ad w'=>ad = .returned (.int .i64 (cu fG aC.name xs))/\Below w w w') /\
 (∀ (xs:List av) (A:Option Addr) (n c:Nat) (w:World) (o:bg w w 3 A n (au aH xs)) (hl:xs.length=n) (hn:n<=9223372036854775807) (aa:mB xs) (hT:Tabs w),ψ 132 #[.slice A n c,.func (.func 133) #[] #[],.func (.func 134) #[] #[]] w fun ad w'=>ad = .returned (.int .i64 (cu dE av.name xs))/\Below w w w'):=by
 refine⟨@fun xs A n c w o hl hn aa hT=>(fun(b:Unit)=>?_) (),@fun xs A n c w o hl hn aa hT=>(fun(m:Unit)=>?_) ()⟩<;>(
 first|(guard_hyp b;have ai:=@aU;have ac:Tg 0:=⟨⟩;have af:Tg 9:=⟨⟩)|(have ai:=@aO;have ac:Tg 1:=⟨⟩;have af:Tg 10:=⟨⟩)
 first|(guard_hyp b;obtain⟨R,hR⟩:∃ R,cu fG aC.name xs=R:=⟨_,rfl⟩)|obtain⟨R,hR⟩:∃ R,cu dE av.name xs=R:=⟨_,rfl⟩
 rw [hR];have HR:=ω hR;have W:=ω hl;have HT:=ω hT;have ar:=ω aa;clear hl hR hT aa
 first|(guard_hyp b;go_enter Tryz.func129,Tryz.ntmps129)|go_enter Tryz.func132,Tryz.ntmps132
 go_wp2
 first|(guard_hyp b;go_loopw [6,7,8,9,12,19,28,35] (fun _ _ _ _ H _ _ _ wr=>Kg xs n R w H wr) (fun _ _ _ _ H _ _ _ _=>n - (intOf H).toNat))|go_loopw [6,7,8,9,12,19,28,35] (fun _ _ _ _ H _ _ _ wr=>G8 xs n R w H wr) (fun _ _ _ _ H _ _ _ _=>n - (intOf H).toNat)
 case atStart=>exact⟨0,Nat.zero_le _,rfl,by rw [<- HR.z]; rfl,θ⟩
 case round=>
  obtain⟨k,hk,rfl,am,hb⟩:=hrel;have Y:=ω am;have p:=ω hb;have a4:=hb.size;clear am;by_cases hlt:k<n
  · obtain⟨x,hf⟩:∃ x,xs[k]? = some x:=⟨_,δ (by rw [W.z]; exact hlt)⟩;obtain⟨e,g,rfl,a1,v⟩:=(o.below hb).dL ai W.z hf;have ae:=ω (ar.z x (m8 hf));have U:=ω hf;have ay:x.name=ac x:=rfl
    first|(guard_hyp b;obtain⟨E,hE⟩:∃ E,fG x=E:=⟨_,rfl⟩)|obtain⟨E,hE⟩:∃ E,dE x=E:=⟨_,rfl⟩
    have C:=ω hE;obtain⟨X,hX⟩:∃ X,X=x:=⟨_,rfl⟩;have HX:=ω hX
    first
     |(
      guard_hyp b
      obtain⟨i,M,L,Q,O⟩:=x)
     |(
      guard_hyp m
      obtain⟨i,N,T⟩:=x)
    have c0:ζ wr e (g+k*af) (.string i):=v 0 _ rfl
    first
     |(
      guard_hyp b
      have D:ζ wr e (g+k*5+1) (.int .i64 M):=v 1 _ rfl;have c2:ζ wr e (g+k*5+2) (.int .i64 L):=v 2 _ rfl)
     |skip
    first|(guard_hyp b;have c3:ζ wr e (g+k*5+3) (.int .i64 Q):=v 3 _ rfl)|have D:ζ wr e (g+k*3+1) (.int .i64 N):=v 1 _ rfl
    first|(guard_hyp b;have c4:ζ wr e (g+k*5+4) (.string O):=v 4 _ rfl)|have c2:ζ wr e (g+k*3+2) (.string T):=v 2 _ rfl
    clear v hf hE hX ay;have G:e<wr.heap.size:=by omega
    first
     |(
      guard_hyp b
      have ah:=ω (HT.below (p.alloc p.size (.cells #[i,M,L,Q,O] 86)));have ag:=ω (p.alloc p.size (.cells #[i,M,L,Q,O] 86)))
     |(
      guard_hyp m
      have ah:=ω (HT.below (p.alloc p.size (.cells #[i,N,T] 81)));have ag:=ω (p.alloc p.size (.cells #[i,N,T] 81)))
    go_wp2_with fail
    first
     |(
      guard_hyp b
      refine Calls.mono (wO ⟨i,M,L,Q,O⟩ _ ae.z.1 ae.z.2 ah.z) ?_)
     |(
      guard_hyp m
      refine Calls.mono (uL ⟨i,N,T⟩ _ ae.z.1 ae.z.2 ah.z) ?_)
    rintro ad h ⟨rfl,j⟩;rw [C.z]
    first
     |(
      guard_hyp b
      have q:=(Below.refl wr wr).alloc lQ (.cells #[i,M,L,Q,O] 86))
     |(
      guard_hyp m
      have q:=(Below.refl wr wr).alloc lQ (.cells #[i,N,T] 81))
    have l:=q.trans (j.mono q.size);have F:=ω (ag.trans (j.mono ag.size));by_cases he:E=0
    · subst he;have K:∀ d a,ζ (Sort.grow (redrawn h d) a) wr 0 (.string i):=fun d a=>cell_regrown (by rw [(dP j).1 _ _ (by simp)]; simp [go_sem]) d a
      first
       |(
        guard_hyp b
        have I:∀ d a,ζ (Sort.grow (redrawn h d) a) wr 1 (.int .i64 M):=fun d a=>cell_regrown (by rw [(dP j).1 _ _ (by simp)]; simp [go_sem]) d a;have J:∀ d a,ζ (Sort.grow (redrawn h d) a) wr 2 (.int .i64 L):=fun d a=>cell_regrown (by rw [(dP j).1 _ _ (by simp)]; simp [go_sem]) d a)
       |skip
      first|(guard_hyp b;have l3:∀ d a,ζ (Sort.grow (redrawn h d) a) wr 3 (.int .i64 Q):=fun d a=>cell_regrown (by rw [(dP j).1 _ _ (by simp)]; simp [go_sem]) d a)|have I:∀ d a,ζ (Sort.grow (redrawn h d) a) wr 1 (.int .i64 N):=fun d a=>cell_regrown (by rw [(dP j).1 _ _ (by simp)]; simp [go_sem]) d a
      first|(guard_hyp b;have l4:∀ d a,ζ (Sort.grow (redrawn h d) a) wr 4 (.string O):=fun d a=>cell_regrown (by rw [(dP j).1 _ _ (by simp)]; simp [go_sem]) d a)|have J:∀ d a,ζ (Sort.grow (redrawn h d) a) wr 2 (.string T):=fun d a=>cell_regrown (by rw [(dP j).1 _ _ (by simp)]; simp [go_sem]) d a
      by_cases ak:k=0
      · subst ak;have z:=ω (gS (key:=ac) U.z C.z (.inl rfl))
        first
         |(
          guard_hyp b
          clear c0 D c2 c3 c4 j o q l)
         |(
          guard_hyp m
          clear c0 D c2 j o q l)
        go_wp2_with fail
        refine wp_region_quiet_below (by kernel_rfl) (by kernel_rfl) ?_
        repeat (go_big_quiet_step (fail))
        refine wpQuiet_nil ?_;intro _ ab;obtain⟨⟨nq,osq⟩,hw''⟩:=ab;subst hw'';have u:=ω (F.trans ((below_regrown h nq osq).mono F.size))
        first
         |(
          guard_hyp b
          clear K I J l3 l4)
         |(
          guard_hyp m
          clear K I J)
        dsimp only;generalize Sort.grow (redrawn h nq) osq=w2 at u |-;go_wp2
        go_roundw
        case rel=>exact⟨1,by omega,by go_num,by rw [<- z.z]; exact Y.z,u⟩
        case measure=>simp [intOf]; omega
      · obtain⟨y,hy⟩:∃ y,xs[k - 1]? = some y:=⟨_,δ (by rw [W.z]; omega)⟩;obtain⟨b',az,ax,xB,r⟩:=(o.below hb).dL ai W.z hy;obtain⟨rfl,rfl⟩:e=b'/\g=az:=by simpa using ax
        have Hy:=ω hy;obtain⟨aj,hY⟩:∃ aj,aj=y:=⟨_,rfl⟩
        first
         |(
          guard_hyp b
          obtain⟨s,Kh,ao,Fy,aq⟩:=y)
         |(
          guard_hyp m
          obtain⟨s,ap,Ki⟩:=y)
        have q0:ζ wr e (g+(k - 1)*af) (.string s):=r 0 _ rfl
        first
         |(
          guard_hyp b
          have q1:ζ wr e (g+(k - 1)*5+1) (.int .i64 Kh):=r 1 _ rfl;have q2:ζ wr e (g+(k - 1)*5+2) (.int .i64 ao):=r 2 _ rfl)
         |skip
        first|(guard_hyp b;have q3:ζ wr e (g+(k - 1)*5+3) (.int .i64 Fy):=r 3 _ rfl)|have q1:ζ wr e (g+(k - 1)*3+1) (.int .i64 ap):=r 1 _ rfl
        first|(guard_hyp b;have q4:ζ wr e (g+(k - 1)*5+4) (.string aq):=r 4 _ rfl)|have q2:ζ wr e (g+(k - 1)*3+2) (.string Ki):=r 2 _ rfl
        have p0:∀ d a,ζ (Sort.grow (redrawn h d) a) e (g+(k - 1)*af) (.string s):=fun d a=>cell_regrown (((dP l).1 _ _ G).trans q0) d a
        first|(guard_hyp b;have p1:∀ d a,ζ (Sort.grow (redrawn h d) a) e (g+(k - 1)*5+1) (.int .i64 Kh):=fun d a=>cell_regrown (((dP l).1 _ _ G).trans q1) d a)|have p1:∀ d a,ζ (Sort.grow (redrawn h d) a) e (g+(k - 1)*3+1) (.int .i64 ap):=fun d a=>cell_regrown (((dP l).1 _ _ G).trans q1) d a
        first
         |(
          guard_hyp b
          have p2:∀ d a,ζ (Sort.grow (redrawn h d) a) e (g+(k - 1)*5+2) (.int .i64 ao):=fun d a=>cell_regrown (((dP l).1 _ _ G).trans q2) d a;have p3:∀ d a,ζ (Sort.grow (redrawn h d) a) e (g+(k - 1)*5+3) (.int .i64 Fy):=fun d a=>cell_regrown (((dP l).1 _ _ G).trans q3) d a)
         |skip
        first|(guard_hyp b;have p4:∀ d a,ζ (Sort.grow (redrawn h d) a) e (g+(k - 1)*5+4) (.string aq):=fun d a=>cell_regrown (((dP l).1 _ _ G).trans q4) d a)|have p2:∀ d a,ζ (Sort.grow (redrawn h d) a) e (g+(k - 1)*3+2) (.string Ki):=fun d a=>cell_regrown (((dP l).1 _ _ G).trans q2) d a
        first
         |(
          guard_hyp b
          clear q0 q1 q2 q3 q4 c0 D c2 c3 c4 r hy hY j o q l)
         |(
          guard_hyp m
          clear q0 q1 q2 c0 D c2 r hy hY j o q l)
        have a3:decide ((0:Int)<(k:Int))=true:=t7 (by omega);have a2:0<k:=by omega
        have al:=ω (j6 s.toList i.toList);obtain⟨B,Z⟩:∃ B,Op.bytesLess s.toList i.toList=B:=⟨_,rfl⟩;have HL:=ω Z;cases B
        · have e1:(Op.bytesLess i.toList s.toList || i.toList == s.toList)=true:=by rw [<- al.z,Z]; rfl
          have z:=ω (mW (key:=ac) U.z C.z ak Hy.z HL.z);clear Z
          go_wp2_with fail
          refine wp_region_quiet_below (by kernel_rfl) (by kernel_rfl) ?_
          first
           |(
            guard_hyp b
            repeat (go_big_quiet_step ((go_at_call 130; exact Calls.regrown_of (kr _ _ _ _ _ _)))))
           |(
            guard_hyp m
            repeat (go_big_quiet_step ((go_at_call 133; exact Calls.regrown_of (jc _ _ _ _)))))
          refine wpQuiet_nil ?_;intro _ ab;obtain⟨⟨nq,osq⟩,hw''⟩:=ab;subst hw'';have u:=ω (F.trans ((below_regrown h nq osq).mono F.size))
          first
           |(
            guard_hyp b
            clear K I J l3 l4 p0 p1 p2 p3 p4)
           |(
            guard_hyp m
            clear K I J p0 p1 p2)
          dsimp only;generalize Sort.grow (redrawn h nq) osq=w2 at u |-;go_wp2;go_ret;exact⟨aX (by rw [<- Y.z]; exact z.symm),u⟩
        · have e1:(Op.bytesLess i.toList s.toList || i.toList == s.toList)=false:=by rw [<- al.z,Z]; rfl
          have z:=ω (gS (key:=ac) U.z C.z (.inr ⟨_,Hy,HL⟩));clear Z
          go_wp2_with fail
          refine wp_region_quiet_below (by kernel_rfl) (by kernel_rfl) ?_
          first
           |(
            guard_hyp b
            repeat (go_big_quiet_step ((go_at_call 130; exact Calls.regrown_of (kr _ _ _ _ _ _)))))
           |(
            guard_hyp m
            repeat (go_big_quiet_step ((go_at_call 133; exact Calls.regrown_of (jc _ _ _ _)))))
          refine wpQuiet_nil ?_;intro _ ab;obtain⟨⟨nq,osq⟩,hw''⟩:=ab;subst hw'';have u:=ω (F.trans ((below_regrown h nq osq).mono F.size))
          first
           |(
            guard_hyp b
            clear K I J l3 l4 p0 p1 p2 p3 p4)
           |(
            guard_hyp m
            clear K I J p0 p1 p2)
          dsimp only;generalize Sort.grow (redrawn h nq) osq=w2 at u |-;go_wp2
          go_roundw
          case rel=>exact⟨k+1,by omega,by go_num,by rw [<- z.z]; exact Y.z,u⟩
          case measure=>simp [intOf]; omega
    · first|(guard_hyp b;have z:=ω (lC (E:=fG) (key:=aC.name) U.z (by rw [C.z]; exact he)))|have z:=ω (lC (E:=dE) (key:=av.name) U.z (by rw [C.z]; exact he))
      have e1:(E == 0)=false:=beq_eq_false_iff_ne.2 he;have e2:(E != 0)=true:=bne_iff_ne.2 he
      first
       |(
        guard_hyp b
        clear c0 D c2 c3 c4 j o q l)
       |(
        guard_hyp m
        clear c0 D c2 j o q l)
      go_wp2;go_ret;exact⟨aX (by rw [<- Y.z,z.z]; exact C.symm),F⟩
  · obtain rfl:k=n:=by omega
    have aw:=ω (show R=0 by rw [<- Y.z]; exact qC (by rw [W.z]; exact lQ) _);clear hb o;go_wp2;go_ret;exact⟨aX aw.symm,p⟩)
section
variable {Γ:Type} {P:Program} {ops:Array Oper} {V:Γ->Nat->Value->Prop} {a0:Act} {S:List Nat} {Ph:Nat->Γ->World->Prop}
def LU (S:List Nat) (a:Array Bool) (p:Nat):Prop:=p<=S.length/\∀ k i,S[k]? = some i->a.getD i false=decide (k<p)
structure wP {Γ:Type} (ops:Array Oper) (V:Γ->Nat->Value->Prop) (S:List Nat) (Ph:Nat->Γ->World->Prop) (a0:Act) (γ:Γ) (listed:Array Bool) (a:Act) (w:World):Prop where
 at_:∃ p,LU S listed p/\Ph p γ w
 size:a.tmps.size=a0.tmps.size
 defers:a.defers=a0.defers
 keep:∀ t,(∀ (i:Nat) (o:Oper),ops[i]? = some o->o.dst=some t->listed.getD i false=false)->a.tmps[t]? = a0.tmps[t]?
 done:∀ (i:Nat) (o:Oper) t,ops[i]? = some o->listed.getD i false=true->o.dst=some t->∃ u,a.tmps[t]? = some u/\V γ i u
 closed:∀ (i:Nat) (o:Oper) j,ops[i]? = some o->listed.getD i false=true->waitsFor o j=true->listed.getD j false=true
def chainB (ops:Array Oper) (S:List Nat):Bool:=
 (List.range S.length).all fun k=>decide (S.getD k 0<ops.size) && (k == 0 || match ops[S.getD k 0]? with | some o=>waitsFor o (S.getD (k - 1) 0) | none=>false) && (List.range k).all (fun j=>S.getD j 0 != S.getD k 0)
def loB (S:List Nat) (o:Oper) (lo:Nat):Bool:=lo == 0 || (decide (lo<=S.length) && waitsFor o (S.getD (lo - 1) 0))
def hiB (ops:Array Oper) (S:List Nat) (i hi:Nat):Bool:=hi == S.length || (decide (hi<S.length) && match ops[S.getD hi 0]? with | some o=>waitsFor o i | none=>false)
def wQ (ops:Array Oper) (i t:Nat):Bool:=ops.all fun o=>o.dst != some t || waitsFor o i || (List.range ops.size).any fun m=>waitsFor o m && (match ops[m]? with | some p=>waitsFor p i | none=>false)
theorem Cr {ops:Array Oper} {i t:Nat} (k:wQ ops i t=true) {a:Array Bool} (h:a.getD i false=false)
 (d:∀ (i:Nat) (o:Oper) j,ops[i]? = some o->a.getD i false=true->waitsFor o j=true->a.getD j false=true) (j:Nat) (p:Oper) (e:ops[j]? = some p) (n:p.dst=some t):a.getD j false=false:=by
 cases g:a.getD j false with
 | false=>rfl
 | true=>
  exfalso;have b:=(Array.all_eq_true_iff_forall_mem.1 k) p (Array.mem_of_getElem? e);simp only [n,bne_self_eq_false,Bool.false_or,Bool.or_eq_true,List.any_eq_true,Bool.and_eq_true] at b;rcases b with b | ⟨m,_,l,c⟩
  · have:=d j p i e g b;rw [h] at this; cases this
  · have q:=d j p m e g l
    cases f:ops[m]? with
    | none=>rw [f] at c; cases c
    | some r=>
     rw [f] at c;have:=d m r i f q c;rw [h] at this; cases this
def Knows (ops:Array Oper) (V:Nat->Value->Prop) (a0:Act) (i:Nat) (o:Oper) (a:Act):Prop:=
 (∀ t v,a0.tmps[t]? = some v->wQ ops i t=true->a.tmps[t]? = some v) /\
 (∀ (j:Nat) (p:Oper) t,ops[j]? = some p->p.dst=some t->waitsFor o j=true->∃ u,a.tmps[t]? = some u/\V j u)/\a.defers=a0.defers
theorem Knows.g {ops:Array Oper} {a0:Act} {V:Nat->Value->Prop} {i:Nat} {o:Oper} {a:Act} (e:Knows ops V a0 i o a) (j t:Nat) {p:Oper} (b:ops[j]? = some p) (c:p.dst=some t) (d:waitsFor o j=true:=by decide +kernel):∃ u,a.tmps[t]? = some u/\V j u:=e.2.1 j p t b c d
theorem Knows.k {ops:Array Oper} {a0:Act} {V:Nat->Value->Prop} {i:Nat} {o:Oper} {a:Act} (c:Knows ops V a0 i o a) (t:Nat) {v:Value} (h:a0.tmps[t]? = some v) (b:wQ ops i t=true:=by decide +kernel):a.tmps[t]? = some v:=c.1 t v h b
def Nx {Γ:Type} (P:Program) (ops:Array Oper) (V:Γ->Nat->Value->Prop) (S:List Nat) (Ph:Nat->Γ->World->Prop) (a0:Act) (Q:Exit->Act->World->Prop) (i:Nat) (o:Oper):Prop:=
 o.guard=none/\((∃ k,S[k]? = some i/\∀ b a w,Ph k b w->Knows ops (V b) a0 i o a->o.wp P a w (fun c d=>∃ u e,c=a.put o.dst u/\(∀ j v,j≠i->V b j v->V e j v)/\V e i u/\Ph (k+1) e d) Q) \/
  (i ∉ S/\∃ lo hi,loB S o lo=true/\hiB ops S i hi=true/\∀ p b a w,lo<=p->p<=hi->Ph p b w->Knows ops (V b) a0 i o a->o.wp P a w (fun c d=>∃ u,c=a.put o.dst u/\V b i u/\Ph p b d) Q))
theorem okP {Γ:Type} {P:Program} {ops:Array Oper} {V:Γ->Nat->Value->Prop} {S:List Nat} {Ph:Nat->Γ->World->Prop} {a0:Act} {Q:Exit->Act->World->Prop} {i:Nat} {o:Oper} (lo hi:Nat) (h:∀ p b a w,lo<=p->p<=hi->Ph p b w->Knows ops (V b) a0 i o a->o.wp P a w (fun c j=>∃ u,c=a.put o.dst u/\V b i u/\Ph p b j) Q)
 (g:o.guard=none:=by rfl) (d:i ∉ S:=by decide) (e:loB S o lo=true:=by decide +kernel) (f:hiB ops S i hi=true:=by decide +kernel):Nx P ops V S Ph a0 Q i o:=⟨g,.inr ⟨d,lo,hi,e,f,h⟩⟩
theorem iM (h:chainB ops S=true) {k i:Nat} (e:S[k]? = some i):i<ops.size/\(k=0\/∃ o j,ops[i]? = some o/\S[k - 1]? = some j/\waitsFor o j=true)/\∀ m j,m<k->S[m]? = some j->j≠i:=by
 unfold chainB at h;rw [List.all_eq_true] at h;have hlt:k<S.length:=(List.getElem?_eq_some_iff.1 e).1;have b:=h k (List.mem_range.2 hlt);have g:S.getD k 0=i:=by rw [List.getD_eq_getElem?_getD,e]; rfl
 rw [g] at b;simp only [Bool.and_eq_true,Bool.or_eq_true,decide_eq_true_eq,beq_iff_eq] at b;obtain⟨⟨b,a⟩,l⟩:=b;refine⟨b,?_,fun m j n c=>?_⟩
 · rcases a with a | a
   · exact .inl a
   · rcases Nat.eq_zero_or_pos k with d | d
     · exact .inl d
     · have c:S[k - 1]? = some S[k - 1]:=δ (by omega);rw [show S.getD (k - 1) 0=S[k - 1] by rw [List.getD_eq_getElem?_getD,c]; rfl] at a
       cases f:ops[i]? with
       | none=>rw [f] at a; cases a
       | some o=>rw [f] at a; exact .inr ⟨o,_,rfl,c,a⟩
 · have:=List.all_eq_true.1 l m (List.mem_range.2 n);rw [show S.getD m 0=j by rw [List.getD_eq_getElem?_getD,c]; rfl] at this;simpa using this
theorem jM {a:Array Bool} {i j:Nat} (hi:i<a.size):(a.setIfInBounds i true).getD j false=if i=j then true else a.getD j false:=by
 rw [Array.getD_eq_getD_getElem?,Array.getD_eq_getD_getElem?,Array.getElem?_setIfInBounds];by_cases h:i=j
 · rw [if_pos h,if_pos h,if_pos hi]; rfl
 · rw [if_neg h,if_neg h]
theorem wP.step {n:Nat} (q:BN ops n=true) (E:a0.tmps.size=n) {l:Array Bool} {a:Act} {w:World} (K:l.size=ops.size)
 {z m:Γ} (h:wP ops V S Ph a0 z l a w) {i:Nat} {o:Oper} (f:ops[i]? = some o) (H:∀ j,waitsFor o j=true->l.getD j false=true) {u:Value} {w':World} (D:∀ j v,j≠i->V z j v->V m j v) (G:V m i u) (b:∃ p,LU S (l.setIfInBounds i true) p/\Ph p m w') :
 wP ops V S Ph a0 m (l.setIfInBounds i true) (a.put o.dst u) w':=by
 have J:i<ops.size:=(Array.getElem?_eq_some_iff.1 f).1
 have y:∀ t,o.dst≠some t->(a.put o.dst u).tmps[t]? = a.tmps[t]?:=by
  intro t c;unfold Act.put
  cases k:o.dst with
  | none=>rfl
  | some A=>
   have F:A≠t:=fun g=>c (by rw [k,g]);simp [Array.getElem?_setIfInBounds,F]
 refine⟨b,?_,?_,fun t c=>?_,fun j p t b e c=>?_,fun j p r b e x=>?_⟩
 · unfold Act.put; split <;> simp [h.size]
 · unfold Act.put; split <;> simp [h.defers]
 · rw [y t (fun k=>by
    have:=c i o f k;rw [jM (by omega),if_pos rfl] at this; cases this)]
   exact h.keep t fun j p b k=>by
    have:=c j p b k;rw [jM (by omega)] at this
    split at this
    · cases this
    · exact this
 · rw [jM (by omega)] at e;by_cases d:i=j
   · subst d;rw [f] at b; injection b with b; subst b;have hlt:=((l7 q f).1 t c).1;refine⟨u,?_,G⟩;unfold Act.put;rw [c];simp only [Array.getElem?_setIfInBounds];rw [if_pos trivial,if_pos (by rw [h.size,E]; exact hlt)]
   · rw [if_neg d] at e;obtain⟨I,B,C⟩:=h.done j p t b e c;refine⟨I,?_,D _ _ (fun g=>d g.symm) C⟩;rw [y t ?_]; exact B;intro g;rcases Nat.lt_or_gt_of_ne d with hlt | hlt
     · exact ((l7 q b).1 t c).2 i o f hlt g
     · exact ((l7 q f).1 t g).2 j p b hlt c
 · rw [jM (by omega)] at e |-;by_cases s:i=r
   · rw [if_pos s]
   · rw [if_neg s];by_cases d:i=j
     · subst d;rw [f] at b; injection b with b; subst b;exact H r x
     · rw [if_neg d] at e;exact h.closed j p r b e x
theorem zB {n:Nat} {Q:Exit->Act->World->Prop} (L:BN ops n=true) (M:chainB ops S=true) (hn:a0.tmps.size=n)
 (ao:∀ (i:Nat) (o:Oper),ops[i]? = some o->Nx P ops V S Ph a0 Q i o)
 (hQ:∀ f a w,(∀ b,(∀ i,i<ops.size->b.getD i false=true)->wP ops V S Ph a0 f b a w)->Q .normal a w) :
 ∀ (x:Nat) (f:Γ) (b:Array Bool) (a:Act) (w:World),b.size=ops.size->(b.toList.filter (! ·)).length<=x->wP ops V S Ph a0 f b a w->wpAny P .any ops Q x b a w:=by
 have Be:∀ {f:Γ} {b:Array Bool} {a:Act} {w:World},wP ops V S Ph a0 f b a w->(∀ i,i<ops.size->b.getD i false=true)->∀ l':Array Bool,(∀ i,i<ops.size->l'.getD i false=true)->wP ops V S Ph a0 f l' a w:=by
  intro f b a w h O l' ab;refine⟨?_,h.size,h.defers,fun t H=>h.keep t fun i o e hd=>absurd (H i o e hd) (by rw [ab i (Array.getElem?_eq_some_iff.1 e).1]; simp),fun i o t e _ H=>h.done i o t e (O i (Array.getElem?_eq_some_iff.1 e).1) H,fun i o j e _ d=>?_⟩
  · obtain⟨p,⟨ae,q⟩,T⟩:=h.at_;refine⟨p,⟨ae,fun k i m=>?_⟩,T⟩;have z:=(iM M m).1;rw [<- q k i m,O i z,ab i z]
  · refine ab j ?_;have ar:=d;unfold waitsFor at d;obtain⟨g,X,c⟩:=Array.any_eq_true'.1 d;simp only [Bool.and_eq_true,beq_iff_eq] at c;have:=(l7 L e).2 g X;have z:=(Array.getElem?_eq_some_iff.1 e).1;omega
 intro x
 induction x with
 | zero=>
  intro f b a w G hf h
  have A:Region.ready .any ops b=[]:=by
   cases A:Region.ready .any ops b with
   | nil=>rfl
   | cons i aw=>
    exfalso;have l:i ∈ Region.ready .any ops b:=by rw [A]; exact List.mem_cons_self
    obtain⟨y,o,e,_⟩:=mem_ready.1 l;have z:i<ops.size:=(Array.getElem?_eq_some_iff.1 e).1;have B:b[i]? = some b[i]:=Array.getElem?_eq_getElem (by omega);rw [Array.getD_eq_getD_getElem?,B] at y;have c:false ∈ b.toList.filter (! ·):=List.mem_filter.2 ⟨by rw [<- show b[i]=false from by simpa using y]; exact Array.getElem_mem_toList (by omega),rfl⟩;have:=List.length_pos_of_mem c;omega
  exact⟨A,hQ f a w (Be h (iP L G A))⟩
 | succ x ih=>
  intro f b a w G hf h;refine⟨fun A=>hQ f a w (Be h (iP L G A)),fun i z=>?_⟩;obtain⟨y,o,e,ag⟩:=mem_ready.1 z;have aq:i<ops.size:=(Array.getElem?_eq_some_iff.1 e).1;have J:i<b.size:=by omega
  have F:b.getD i false=false:=by
   have B:b[i]? = some b[i]:=Array.getElem?_eq_getElem J;rw [Array.getD_eq_getD_getElem?,B] at y |-;simpa using y
  have U:∀ j,waitsFor o j=true->b.getD j false=true:=by
   intro j d;unfold waitsFor at d;obtain⟨g,X,c⟩:=Array.any_eq_true'.1 d;simp only [Bool.and_eq_true,beq_iff_eq] at c;obtain⟨c,K⟩:=c;subst c;exact ag g X K
  have EZ:Knows ops (V f) a0 i o a:=⟨fun t v hv hn=>by rw [h.keep t (Cr hn F h.closed)]; exact hv,fun j p t hp H d=>h.done j p t hp (U j d) H,h.defers⟩;obtain⟨p,⟨ae,q⟩,T⟩:=h.at_;obtain⟨ai,m⟩:=ao i o e;unfold wpOp;rw [e];simp only [Region.wanted,ai,if_true];refine .inl ?_
  have next:∀ u D w',(∀ j v,j≠i->V f j v->V D j v)->V D i u->(∃ p,LU S (b.setIfInBounds i true) p/\Ph p D w')->wpAny P .any ops Q x (b.setIfInBounds i true) (a.put o.dst u) w':=by
   intro u D w' Y I hp;refine ih _ _ _ _ (by simpa using G) ?_ (h.step L hn G e U Y I hp);have B:b[i]? = some b[i]:=Array.getElem?_eq_getElem J
   have c:b.toList[i]? = some false:=by
    rw [Array.getElem?_toList,B];rw [Array.getD_eq_getD_getElem?,B] at F;simpa using F
   have K:=count_set b.toList i c;simp only [Array.toList_setIfInBounds];omega
  rcases m with ⟨k,m,hw⟩ | ⟨am,C,s,ac,aa,hw⟩
  · have al:p=k:=by
     have W:=q k i m;rw [F] at W
     have y:¬ k<p:=by
      intro hlt; rw [decide_eq_true hlt] at W; cases W
     rcases (iM M m).2.1 with E | ⟨o',j,R,d,ap⟩
     · omega
     · rw [e] at R; injection R with R; subst R;have e2:=q (k - 1) j d;rw [U j ap] at e2;have c:k - 1<p:=of_decide_eq_true e2.symm;omega
    subst al;refine Oper.wp_mono (fun a' w' Z=>?_) (hw f a w T EZ);obtain⟨u,D,rfl,Y,I,af⟩:=Z;refine next u D w' Y I ⟨p+1,⟨(List.getElem?_eq_some_iff.1 m).1,fun r j l=>?_⟩,af⟩;rw [jM J];by_cases N:i=j
    · rw [if_pos N];subst N
      have au:r=p:=by
       rcases Nat.lt_trichotomy r p with hlt | ah | aj
       · exact absurd rfl ((iM M m).2.2 r i hlt l)
       · exact ah
       · exact absurd rfl ((iM M l).2.2 p i aj m)
      rw [decide_eq_true (by omega)]
    · rw [if_neg N,q r j l];have av:r≠p:=fun g=>by subst g; rw [m] at l; injection l with l; exact N l
      by_cases hlt:r<p
      · rw [decide_eq_true hlt,decide_eq_true (by omega)]
      · rw [decide_eq_false hlt,decide_eq_false (by omega)]
  · have O:C<=p:=by
     unfold loB at ac;simp only [Bool.or_eq_true,Bool.and_eq_true,beq_iff_eq,decide_eq_true_eq] at ac;rcases ac with E | ⟨E,c⟩
     · omega
     · rcases Nat.eq_zero_or_pos C with K | K
       · omega
       · have d:S[C - 1]? = some S[C - 1]:=δ (by omega);rw [show S.getD (C - 1) 0=S[C - 1] by rw [List.getD_eq_getElem?_getD,d]; rfl] at c;have g:=q _ _ d;rw [U _ c] at g;have:=of_decide_eq_true g.symm;omega
    have ak:p<=s:=by
     unfold hiB at aa;simp only [Bool.or_eq_true,Bool.and_eq_true,beq_iff_eq,decide_eq_true_eq] at aa;rcases aa with E | ⟨E,c⟩
     · omega
     · have d:S[s]? = some S[s]:=δ E;rw [show S.getD s 0=S[s] by rw [List.getD_eq_getElem?_getD,d]; rfl] at c
       cases ad:ops[S[s]]? with
       | none=>rw [ad] at c; cases c
       | some o'=>
        rw [ad] at c;have g:=q _ _ d;by_cases hlt:s<p
        · rw [decide_eq_true hlt] at g;have:=h.closed _ o' i ad g c;rw [F] at this; cases this
        · omega
    refine Oper.wp_mono (fun a' w' Z=>?_) (hw p f a w O ak T EZ);obtain⟨u,rfl,I,af⟩:=Z;refine next u f w' (fun _ _ _ h=>h) I ⟨p,⟨ae,fun r j l=>?_⟩,af⟩;rw [jM J,if_neg (fun g=>am (by subst g; exact List.mem_of_getElem? l))];exact q r j l
structure Bf {Γ:Type} (ops:Array Oper) (V:Γ->Nat->Value->Prop) (S:List Nat) (Ph:Nat->Γ->World->Prop) (a0:Act) (γ:Γ) (a:Act) (w:World):Prop where
 ph:Ph S.length γ w
 size:a.tmps.size=a0.tmps.size
 defers:a.defers=a0.defers
 keep:∀ t,(∀ (i:Nat) (o:Oper),ops[i]? = some o->o.dst≠some t)->a.tmps[t]? = a0.tmps[t]?
 done:∀ (i:Nat) (o:Oper) t,ops[i]? = some o->o.dst=some t->∃ u,a.tmps[t]? = some u/\V γ i u
def Iw {Γ:Type} (P:Program) (ops:Array Oper) (V:Γ->Nat->Value->Prop) (S:List Nat) (Ph:Nat->Γ->World->Prop) (a0:Act) (Q:Exit->Act->World->Prop):Nat->List Oper->Prop
 | _,[]=>True
 | i,o :: l=>Nx P ops V S Ph a0 Q i o/\Iw P ops V S Ph a0 Q (i+1) l
theorem Iw.all {Q:Exit->Act->World->Prop}:∀ {l:List Oper} {k:Nat},Iw P ops V S Ph a0 Q k l->∀ (i:Nat) (o:Oper),l[i]? = some o->Nx P ops V S Ph a0 Q (k+i) o
 | [],_,_,i,o,h=>by simp at h
 | x :: l,k,a,0,o,h=>by
  have e:x=o:=by simpa using h
  subst e; exact a.1
 | x :: l,k,a,i+1,o,h=>by
  have:=a.2.all i o (by simpa using h);rwa [show k+(i+1)=k+1+i from by omega]
theorem kV {E:Nat} {n:Nat} {l:List Oper} {w0:World} {Q:Exit->Act->World->Prop} (y:P.follows .mixedOrders=true) (V:Γ->Nat->Value->Prop) (S:List Nat) (Ph:Nat->Γ->World->Prop) (q:Γ) (s:BN l.toArray n=true) (m:chainB l.toArray S=true) (z:a0.tmps.size=n)
 (e:Ph 0 q w0.drew) (A:Iw P l.toArray V S Ph a0 Q 0 l) (u:∀ h a w,Bf l.toArray V S Ph a0 h a w->Q .normal a w):(Code.region E l.toArray true).wp P Q a0 w0:=by
 refine wp_region_any y (zB s m z (fun i o b=>by
  have:=A.all i o (by simpa using b);rwa [Nat.zero_add] at this) (fun h a w r=>u h a w ?_) l.toArray.size q (Array.replicate l.toArray.size false) a0 _ (by simp) ?_ ?_)
 · have c:=r (Array.replicate l.toArray.size true) (fun i x=>by rw [Array.getD_eq_getD_getElem?,Array.getElem?_replicate,if_pos x]; rfl);obtain⟨F,⟨G,B⟩,C⟩:=c.at_
   have D:F=S.length:=by
    rcases Nat.eq_zero_or_pos S.length with e | e
    · omega
    · have p:S[S.length - 1]? = some S[S.length - 1]:=δ (by omega);have j:=B _ _ p;rw [Array.getD_eq_getD_getElem?,Array.getElem?_replicate,if_pos (iM m p).1] at j;have:=of_decide_eq_true j.symm;omega
   subst D;exact⟨C,c.size,c.defers,fun t g=>c.keep t fun i o b v=>absurd v (g i o b),fun i o t b g=>c.done i o t b (by rw [Array.getD_eq_getD_getElem?,Array.getElem?_replicate,if_pos (Array.getElem?_eq_some_iff.1 b).1]; rfl) g⟩
 · exact v6 (List.length_filter_le _ _) (by simp)
 · have f:∀ i,(Array.replicate l.toArray.size false).getD i false=false:=by
    intro i;rw [Array.getD_eq_getD_getElem?,Array.getElem?_replicate]
    split <;> rfl
   exact⟨⟨0,⟨Nat.zero_le _,fun k i _=>by rw [f]; rfl⟩,e⟩,rfl,rfl,fun _ _=>rfl,fun i o t b d _=>(by rw [f] at d; cases d),fun i o H b d _=>(by rw [f] at d; cases d)⟩
theorem Bf.frame {m:Γ} {a:Act} {w:World} (h:Bf ops V S Ph a0 m a w) (b:List Nat) (p:ops.toList.filterMap (·.dst)=b) :
 ∃ f:Nat->Value,a = { tmps:=b.foldl (fun t d=>t.setIfInBounds d (f d)) a0.tmps,defers:=a0.defers }/\∀ (i:Nat) (o:Oper) t,ops[i]? = some o->o.dst=some t->V m i (f t):=by
 refine⟨fun d=>(a.tmps[d]?).getD undef,?_,fun i o t j q=>by
  obtain⟨u,e,c⟩:=h.done i o t j q;simp only [e,Option.getD_some];exact c⟩
 obtain⟨t,d⟩:=a;have e:=h.size;have c:=h.defers;have k:=h.keep;simp only at e c k;subst c
 congr 1
 apply Array.ext_getElem?
 intro i;rw [Bg (fun d=>(t[d]?).getD undef) b a0.tmps i];by_cases l:i<a0.tmps.size
 · by_cases g:i ∈ b
   · rw [if_pos ⟨g,l⟩,Array.getElem?_eq_getElem (by omega)]; rfl
   · rw [if_neg (fun h=>g h.1)];refine k i (fun r o j n=>g ?_);rw [<- p];exact List.mem_filterMap.2 ⟨o,Array.mem_toList_iff.2 (Array.mem_of_getElem? j),n⟩
 · rw [if_neg (fun h=>l h.2),Array.getElem?_eq_none (by omega),Array.getElem?_eq_none (by omega)]
end
end Go.Proofs.YtimglglgcgpjgabGreatDoor
