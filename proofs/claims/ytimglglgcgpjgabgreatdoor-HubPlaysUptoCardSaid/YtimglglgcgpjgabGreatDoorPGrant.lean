/- Of the proof of a statement: RWo, RcE, RcF, RcG, SvSame, Grant, DoD, PlRqD. -/
import Derived.Test.YtimglglgcgpjgabGreatDoorPDoB
import Derived.Test.YtimglglgcgpjgabGreatDoorPRPut
import Derived.Test.YtimglglgcgpjgabGreatDoorPWPutV
set_option linter.unusedVariables false
set_option linter.unusedSimpArgs false
set_option maxRecDepth 100000
set_option maxHeartbeats 8000000
namespace Go.Proofs.YtimglglgcgpjgabGreatDoor
open List (foldl_cons foldl_nil setIfInBounds_toArray set_cons_succ set_cons_zero)
open Go.RowKit
def xT (a:Type) (e:Nat) (b:a->List Value) (g:FuncId) (h:TypeId):Prop:=
 ∀ (p:a->Bool) (F:FuncId) (d:Array Value) (xs:List a) (A:Option Addr) (n c:Nat) (w:World) (i:∀ args w,(callFunc F args).run Tryz.prog w = .ok (.enter F args) w) (m:bg w w e A n (au b xs)) (j:xs.length=n) (k:n<=1000) (l:jX p F d b xs w),ψ g #[.slice A n c,.func (.func F) #[] d] w (D8 h e b (xs.filter fun f=>!p f) w)
theorem xU:xT aC 5 aS 100 86 /\ xT av 3 aH 103 81 /\ xT ak 3 aB 95 77:=by
 refine⟨@fun p S Z J A s c w aj hx hl hn hp=>(fun(z:Unit)=>?_) (),@fun p S Z J A s c w aj hx hl hn hp=>(fun(H aq:Unit)=>?_) () (),@fun p S Z J A s c w aj hx hl hn hp=>(fun(af aq:Unit)=>?_) () ()⟩<;>(
 first|(guard_hyp z;have ag:=@aU;have ah:Tg 17:=⟨⟩;have ai:Tg 12:=⟨⟩)|(guard_hyp H;have ag:=@aO;have ah:Tg 18:=⟨⟩;have ai:Tg 14:=⟨⟩)|(have ag:=@aI;have ah:Tg 19:=⟨⟩;have ai:Tg 16:=⟨⟩)
 obtain⟨P,hP⟩:∃ P,(J.filter fun g=>!p g)=P:=⟨_,rfl⟩;rw [hP];have HP:=ω hP;have Hl:=ω hl;have Hx:=ω hx;have Hp:=ω hp;clear hP hl hx hp
 first|(guard_hyp z;go_enter Tryz.func100,Tryz.ntmps100)|(guard_hyp H;go_enter Tryz.func103,Tryz.ntmps103)|go_enter Tryz.func95,Tryz.ntmps95
 go_wp2
 first|(guard_hyp z;go_loopw [5,10] (fun out o wr=>∃ (k:Nat) (A:Option Addr) (c:Nat) (l:List aC),k<=s/\o = .int .i64 k/\out = .slice A l.length c/\l=(J.take k).filter (fun g=>!p g)/\l.length<=k/\Below w w wr/\wr.ownsRow w 86 5 (.slice A l.length c) l.length (au aS l)) (fun _ o _=>s - (intOf o).toNat))|(guard_hyp H;go_loopw [5,10] (fun out o wr=>∃ (k:Nat) (A:Option Addr) (c:Nat) (l:List av),k<=s/\o = .int .i64 k/\out = .slice A l.length c/\l=(J.take k).filter (fun g=>!p g)/\l.length<=k/\Below w w wr/\wr.ownsRow w 81 3 (.slice A l.length c) l.length (au aH l)) (fun _ o _=>s - (intOf o).toNat))|go_loopw [5,10] (fun out o wr=>∃ (k:Nat) (A:Option Addr) (c:Nat) (l:List ak),k<=s/\o = .int .i64 k/\out = .slice A l.length c/\l=(J.take k).filter (fun g=>!p g)/\l.length<=k/\Below w w wr/\wr.ownsRow w 77 3 (.slice A l.length c) l.length (au aB l)) (fun _ o _=>s - (intOf o).toNat)
 case atStart=>exact⟨0,none,0,[],Nat.zero_le _,rfl,rfl,by simp,lQ,θ,World.ownsRow_nil _ _ _ _⟩
 case round=>
  obtain⟨k,A',c',l,hk,rfl,rfl,al,az,hb,ho⟩:=hrel;have N:=ω al;have HB:=ω hb;have W:=ω ho;have aw:=hb.size;clear al hb ho;by_cases hlt:k<s
  · obtain⟨y,hf⟩:∃ y,J[k]? = some y:=⟨_,δ (by have:=Hl.z; omega)⟩;obtain⟨bb,a2,ar,ax,hc⟩:=(Hx.below HB.z).dL ag Hl.z hf;subst ar;obtain⟨t,ht⟩:∃ t,p y=t:=⟨_,rfl⟩;have Hf:=ω hf;have Ht:=ω ht;have ao:=m8 hf
    first|(guard_hyp z;obtain⟨a,G⟩:∃ a,wr.alloc (.cells (aS y).toArray 86)=a:=⟨_,rfl⟩)|(guard_hyp H;obtain⟨a,G⟩:∃ a,wr.alloc (.cells (aH y).toArray 81)=a:=⟨_,rfl⟩)|obtain⟨a,G⟩:∃ a,wr.alloc (.cells (aB y).toArray 77)=a:=⟨_,rfl⟩
    have ae:Below wr wr a:=by rw [<- G]; exact (θ).alloc lQ _
    have d:=ω (show Blk a wr ah (ai y).toArray from by rw [<- G]; exact n5 wr _);have T:=ω (HB.trans (ae.mono aw));have r:=ω (Hp.z a T.z y ao);rw [ht] at r;have Hn:=ω (show ∀ q,(Value.slice A' l.length c').ownBlock=some q->w.heap.size<=q/\q<wr.heap.size from fun q x=>⟨(W.lt q x).1,(W.lt q x).2⟩);have ad:=ω (aF W.z ae);have e:=ω G;have a0:=d.lt;have ap:a.heap.size=wr.heap.size+1:=by rw [<- G]; simp
    clear hf ae G ht W ao
    first
     |(
      guard_hyp z
      obtain⟨b,E,F,D,I⟩:=y;have d:=ω (show Blk a wr 86 #[b,E,F,D,I] from d.z);have r:=ω (show ψ S (#[.agg #[b,E,F,D,I]] ++ Z) a fun O Y=>O = .returned (.bool t)/\Below a a Y from r.z);have e:=ω (show wr.alloc (.cells #[b,E,F,D,I] 86)=a from e.z);obtain⟨e0,e1,e2,e3,e4⟩:=rc5 hc;obtain⟨K,L,M,y3,y4⟩:=Blk.c5 (show Blk (χ wr #[b,E,F,D,I] 86) (wr.heap.size) _ _ from by rw [e.z]; exact d))
     |(
      guard_hyp H
      obtain⟨b,h,i⟩:=y;have d:=ω (show Blk a wr 81 #[b,h,i] from d.z);have r:=ω (show ψ S (#[.agg #[b,h,i]] ++ Z) a fun O Y=>O = .returned (.bool t)/\Below a a Y from r.z);have e:=ω (show wr.alloc (.cells #[b,h,i] 81)=a from e.z);obtain⟨e0,e1,e2⟩:=rc3 hc;have K:ζ (χ wr #[b,h,i] 81) wr 0 (.string b):=by rw [e.z]; exact d.cell 0
      have L:ζ (χ wr #[b,h,i] 81) wr 1 (.int .i64 h):=by rw [e.z]; exact d.cell 1
      have M:ζ (χ wr #[b,h,i] 81) wr 2 (.string i):=by rw [e.z]; exact d.cell 2)
     |(
      guard_hyp af
      obtain⟨n,j,m⟩:=y;have d:=ω (show Blk a wr 77 #[n,j,m] from d.z);have r:=ω (show ψ S (#[.agg #[n,j,m]] ++ Z) a fun O Y=>O = .returned (.bool t)/\Below a a Y from r.z);have e:=ω (show wr.alloc (.cells #[n,j,m] 77)=a from e.z);obtain⟨e0,e1,e2⟩:=rc3 hc;have K:ζ (χ wr #[n,j,m] 77) wr 0 (.string n):=by rw [e.z]; exact d.cell 0
      have L:ζ (χ wr #[n,j,m] 77) wr 1 (.string j):=by rw [e.z]; exact d.cell 1
      have M:ζ (χ wr #[n,j,m] 77) wr 2 (.int .i64 m):=by rw [e.z]; exact d.cell 2)
    have ay:bb<wr.heap.size:=by omega
    clear hc
    go_wp2_with fail
    try simp only [e.z]
    refine r.mono ?_;rintro O Q ⟨rfl,aa⟩;have u:=ω (d.below aa d.lt);have C:=ω (aF ad.z aa);have U:=ω (T.trans (aa.mono T.size));have mo:=U.size;have a1:=u.lt
    first
     |(
      guard_hyp z
      clear aa r e d ad T ap e0 e1 e2 e3 e4 K L M y3 y4)
     |(
      guard_hyp aq
      clear aa r e d ad T ap e0 e1 e2 K L M)
    cases t
    · have X:=ω (ni (p:=fun g=>!p g) Hf.z (by simp only [Ht.z]; rfl))
      first
       |(
        guard_hyp z
        have v:(l ++ [(⟨b,E,F,D,I⟩:aC)]).length=l.length+1:=by simp
        obtain⟨K,L,M,y3,y4⟩:=Blk.c5 (u.z)
        go_wp2_with (at_builtin; refine cI aS rfl _ _ 22 86 (.agg #[.string ⟨#[]⟩,(0:Int),(0:Int),(0:Int),.string ⟨#[]⟩]) 5 56 rfl Tryz.underlying22 mA rfl (by decide) aU kP w _ _ _ l rfl C.z _ ⟨b,E,F,D,I⟩ rfl _ (by simp) rfl (by omega) (by unfold maxLen; omega) (by omega) ?_; intro R c2 w3 ac ab; have V:=ω (U.trans (ab.below (B:=w.heap.size) mo (fun q x=>by have:=(C.lt q x).1; omega)))))
       |(
        guard_hyp H
        have v:(l ++ [(⟨b,h,i⟩:av)]).length=l.length+1:=by simp
        have K:ζ Q wr 0 (.string b):=u.cell 0;have L:ζ Q wr 1 (.int .i64 h):=u.cell 1;have M:ζ Q wr 2 (.string i):=u.cell 2
        go_wp2_with (at_builtin; refine cI aH rfl _ _ 23 81 (.agg #[.string ⟨#[]⟩,(0:Int),.string ⟨#[]⟩]) 3 40 rfl Tryz.underlying23 kO rfl (by decide) aO jm w _ _ _ l rfl C.z _ ⟨b,h,i⟩ rfl _ (by simp) rfl (by omega) (by unfold maxLen; omega) (by omega) ?_; intro R c2 w3 ac ab; have V:=ω (U.trans (ab.below (B:=w.heap.size) mo (fun q x=>by have:=(C.lt q x).1; omega)))))
       |(
        guard_hyp af
        have v:(l ++ [(⟨n,j,m⟩:ak)]).length=l.length+1:=by simp
        have K:ζ Q wr 0 (.string n):=u.cell 0;have L:ζ Q wr 1 (.string j):=u.cell 1;have M:ζ Q wr 2 (.int .i64 m):=u.cell 2
        go_wp2_with (at_builtin; refine cI aB rfl _ _ 24 77 (.agg #[.string ⟨#[]⟩,.string ⟨#[]⟩,(0:Int)]) 3 40 rfl Tryz.underlying24 jl rfl (by decide) aI gW w _ _ _ l rfl C.z _ ⟨n,j,m⟩ rfl _ (by simp) rfl (by omega) (by unfold maxLen; omega) (by omega) ?_; intro R c2 w3 ac ab; have V:=ω (U.trans (ab.below (B:=w.heap.size) mo (fun q x=>by have:=(C.lt q x).1; omega)))))
      go_roundw
      first
       |(
        guard_hyp z
        case rel=>exact⟨k+1,R,c2,l ++ [(⟨b,E,F,D,I⟩:aC)],by omega,by go_num,by rw [v],by rw [X.z,<- N.z],by omega,V,by rw [v]; exact ac⟩)
       |(
        guard_hyp H
        case rel=>exact⟨k+1,R,c2,l ++ [(⟨b,h,i⟩:av)],by omega,by go_num,by rw [v],by rw [X.z,<- N.z],by omega,V,by rw [v]; exact ac⟩)
       |(
        guard_hyp af
        case rel=>exact⟨k+1,R,c2,l ++ [(⟨n,j,m⟩:ak)],by omega,by go_num,by rw [v],by rw [X.z,<- N.z],by omega,V,by rw [v]; exact ac⟩)
      case measure=>simp [intOf]; omega
    · have X:=ω (oU (p:=fun g=>!p g) Hf.z (by simp only [Ht.z]; rfl));go_wp2
      go_roundw
      case rel=>exact⟨k+1,A',c',l,by omega,by go_num,rfl,by rw [X.z,<- N.z],by omega,U,C⟩
      case measure=>simp [intOf]; omega
  · obtain rfl:s=k:=by omega
    have am:l=P:=by rw [N.z,<- HP.z,List.take_of_length_le (by have:=Hl.z; omega)]
    have HL:=ω am;clear am N HP;go_wp2;go_ret;rw [<- HL.z];exact⟨A',c',rfl,W,HB⟩)
structure Ii (w:World) (q:aL) (J:Value->World->Prop) (v:Value) (wx:World):Prop where
 qb:Blk wx w 88 (aT q)
 pb:J v wx
 below:Below w w wx
structure ROk (q:aL):Prop where
 j1:q.job.name.size<=9223372036854775807
 j2:q.job.tag.size<=9223372036854775807
 n1:q.node.name.size<=9223372036854775807
 n2:q.node.zone.size<=9223372036854775807
 l1:q.lease.job.size<=9223372036854775807
 l2:q.lease.node.size<=9223372036854775807
 s:q.name.size<=9223372036854775807
def ckV (B:Nat) (T:TypeId) (v:Value) (q h:aL) (t:Bool):Nat->Value->Prop
 | 0,u=>u = π B 0
 | 1,u=>u = .int .i64 q.kind
 | 2,u=>u = .iface T v
 | 3,u=>u = .agg #[.int .i64 h.kind,.string h.job.name,.int .i64 h.job.prio,.int .i64 h.job.need,.int .i64 h.job.tries,.string h.job.tag,.string h.node.name,.int .i64 h.node.room,.string h.node.zone,.string h.lease.job,.string h.lease.node,.int .i64 h.lease.till,.string h.name,.int .i64 h.n]
 | 4,u=>u = .agg #[.int .i64 q.kind,.string q.job.name,.int .i64 q.job.prio,.int .i64 q.job.need,.int .i64 q.job.tries,.string q.job.tag,.string q.node.name,.int .i64 q.node.room,.string q.node.zone,.string q.lease.job,.string q.lease.node,.int .i64 q.lease.till,.string q.name,.int .i64 q.n]
 | 5,u=>u = .bool (!t)
 | 6,u=>u = .bool (!t)
 | _,_=>False
theorem nE (q h:aL) (w:World) (T:TypeId) (F:FuncId) (K:Int) (J:Value->World->Prop) (hJ:∀ v w w',J v w->Below w w w'->J v w')
 (hn:∀ v (w:World),(binOp .eql 151 (.iface T v) .nilIface).run Tryz.prog w = .ok (.bool false) w)
 (ae:(h≠q->cN q=4)/\(h=q->cN q=K))
 (m:∀ w,ψ 73 #[bO q] w fun o w'=>∃ v,o = .returned (.iface T v)/\J v w'/\Below w w w')
 (r:∀ v w,J v w->ψ 75 #[q.kind,.iface T v] w fun o w'=>o = .returned (bO h)/\Below w w w')
 (X : ∀ v w, J v w -> ∀ w', (method 417 T v "bracken/req.check").run Tryz.prog w' = .ok (F, v) w')
 (hc:∀ a (w:World),(callFunc F a).run Tryz.prog w = .ok (.enter F a) w)
 (p:∀ v i,J v i->Below w w i->ψ F #[v] i (bH K i)) :
 ψ 76 #[bO q] w (bH (cN q) w):=by
 obtain⟨W,C⟩:∃ W,w.alloc (.cells (aT q) 88)=W:=⟨_,rfl⟩;have c:Blk W w 88 (aT q):=by rw [<- C]; exact n5 w _
 have ab:Below w w W:=by rw [<- C]; exact (θ).alloc lQ _
 have m:=ω (m W);have V:=ω p;have Y:=ω X;have B:=ω r;have E:=ω (show ∀ v (b:World) w',Below b b w'->Ii w q J v b->Ii w q J v w' from fun v _ _ c h=>⟨h.qb.below c h.qb.lt,hJ v _ _ h.pb c,h.below.trans (c.mono h.below.size)⟩);obtain⟨t,ht,om⟩:=pJ h q;have u:∀ W,(binOp .neq 88 (.agg #[h.kind,h.job.name,h.job.prio,h.job.need,h.job.tries,h.job.tag,h.node.name,h.node.room,h.node.zone,h.lease.job,h.lease.node,h.lease.till,h.name,h.n]) (.agg (nY q))).run Tryz.prog W = .ok (.bool (!t)) W:=om;clear om;obtain⟨c0,c1,c2,c3,c4,c5,c6,c7,c8,c9,af,ag,ah,ai⟩:=Blk.c14 (c);have hlt:=c.lt;have Hq:=ω c;have Z:=ω ab;have z:=ω ae;have H:=ω ht;have xV:=ω u;have G:=ω C;clear c ab ae ht u C p X r hJ;obtain⟨x,N⟩:∃ x,cN q=x:=⟨_,rfl⟩;rw [N];have y:=ω N;clear N;unfold bO at m B |-;unfold aT at m |-;unfold aT at G B;go_enter Tryz.func76,Tryz.ntmps76
 go_wp2_with fail
 try simp only [G.z]
 clear G;refine m.mono ?_;rintro o w1 ⟨v,rfl,ad,O⟩;have S:Ii w q J v w1:=⟨Hq.below O Hq.lt,ad,Z.trans (O.mono Z.size)⟩;have r:=ω (B.z v);clear ad O m B c0 c1 c2 c3 c4 c5 c6 c7 c8 c9 af ag ah ai hlt
 go_wp2_with fail
 have u:=xV.z;refine rq (Γ:=Unit) 18 (fun _=>ckV w T v q h t) [] (fun _ _ b=>Ii w q J v b) () (E.z v _ _ (θ).drew S) ?_ ?_
 · refine⟨?_,?_,?_,?_,?_,?_,?_,trivial⟩
   · exact ok0 0 0 1 rfl fun _=>rfl
   · refine okQ 0 0 fun R D a b _ _ d e=>?_;obtain⟨u1,l,rfl⟩:=e.g 0 10 rfl rfl;have P:ζ b w 0 (.int .i64 q.kind):=d.qb.cell 0;simp [go_sem,Oper.wp,execOp,Act.eval,l,P];exact⟨_,rfl,rfl,d⟩
   · exact ok0 0 0 3 rfl fun _=>rfl
   · refine okQ 0 0 fun R D a b _ _ d e=>?_;obtain⟨u1,l,rfl⟩:=e.g 1 11 rfl rfl;obtain⟨u2,L,rfl⟩:=e.g 2 12 rfl rfl;simp [go_sem,Oper.wp,execOp,Act.eval,l,L];refine (r.z b d.pb).mono ?_;rintro o w' ⟨rfl,c⟩;exact⟨_,rfl,rfl,E.z v b w' c d⟩
   · refine okQ 0 0 fun R D a b _ _ d e=>?_;have l:=e.k 1 rfl;obtain⟨P,aj,ak,al,am,ao,ap,aq,ar,au,F1,F4,F5,F6⟩:=Blk.c14 (d.qb);simp [go_sem,Oper.wp,execOp,Act.eval,l,P,aj,ak,al,am,ao,ap,aq,ar,au,F1,F4,F5,F6];exact⟨_,rfl,rfl,d⟩
   · refine okQ 0 0 fun R D a b _ _ d e=>?_;obtain⟨u1,l,rfl⟩:=e.g 3 13 rfl rfl;obtain⟨u2,L,rfl⟩:=e.g 4 14 rfl rfl;simp [go_sem,Oper.wp,execOp,Act.eval,l,L,u];exact⟨_,rfl,rfl,d⟩
   · exact ok1 0 0 5 15 rfl rfl (fun _ _ h=>h) fun _=>rfl
 intro D a i Q;have j:=ω Q.ph;obtain⟨fv,rfl,ac⟩:=Q.frame [10,11,12,13,14,15,9] rfl;have h9:fv 9 = .bool (!t):=ac 6 _ 9 rfl rfl;clear Q ac S r u xV;simp only [foldl_cons,foldl_nil,setIfInBounds_toArray,set_cons_succ,set_cons_zero,h9];clear h9;cases t
 · have s:cN q=4:=z.z.1 (fun h=>by have:=H.z.2 h; cases this);obtain rfl:(4:Int)=x:=s.symm.trans y.z;have I:=ω (show bH 4 w (.returned (.int .i64 4)) i from ⟨rfl,j.below⟩);clear s z H y;go_wp2;go_ret;exact I
 · have s:cN q=K:=z.z.2 (H.z.1 rfl);obtain rfl:K=x:=s.symm.trans y.z;have p:=ω (V.z v i j.pb j.below);clear s z y;have hm:=Y.z v i j.pb;clear Y V E
   go_wp2_with fail
   refine p.mono ?_;rintro o w5 ⟨rfl,aa⟩;have U:=ω (j.below.trans (aa.mono j.below.size));have I:=ω (show bH K w (.returned (.int .i64 K)) w5 from ⟨rfl,U⟩);clear aa p j U hm;go_wp2;go_ret;exact I
def PtJ (T:TypeId) (cs:Array Value) (v:Value) (w:World):Prop:=∃ P,v = .pointer (some ⟨P,0,none⟩)/\Blk w P T cs
theorem PtJ.kept {T:TypeId} {cs:Array Value} (v:Value) (w w':World) (h:PtJ T cs v w) (a:Below w w w'):PtJ T cs v w':=by
 obtain⟨P,rfl,h⟩:=h;exact⟨P,rfl,h.below a h.lt⟩
theorem xW {q h:aL} {K:Int} (b:ranged q.kind 1 9=true) (c:qI q=h) (d:eL q=K):(h≠q->cN q=4)/\(h=q->cN q=K):=by
 subst c d;unfold cN;rw [if_neg (by simp [b])];exact⟨fun h=>if_pos h,fun h=>if_neg (fun a=>a h)⟩
theorem KO (q:aL) (w:World) (a:q.kind=1) (c:ROk q) (e:Tabs w):ψ 76 #[bO q] w (bH (cN q) w):=by
 refine nE q ⟨q.kind,q.job,aV,aN,⟨#[]⟩,0⟩ w 206 264 (eL q) (PtJ 208 #[q.job.name,q.job.prio,q.job.need,q.job.tries,q.job.tag]) PtJ.kept ?_ (xW (by rw [a]; rfl) (by unfold qI; simp [a]) rfl) (fun w=>(gZ.1 q w a).mono fun k i h=>?_) ?_ ?_ ?_ ?_
 · exact fun _ _=>rfl
 · obtain⟨P,rfl,-,h,b⟩:=h;exact⟨_,rfl,⟨P,rfl,h⟩,b⟩
 · rintro v d ⟨P,rfl,h⟩;exact B4 q P d h
 · rintro v d ⟨P,rfl,h⟩ i;kernel_rfl
 · exact fun _ _=>by kernel_rfl
 · rintro v j ⟨P,rfl,h⟩ b;have g:eL q=fG q.job:=by unfold eL; simp [a]
   rw [g];exact F7 q.job P j h c.j1 c.j2 (e.below b)
theorem KP (q:aL) (w:World) (a:q.kind=2) (c:ROk q) (e:Tabs w):ψ 76 #[bO q] w (bH (cN q) w):=by
 refine nE q ⟨q.kind,bK,q.node,aN,⟨#[]⟩,0⟩ w 209 273 (eL q) (PtJ 211 #[q.node.name,q.node.room,q.node.zone]) PtJ.kept ?_ (xW (by rw [a]; rfl) (by unfold qI; simp [a]) rfl) (fun w=>(gZ.2.1 q w a).mono fun k i h=>?_) ?_ ?_ ?_ ?_
 · exact fun _ _=>rfl
 · obtain⟨P,rfl,-,h,b⟩:=h;exact⟨_,rfl,⟨P,rfl,h⟩,b⟩
 · rintro v d ⟨P,rfl,h⟩;exact AF q P d h
 · rintro v d ⟨P,rfl,h⟩ i;kernel_rfl
 · exact fun _ _=>by kernel_rfl
 · rintro v j ⟨P,rfl,h⟩ b;have g:eL q=dE q.node:=by unfold eL; simp [a]
   rw [g];exact D9 q.node P j h c.n1 c.n2 (e.below b)
theorem KQ (q:aL) (w:World) (a:q.kind=5) (c:ROk q) (e:Tabs w):ψ 76 #[bO q] w (bH (cN q) w):=by
 refine nE q ⟨q.kind,bK,aV,q.lease,⟨#[]⟩,0⟩ w 212 278 (eL q) (PtJ 214 #[q.lease.job,q.lease.node,q.lease.till]) PtJ.kept ?_ (xW (by rw [a]; rfl) (by unfold qI; simp [a]) rfl) (fun w=>(gZ.2.2.1 q w a).mono fun k i h=>?_) ?_ ?_ ?_ ?_
 · exact fun _ _=>rfl
 · obtain⟨P,rfl,-,h,b⟩:=h;exact⟨_,rfl,⟨P,rfl,h⟩,b⟩
 · rintro v d ⟨P,rfl,h⟩;exact yY q P d h
 · rintro v d ⟨P,rfl,h⟩ i;kernel_rfl
 · exact fun _ _=>by kernel_rfl
 · rintro v j ⟨P,rfl,h⟩ b;have g:eL q=lsE q.lease:=by unfold eL; simp [a]
   rw [g];exact C4 q.lease P j h c.l1 c.l2 (e.below b)
def vo (a:Nat):Prop:=
 ∀ (q:aL) (w:World) (d:q.kind=a) (c:ROk q) (b:Tabs w),ψ 76 #[bO q] w (bH (cN q) w)
theorem vv:vo 3/\vo 4/\vo 6:=by
 refine⟨@fun q w a d b=>(fun(j:Unit)=>?_) (),@fun q w a d b=>(fun(k:Unit)=>?_) (),@fun q w a d b=>?_⟩<;>(
 first|(guard_hyp j;have e:=@gZ.2.2.2.1)|(guard_hyp k;have e:=@gZ.2.2.2.2.1)|(have e:=@gZ.2.2.2.2.2.1)
 refine nE q ⟨q.kind,bK,aV,aN,q.name,0⟩ w 216 283 (eL q) (PtJ 215 #[q.name]) PtJ.kept ?_ (xW (by rw [a]; rfl) (by unfold qI; simp [a]) rfl) (fun w=>(e q w a).mono fun n l h=>?_) ?_ ?_ ?_ ?_
 · exact fun _ _=>rfl
 · obtain⟨P,rfl,-,h,c⟩:=h;exact⟨_,rfl,⟨P,rfl,h⟩,c⟩
 · rintro v g ⟨P,rfl,h⟩;exact AG q P g h
 · rintro v g ⟨P,rfl,h⟩ l;kernel_rfl
 · exact fun _ _=>by kernel_rfl
 · rintro v m ⟨P,rfl,h⟩ c;have i:eL q=if cP q.name=true then 0 else 4:=by unfold eL; simp [a]
   rw [i];exact Ea q.name P m h d.s (b.below c))
theorem KR (q:aL) (w:World) (a:q.kind=7) (k:ROk q) (j:Tabs w):ψ 76 #[bO q] w (bH (cN q) w):=by
 refine nE q ⟨q.kind,bK,aV,aN,⟨#[]⟩,q.n⟩ w 218 287 (eL q) (PtJ 217 #[q.n]) PtJ.kept ?_ (xW (by rw [a]; rfl) (by unfold qI; simp [a]) rfl) (fun w=>(gZ.2.2.2.2.2.2 q w a).mono fun i e h=>?_) ?_ ?_ ?_ ?_
 · exact fun _ _=>rfl
 · obtain⟨P,rfl,-,h,b⟩:=h;exact⟨_,rfl,⟨P,rfl,h⟩,b⟩
 · rintro v c ⟨P,rfl,h⟩;exact yZ q P c h
 · rintro v c ⟨P,rfl,h⟩ e;kernel_rfl
 · exact fun _ _=>by kernel_rfl
 · rintro v g ⟨P,rfl,h⟩ b;have d:eL q=if ranged q.n 0 1099511627776=true then 0 else 1:=by unfold eL; simp [a]
   rw [d];exact C5 q.n P g h
def Eb (a:Nat):Prop:=
 ∀ (q:aL) (w:World) (c:q.kind=a),ψ 73 #[bO q] w fun e b=>e = .returned (.iface 220 (.agg #[]))/\Below w w b
theorem wF:Eb 8/\Eb 9:=by
 refine⟨@fun q w b=>(fun(h:Unit)=>?_) (),@fun q w b=>?_⟩<;>(
 first|(guard_hyp h;have e:Tg 55:=⟨⟩)|(have e:Tg 56:=⟨⟩)
 obtain⟨W,a⟩:∃ W,w.alloc (.cells (aT q) 88)=W:=⟨_,rfl⟩;have c:Blk W w 88 (aT q):=by rw [<- a]; exact n5 w _
 have d:Below w w W:=by rw [<- a]; exact (θ).alloc lQ _
 have i:ζ W w 0 (.int .i64 e):=by rw [c.cell 0]; exact congrArg (fun k=>some (Value.int .i64 k)) b
 have g:=ω d;unfold bO;unfold aT at a |-;clear b c d;go_enter Tryz.func73,Tryz.ntmps73;go_wp2
 try rw [a]
 clear a;go_ret;exact⟨rfl,g⟩)
theorem KS (q:aL) (w:World) (d:ranged q.kind 1 9=false):ψ 73 #[bO q] w fun g i=>g = .returned .nilIface/\Below w w i:=by
 obtain⟨W,a⟩:∃ W,w.alloc (.cells (aT q) 88)=W:=⟨_,rfl⟩;have b:Blk W w 88 (aT q):=by rw [<- a]; exact n5 w _
 have c:Below w w W:=by rw [<- a]; exact (θ).alloc lQ _
 have u:ζ W w 0 (.int .i64 q.kind):=b.cell 0;have h:=fT.1 d;have j:(q.kind == 1)=false:=eY (by omega);have k:(q.kind == 2)=false:=eY (by omega);have l:(q.kind == 3)=false:=eY (by omega);have m:(q.kind == 4)=false:=eY (by omega);have n:(q.kind == 5)=false:=eY (by omega);have o:(q.kind == 6)=false:=eY (by omega);have p:(q.kind == 7)=false:=eY (by omega);have r:(q.kind == 8)=false:=eY (by omega);have s:(q.kind == 9)=false:=eY (by omega);have e:=ω c;unfold bO;unfold aT at a |-;clear d b c h;go_enter Tryz.func73,Tryz.ntmps73;go_wp2
 try rw [a]
 clear a;go_ret;exact⟨rfl,e⟩
theorem Jf (p:Value) (w:World):ψ 292 #[.agg #[],p] w fun e a=>e = .returned (.tuple #[])/\Below w w a:=by
 go_enter Tryz.func292,Tryz.ntmps292;go_wp2;go_end0;exact⟨rfl,(θ).alloc lQ _⟩
theorem Ec (w:World):ψ 291 #[.agg #[]] w (bH 0 w):=by
 go_enter Tryz.func291,Tryz.ntmps291;go_wp2;go_ret;exact⟨rfl,(θ).alloc lQ _⟩
theorem AH (q:aL) (w:World):ψ 75 #[q.kind,.iface 220 (.agg #[])] w fun e b=>e = .returned (bO (dI q.kind))/\Below w w b:=
 oV q.kind _ _ 292 _ w (fun _=>by kernel_rfl) (fun _ _=>by kernel_rfl) (fun W S i d a=>(Jf _ W).mono fun e b h=>⟨h.1,a.below h.2 a.lt,fun g c _=>h.2.block g c,h.2.mono (Nat.le_of_lt a.lt)⟩)
def AI (a:Nat):Prop:=
 ∀ (q:aL) (w:World) (b:q.kind=a),ψ 76 #[bO q] w (bH (cN q) w)
theorem AJ:AI 8/\AI 9:=by
 refine⟨@fun q w a=>(fun(d:Unit)=>?_) (),@fun q w a=>?_⟩<;>(
 first|(guard_hyp d;have b:=@wF.1)|(have b:=@wF.2)
 refine nE q (dI q.kind) w 220 291 0 (fun v _=>v = .agg #[]) (fun _ _ _ h _=>h) ?_ (xW (by rw [a]; rfl) (by unfold qI; simp [a,dI]) (by unfold eL; simp [a])) (fun w=>(b q w a).mono fun i e h=>⟨_,h.1,rfl,h.2⟩) ?_ ?_ ?_ ?_
 · exact fun _ _=>rfl
 · rintro v c rfl;exact AH q c
 · rintro v c rfl e;kernel_rfl
 · exact fun _ _=>by kernel_rfl
 · rintro v g rfl j;exact Ec g)
theorem KT (q:aL) (w:World) (e:ranged q.kind 1 9=false):ψ 76 #[bO q] w (bH (cN q) w):=by
 obtain⟨W,b⟩:∃ W,w.alloc (.cells (aT q) 88)=W:=⟨_,rfl⟩;have d:Blk W w 88 (aT q):=by rw [<- b]; exact n5 w _
 have i:Below w w W:=by rw [<- b]; exact (θ).alloc lQ _
 have a:=ω (KS q W e);have j:cN q=1:=by unfold cN; rw [if_pos e]
 rw [j];obtain⟨c0,l,c2,r,c4,c5,s,u,c8,v,m,n,o,p⟩:=Blk.c14 (d);have hlt:=d.lt;have g:=ω i;have c:=ω b;clear d i j b e;unfold bO at a |-;unfold aT at a |-;unfold aT at c;have z:∀ (w:World),(binOp .eql 151 .nilIface .nilIface).run Tryz.prog w = .ok (.bool true) w:=fun _=>rfl;go_enter Tryz.func76,Tryz.ntmps76
 go_wp2_with fail
 try simp only [c.z]
 clear c;refine a.mono ?_;rintro y x ⟨rfl,h⟩;have k:=ω (show bH 1 w (.returned (.int .i64 1)) x from ⟨rfl,g.trans (h.mono g.size)⟩);clear h a c0 l c2 r c4 c5 s u c8 v m n o p hlt;go_wp2;go_ret;exact k
theorem za (q:aL) (w:World) (b:ROk q) (a:Tabs w):ψ 76 #[bO q] w (bH (cN q) w):=by
 cases c:ranged q.kind 1 9 with
 | false=>exact KT q w c
 | true=>
  obtain⟨d,e⟩:=aM.1 c;have:q.kind=1\/q.kind=2\/q.kind=3\/q.kind=4\/q.kind=5\/q.kind=6\/q.kind=7\/q.kind=8\/q.kind=9:=by omega
  rcases this with h | h | h | h | h | h | h | h | h
  · exact KO q w h b a
  · exact KP q w h b a
  · exact vv.1 q w h b a
  · exact vv.2.1 q w h b a
  · exact KQ q w h b a
  · exact vv.2.2 q w h b a
  · exact KR q w h b a
  · exact AJ.1 q w h
  · exact AJ.2 q w h
def Jg (q:aL):Prop:=∀ w,Tabs w->ψ 76 #[bO q] w (bH (cN q) w)
theorem sY {q:aL} (b:ROk q):Jg q:=fun w a=>za q w b a
def tV (a b:ah) (w:World) (e:Ending) (w':World):Prop:=
 ∃ t:Bool,e = .returned (.bool t)/\(t=true↔a.jobs=b.jobs/\a.nodes=b.nodes/\a.leases=b.leases)/\Below w w w'
structure zJ (w:World) (a b:ah) (x y:StA) (wx:World):Prop where
 below:Below w w wx
 b1:Blk wx w 26 (stC a x)
 b2:Blk wx (w.heap.size+1) 26 (stC b y)
theorem zJ.next {w w' d:World} {a b:ah} {x y:StA} (h:zJ w a b x y d) (c:Below d d w'):zJ w a b x y w':=
 ⟨h.below.trans (c.mono h.below.size),h.b1.below c h.b1.lt,h.b2.below c h.b2.lt⟩
theorem B5 {w a:World} {sz n:Nat} {A:Option Addr} {xs:List Value} (h:bg w w sz A n xs) (b:Below w w a):bg a a sz A n xs:=(h.below b).more b.size
theorem B6 (a b:ah) (x y:StA) (w:World) (D:StAt w w a x) (E:StAt w w b y) :
 ψ 78 #[.agg (stC a x),.agg (stC b y)] w (tV a b w):=by
 obtain⟨W,m⟩:∃ W,(w.alloc (.cells (stC a x) 26)).alloc (.cells (stC b y) 26)=W:=⟨_,rfl⟩
 have i:=ω (show zJ w a b x y W from by
  rw [<- m];refine⟨((θ).alloc lQ _).alloc (by simp) _,Blk.alloc (show Blk _ _ _ _ from n5 w _) _,?_⟩;have:=n5 (χ w (stC a x) 26) (.cells (stC b y) 26);rwa [show (w.alloc (.cells (stC a x) 26)).heap.size=w.heap.size+1 by simp] at this)
 have c:=ω D;have d:=ω E;clear D E;have P:ζ W w 1 (.slice x.aj x.nj x.cj):=i.b1.cell 1;have S:ζ W (w.heap.size+1) 1 (.slice y.aj y.nj y.cj):=i.b2.cell 1;have r:=ω (AK.1 a.jobs b.jobs x.aj y.aj x.nj y.nj x.cj y.cj W (B5 c.j i.below) (B5 d.j i.below) c.lj d.lj c.bj d.bj);unfold stC at m |-;go_enter Tryz.func78,Tryz.ntmps78
 go_wp2_with fail
 try rw [m]
 clear m;refine r.mono ?_;rintro C o ⟨M,rfl,I,F⟩;have e:=ω (i.next F);have v:=ω I;clear F I r P S i;cases M
 · have k:=ω (show tV a b w (.returned (.bool false)) o from ⟨false,rfl,⟨fun h=>(by cases h),fun h=>absurd (v.z.2 h.1) (by decide)⟩,e.below⟩);go_wp2;go_ret;exact k
 have Q:ζ o w 2 (.slice x.an x.nn x.cn):=e.b1.cell 2;have T:ζ o (w.heap.size+1) 2 (.slice y.an y.nn y.cn):=e.b2.cell 2;have u:=ω (AK.2 a.nodes b.nodes x.an y.an x.nn y.nn x.cn y.cn o (B5 c.n e.below) (B5 d.n e.below) c.ln d.ln c.bn d.bn)
 go_wp2_with fail
 refine u.mono ?_;rintro C p ⟨N,rfl,J,G⟩;have g:=ω (e.next G);have z:=ω J;clear G J u Q T e;cases N
 · have k:=ω (show tV a b w (.returned (.bool false)) p from ⟨false,rfl,⟨fun h=>(by cases h),fun h=>absurd (z.z.2 h.2.1) (by decide)⟩,g.below⟩);go_wp2;go_ret;exact k
 have R:ζ p w 3 (.slice x.al x.nl x.cl):=g.b1.cell 3;have U:ζ p (w.heap.size+1) 3 (.slice y.al y.nl y.cl):=g.b2.cell 3;have s:=ω (FQ a.leases b.leases x.al y.al x.nl y.nl x.cl y.cl p (B5 c.l g.below) (B5 d.l g.below) c.ll d.ll c.bl d.bl)
 go_wp2_with fail
 refine s.mono ?_;rintro C O ⟨q,rfl,K,H⟩;have L:=ω (g.next H);have B:=ω K;clear H K s R U g;have k:=ω (show tV a b w (.returned (.bool q)) O from ⟨q,rfl,⟨fun h=>⟨v.z.1 (by trivial),z.z.1 (by trivial),B.z.1 h⟩,fun h=>B.z.2 h.2.2⟩,L.below⟩);cases q
 · go_wp2;go_ret;exact k
 · go_wp2;go_ret;exact k
theorem Ed {st:ah} {now:Int} {l:ak} (c:cF aC.name st.jobs) (h:isL aC.name st.jobs l.job=false):oG st now l=(6,st,now):=by
 rw [qz c] at h;unfold oG cD
 cases b:st.jobs.find? fun a=>decide (a.name=l.job) with
 | none=>rfl
 | some j=>rw [b] at h; cases h
theorem Ee {st:ah} {now:Int} {l:ak} {j:aC} (h:cF aC.name st.jobs) (g:cF av.name st.nodes) (f:cF ak.job st.leases) (d:st.jobs[eV aC.name st.jobs l.job]? = some j) (e:j.name=l.job) :
 oG st now l=if isL av.name st.nodes l.node=false then (6,st,now) else if isL ak.job st.leases l.job=true then (7,st,now) else if l.till<=now then (1,st,now) else if j.tries=100 then (2,st,now) else (aE (jY st j l),jY st j l,now):=by
 have a:cD st.jobs l.job=some j:=ME h d e;have b:isL av.name st.nodes l.node=(bU st.nodes l.node).isSome:=qz g;have c:isL ak.job st.leases l.job=(cE st.leases l.job).isSome:=qz f;unfold oG;rw [a,b,c]
theorem Ef {l:List aC} {s:ByteArray} {j:aC} (d:cF aC.name l) (hi:isL aC.name l s=true) (b:l[eV aC.name l s]? = some j) (c:j.name=s):jE aC.name l (zw j)=l.set (eV aC.name l s) (zw j):=by
 have a:aC.name (zw j)=s:=c;rw [sB d,a,if_pos hi,List.set_eq_take_append_cons_drop,if_pos (List.getElem?_eq_some_iff.1 b).1]
structure wG (w:World) (base:Nat) (st:ah) (x:StA) (N WK L:Nat) (now:Int) (l:ak) (wx:World):Prop where
 lb:Blk wx L 77 #[l.job,l.node,l.till]
 wa:uy wx base st x N WK now
 below:Below w w wx
theorem wG.next {w w' b:World} {base:Nat} {st:ah} {x:StA} {N c L:Nat} {now:Int} {l:ak} (h:wG w base st x N c L now l b) (a:Below b b w'):wG w base st x N c L now l w':=
 ⟨h.lb.below a h.lb.lt,h.wa.below a,h.below.trans (a.mono h.below.size)⟩
structure Oa (w W:World) (base:Nat) (st:ah) (x:StA) (N WK L:Nat) (now:Int) (l:ak) (js:List aC) (ls:List ak) (p:Nat) (γ:rD) (wx:World):Prop where
 lb:Blk wx L 77 #[l.job,l.node,l.till]
 wk:Blk wx WK 159 #[π N 0,now]
 nb:Blk wx N 26 #[st.rev,.slice x.aj x.nj x.cj,.slice x.an x.nn x.cn,if p<2 then .slice x.al x.nl x.cl else .slice γ.A γ.m γ.c]
 below:Below base w wx
 j:wx.ownsRow base 86 5 (.slice x.aj x.nj x.cj) x.nj (au aS js)
 n:wx.ownsRow base 81 3 (.slice x.an x.nn x.cn) x.nn (au aH st.nodes)
 here:p=0->wx=W.drew
 unset:p=0->γ.s=false
 r:0<p->wx.ownsRow base 77 3 (.slice γ.A γ.m γ.c) γ.m (au aB ls)/\γ.m=ls.length
def gr1V (N a L:Nat) (x:StA) (l:ak) (t:Nat) (i:Bool):Nat->Value->Prop
 | 0,u=>u = π a 0
 | 1,u=>u = π a 0
 | 2,u=>u = π a 0
 | 3,u=>u = π N 0
 | 4,u=>u = π N 0
 | 5,u=>u = π N 1
 | 6,u=>u = .slice x.aj x.nj x.cj
 | 7,u=>u = π L 0
 | 8,u=>u = .string l.job
 | 9,u=>u = .tuple #[.int .i64 (t:Int),.bool i]
 | 10,u=>u = .tuple #[.int .i64 (t:Int),.bool i]
 | 11,u=>u = .int .i64 (t:Int)
 | 12,u=>u = .bool i
 | 13,u=>u = .int .i64 (t:Int)
 | 14,u=>u = .bool i
 | _,_=>False
def gr2V (N a L:Nat) (x:StA) (l:ak) (t:Nat) (i:Bool):Nat->Value->Prop
 | 0,u=>u = π a 0
 | 1,u=>u = π a 0
 | 2,u=>u = π a 0
 | 3,u=>u = π N 0
 | 4,u=>u = π N 0
 | 5,u=>u = π N 2
 | 6,u=>u = .slice x.an x.nn x.cn
 | 7,u=>u = π L 1
 | 8,u=>u = .string l.node
 | 9,u=>u = .tuple #[.int .i64 (t:Int),.bool i]
 | 10,u=>u = .tuple #[.int .i64 (t:Int),.bool i]
 | 11,u=>u = .int .i64 (t:Int)
 | 12,u=>u = .bool i
 | 13,u=>u = .int .i64 (t:Int)
 | 14,u=>u = .bool i
 | _,_=>False
def gr5V (N a L:Nat) (x:StA) (l:ak) (t:Nat) (i:Bool):Nat->Value->Prop
 | 0,u=>u = π a 0
 | 1,u=>u = π a 0
 | 2,u=>u = π a 0
 | 3,u=>u = π N 0
 | 4,u=>u = π N 0
 | 5,u=>u = π N 3
 | 6,u=>u = .slice x.al x.nl x.cl
 | 7,u=>u = π L 0
 | 8,u=>u = .string l.job
 | 9,u=>u = .tuple #[.int .i64 (t:Int),.bool i]
 | 10,u=>u = .tuple #[.int .i64 (t:Int),.bool i]
 | 11,u=>u = .int .i64 (t:Int)
 | 12,u=>u = .bool i
 | 13,u=>u = .int .i64 (t:Int)
 | 14,u=>u = .bool i
 | _,_=>False
def Ij (N a L:Nat) (st:ah) (x:StA) (l:ak) (b:rD):Nat->Value->Prop
 | 0,u=>u = π a 0
 | 1,u=>u = π a 0
 | 2,u=>u = π a 0
 | 3,u=>u = π N 0
 | 4,u=>u = π a 0
 | 5,u=>u = π a 0
 | 6,u=>u = π a 0
 | 7,u=>u = π N 0
 | 8,u=>u = π N 0
 | 9,u=>u = π N 3
 | 10,u=>u = .slice x.al x.nl x.cl
 | 11,u=>u = .agg #[.string l.job,.string l.node,.int .i64 l.till]
 | 12,u=>b.s=true/\u = .slice b.A b.m b.c
 | 13,u=>u = π N 0
 | 14,u=>u = π N 3
 | 15,_=>True
 | _,_=>False
theorem KU {N a L:Nat} {st:ah} {x:StA} {l:ak} {c e:rD} {j:Nat} {v:Value} (d:c.s=false) (h:Ij N a L st x l c j v):Ij N a L st x l e j v:=by
 unfold Ij at *
 split at h
 all_goals first | exact h | (obtain⟨b,_⟩:=h; rw [d] at b; cases b)
theorem wG.Eg {w b:World} {base:Nat} {st:ah} {x:StA} {N a L:Nat} {now:Int} {l:ak} (h:wG w base st x N a L now l b):wG w base st x N a L now l b.drew:=
 h.next (θ).drew
theorem Jh (base:Nat) (st:ah) (x:StA) (N o:Nat) (now:Int) (l:ak) (w:World) (h:Ak w base st x N o now) (hT:wo base w) (ba:∀ j ∈ st.jobs,0<=j.tries/\j.tries<=100) (aY:l.job.size<=9223372036854775807/\l.node.size<=9223372036854775807) :
 ψ 149 #[π o 0,.agg #[l.job,l.node,l.till]] w (iB base N o (oG st now l) w):=by
 obtain⟨W,hW⟩:∃ W,w.alloc (.cells #[l.job,l.node,l.till] 77)=W:=⟨_,rfl⟩;have ao:Below w w W:=by rw [<- hW]; exact (θ).alloc lQ _
 have aD:Blk W w 77 #[l.job,l.node,l.till]:=by rw [<- hW]; exact n5 w _
 have H:=ω h;have HT:=ω hT;have v:=ω (show wG w base st x N o w now l W from ⟨aD,h.w.below ao,ao⟩);have P:=ω (fun (D:Int) (he:D≠0) (b:World) (a:wG w base st x N o w now l b)=>(show iB base N o (D,st,now) w (.returned (.int .i64 D)) b from ⟨rfl,a.below.mono H.w.bs,fun h0=>absurd h0 he⟩));clear ao aD h hT;obtain⟨O,ay⟩:∃ t,eV aC.name st.jobs l.job=t:=⟨_,rfl⟩;obtain⟨ij,ap⟩:∃ t,isL aC.name st.jobs l.job=t:=⟨_,rfl⟩;obtain⟨pn,aG⟩:∃ t,eV av.name st.nodes l.node=t:=⟨_,rfl⟩;obtain⟨a0,ar⟩:∃ t,isL av.name st.nodes l.node=t:=⟨_,rfl⟩;obtain⟨pl,s⟩:∃ t,eV ak.job st.leases l.job=t:=⟨_,rfl⟩;obtain⟨il,aq⟩:∃ t,isL ak.job st.leases l.job=t:=⟨_,rfl⟩;obtain⟨R,hR⟩:∃ R,oG st now l=R:=⟨_,rfl⟩;rw [hR];have HR:=ω hR;clear hR;have C:=ω (fun (b:World) (a:wG w base st x N o w now l b)=>(show Calls Tryz.prog _ _ b (ko aC.name st.jobs l.job b) from gV.1 l.job st.jobs x.aj x.nj x.cj b (cS a.wa.own.j) a.wa.own.lj (by have:=H.nj; omega) H.sj));unfold ko at C;rw [ay,ap] at C;have ad:=ω ay;have ac:=ω ap;clear ay ap;go_enter Tryz.func149,Tryz.ntmps149
 go_wp2_with fail
 try rw [hW]
 clear hW;refine rq (Γ:=Unit) 114 (fun _=>gr1V N o w x l O ij) [] (fun _ _ b=>wG w base st x N o w now l b) () v.Eg ?_ ?_
 · refine⟨?_,?_,?_,?_,?_,?_,?_,?_,?_,?_,?_,?_,?_,?_,?_,trivial⟩
   · exact ok0 0 0 0 rfl fun _=>rfl
   · exact ok1 0 0 0 12 rfl rfl (fun _ _ h=>h) fun _=>rfl
   · exact ok1 0 0 1 13 rfl rfl (fun _ _ h=>h) fun _=>rfl
   · refine okQ 0 0 fun y e q b s B a d=>?_;obtain⟨u1,i,rfl⟩:=d.g 2 14 rfl rfl;have p:ζ b o 0 (π N 0):=a.wa.wk.cell 0;simp [go_sem,Oper.wp,execOp,Act.eval,i,p];exact⟨_,rfl,rfl,a⟩
   · exact ok1 0 0 3 15 rfl rfl (fun _ _ h=>h) fun _=>rfl
   · exact ok1 0 0 4 16 rfl rfl (fun _ _ h=>h) fun _=>rfl
   · refine okQ 0 0 fun y e q b s B a d=>?_;obtain⟨u1,i,rfl⟩:=d.g 5 17 rfl rfl;have p:ζ b N 1 (.slice x.aj x.nj x.cj):=a.wa.nb.cell 1;simp [go_sem,Oper.wp,execOp,Act.eval,i,p];exact⟨_,rfl,rfl,a⟩
   · exact ok0 0 0 3 rfl fun _=>rfl
   · refine okQ 0 0 fun y e q b s B a d=>?_;obtain⟨u1,i,rfl⟩:=d.g 7 19 rfl rfl;have p:ζ b w 0 (.string l.job):=a.lb.cell 0;simp [go_sem,Oper.wp,execOp,Act.eval,i,p];exact⟨_,rfl,rfl,a⟩
   · refine okQ 0 0 fun y e q b s B a d=>?_;obtain⟨u1,i,rfl⟩:=d.g 6 18 rfl rfl;obtain⟨u2,K,rfl⟩:=d.g 8 20 rfl rfl;simp [go_sem,Oper.wp,execOp,Act.eval,i,K];refine (C.z b a).mono ?_;rintro D w' ⟨rfl,X⟩;exact⟨_,rfl,rfl,a.next X⟩
   · exact ok1 0 0 9 21 rfl rfl (fun _ _ h=>h) fun _=>rfl
   · exact ok1 0 0 10 11 rfl rfl (fun _ _ h=>h) fun _=>rfl
   · exact ok1 0 0 10 11 rfl rfl (fun _ _ h=>h) fun _=>rfl
   · exact ok1 0 0 11 22 rfl rfl (fun _ _ h=>h) fun _=>rfl
   · exact ok1 0 0 12 23 rfl rfl (fun _ _ h=>h) fun _=>rfl
 intro e q b z;clear C v;have v:=ω z.ph;obtain⟨J,rfl,E⟩:=z.frame [12,13,14,15,16,17,18,19,20,21,11,22,23,5,6] rfl;have h5:J 5 = .int .i64 (O:Int):=E 13 _ 5 rfl rfl;have h6:J 6 = .bool ij:=E 14 _ 6 rfl rfl;clear z E;simp only [foldl_cons,foldl_nil,setIfInBounds_toArray,set_cons_succ,set_cons_zero,h5,h6];clear h5 h6;have C:=ω (fun (b:World) (a:wG w base st x N o w now l b)=>(show Calls Tryz.prog _ _ b (ko av.name st.nodes l.node b) from gV.2.1 l.node st.nodes x.an x.nn x.cn b (cS a.wa.own.n) a.wa.own.ln (by have:=H.nn; omega) H.sn));unfold ko at C;rw [aG,ar] at C;have a5:=ω ar;clear aG ar
 go_wp2_with fail
 refine rq (Γ:=Unit) 114 (fun _=>gr2V N o w x l pn a0) [] (fun _ _ b=>wG w base st x N o w now l b) () v.Eg ?_ ?_
 · refine⟨?_,?_,?_,?_,?_,?_,?_,?_,?_,?_,?_,?_,?_,?_,?_,trivial⟩
   · exact ok0 0 0 0 rfl fun _=>rfl
   · exact ok1 0 0 0 25 rfl rfl (fun _ _ h=>h) fun _=>rfl
   · exact ok1 0 0 1 26 rfl rfl (fun _ _ h=>h) fun _=>rfl
   · refine okQ 0 0 fun y e q b s B a d=>?_;obtain⟨u1,i,rfl⟩:=d.g 2 27 rfl rfl;have p:ζ b o 0 (π N 0):=a.wa.wk.cell 0;simp [go_sem,Oper.wp,execOp,Act.eval,i,p];exact⟨_,rfl,rfl,a⟩
   · exact ok1 0 0 3 28 rfl rfl (fun _ _ h=>h) fun _=>rfl
   · exact ok1 0 0 4 29 rfl rfl (fun _ _ h=>h) fun _=>rfl
   · refine okQ 0 0 fun y e q b s B a d=>?_;obtain⟨u1,i,rfl⟩:=d.g 5 30 rfl rfl;have p:ζ b N 2 (.slice x.an x.nn x.cn):=a.wa.nb.cell 2;simp [go_sem,Oper.wp,execOp,Act.eval,i,p];exact⟨_,rfl,rfl,a⟩
   · exact ok0 0 0 3 rfl fun _=>rfl
   · refine okQ 0 0 fun y e q b s B a d=>?_;obtain⟨u1,i,rfl⟩:=d.g 7 32 rfl rfl;have p:ζ b w 1 (.string l.node):=a.lb.cell 1;simp [go_sem,Oper.wp,execOp,Act.eval,i,p];exact⟨_,rfl,rfl,a⟩
   · refine okQ 0 0 fun y e q b s B a d=>?_;obtain⟨u1,i,rfl⟩:=d.g 6 31 rfl rfl;obtain⟨u2,K,rfl⟩:=d.g 8 33 rfl rfl;simp [go_sem,Oper.wp,execOp,Act.eval,i,K];refine (C.z b a).mono ?_;rintro D w' ⟨rfl,X⟩;exact⟨_,rfl,rfl,a.next X⟩
   · exact ok1 0 0 9 34 rfl rfl (fun _ _ h=>h) fun _=>rfl
   · exact ok1 0 0 10 24 rfl rfl (fun _ _ h=>h) fun _=>rfl
   · exact ok1 0 0 10 24 rfl rfl (fun _ _ h=>h) fun _=>rfl
   · exact ok1 0 0 11 35 rfl rfl (fun _ _ h=>h) fun _=>rfl
   · exact ok1 0 0 12 36 rfl rfl (fun _ _ h=>h) fun _=>rfl
 intro e q b z;clear C v;have v:=ω z.ph;obtain⟨J,rfl,E⟩:=z.frame [25,26,27,28,29,30,31,32,33,34,24,35,36,7,8] rfl;have h7:J 7 = .int .i64 (pn:Int):=E 13 _ 7 rfl rfl;have h8:J 8 = .bool a0:=E 14 _ 8 rfl rfl;clear z E;simp only [foldl_cons,foldl_nil,setIfInBounds_toArray,set_cons_succ,set_cons_zero,h7,h8];clear h7 h8;cases ij
 · obtain rfl:=(Ed H.sj ac.z).symm.trans HR.z;go_wp2;go_ret;exact P.z 6 (by decide) _ v.z
 obtain⟨j,G,ae⟩:=pz ac.z;have ag:=ω ((Ee H.sj H.sn H.sl G ae).symm.trans HR.z);cases a0
 · obtain rfl:=(if_pos a5.z).symm.trans ag.z;go_wp2;go_ret;exact P.z 6 (by decide) _ v.z
 have ai:=ω ((if_neg (by rw [a5.z]; decide)).symm.trans ag.z);clear ag HR;have C:=ω (fun (b:World) (a:wG w base st x N o w now l b)=>(show Calls Tryz.prog _ _ b (ko ak.job st.leases l.job b) from gV.2.2 l.job st.leases x.al x.nl x.cl b (cS a.wa.own.l) a.wa.own.ll (by have:=H.nl; omega) H.sl));unfold ko at C;rw [s,aq] at C;have a4:=ω aq;clear s aq
 go_wp2_with fail
 refine rq (Γ:=Unit) 114 (fun _=>gr5V N o w x l pl il) [] (fun _ _ b=>wG w base st x N o w now l b) () v.Eg ?_ ?_
 · refine⟨?_,?_,?_,?_,?_,?_,?_,?_,?_,?_,?_,?_,?_,?_,?_,trivial⟩
   · exact ok0 0 0 0 rfl fun _=>rfl
   · exact ok1 0 0 0 44 rfl rfl (fun _ _ h=>h) fun _=>rfl
   · exact ok1 0 0 1 45 rfl rfl (fun _ _ h=>h) fun _=>rfl
   · refine okQ 0 0 fun y e q b s B a d=>?_;obtain⟨u1,i,rfl⟩:=d.g 2 46 rfl rfl;have p:ζ b o 0 (π N 0):=a.wa.wk.cell 0;simp [go_sem,Oper.wp,execOp,Act.eval,i,p];exact⟨_,rfl,rfl,a⟩
   · exact ok1 0 0 3 47 rfl rfl (fun _ _ h=>h) fun _=>rfl
   · exact ok1 0 0 4 48 rfl rfl (fun _ _ h=>h) fun _=>rfl
   · refine okQ 0 0 fun y e q b s B a d=>?_;obtain⟨u1,i,rfl⟩:=d.g 5 49 rfl rfl;have p:ζ b N 3 (.slice x.al x.nl x.cl):=a.wa.nb.cell 3;simp [go_sem,Oper.wp,execOp,Act.eval,i,p];exact⟨_,rfl,rfl,a⟩
   · exact ok0 0 0 3 rfl fun _=>rfl
   · refine okQ 0 0 fun y e q b s B a d=>?_;obtain⟨u1,i,rfl⟩:=d.g 7 51 rfl rfl;have p:ζ b w 0 (.string l.job):=a.lb.cell 0;simp [go_sem,Oper.wp,execOp,Act.eval,i,p];exact⟨_,rfl,rfl,a⟩
   · refine okQ 0 0 fun y e q b s B a d=>?_;obtain⟨u1,i,rfl⟩:=d.g 6 50 rfl rfl;obtain⟨u2,K,rfl⟩:=d.g 8 52 rfl rfl;simp [go_sem,Oper.wp,execOp,Act.eval,i,K];refine (C.z b a).mono ?_;rintro D w' ⟨rfl,X⟩;exact⟨_,rfl,rfl,a.next X⟩
   · exact ok1 0 0 9 53 rfl rfl (fun _ _ h=>h) fun _=>rfl
   · exact ok1 0 0 10 43 rfl rfl (fun _ _ h=>h) fun _=>rfl
   · exact ok1 0 0 10 43 rfl rfl (fun _ _ h=>h) fun _=>rfl
   · exact ok1 0 0 11 54 rfl rfl (fun _ _ h=>h) fun _=>rfl
   · exact ok1 0 0 12 55 rfl rfl (fun _ _ h=>h) fun _=>rfl
 intro e q b z;clear C v;have v:=ω z.ph;obtain⟨J,rfl,E⟩:=z.frame [44,45,46,47,48,49,50,51,52,53,43,54,55,9,10] rfl;have h9:J 9 = .int .i64 (pl:Int):=E 13 _ 9 rfl rfl;have a7:J 10 = .bool il:=E 14 _ 10 rfl rfl;clear z E;simp only [foldl_cons,foldl_nil,setIfInBounds_toArray,set_cons_succ,set_cons_zero,h9,a7];clear h9 a7;cases il;rotate_left
 · obtain rfl:=(if_pos a4.z).symm.trans ai.z;go_wp2;go_ret;exact P.z 7 (by decide) _ v.z
 have aa:=ω ((if_neg (by rw [a4.z]; decide)).symm.trans ai.z);clear ai
 go_wp2_with fail
 have l2:ζ b w 2 (.int .i64 l.till):=v.lb.cell 2;have k1:ζ b o 1 (.int .i64 now):=v.wa.wk.cell 1;by_cases U:l.till<=now
 · have dt:decide (l.till<=now)=true:=t7 U;obtain rfl:=(if_pos U).symm.trans aa.z;clear U aa
   go_region
   go_wp2;go_ret;exact P.z 1 (by decide) _ v.Eg
 have dt:decide (l.till<=now)=false:=fQ U;have ab:=ω ((if_neg U).symm.trans aa.z);clear U aa
 go_region
 clear l2 k1 dt;have u:=ω v.Eg;clear v;obtain⟨Z,aK⟩:∃ Z,b.drew=Z:=⟨_,rfl⟩;rw [aK] at u |-;clear aK;obtain⟨aQ,bb,hA,aR,bf,a8⟩:=G6 (enc:=aS) (sz:=5) (fun _=>rfl) u.wa.own.j u.wa.own.lj G;have c3:=a8 3 _ rfl;have s:=(List.getElem?_eq_some_iff.1 G).1;rw [u.z.wa.own.lj,ad.z] at s;rw [ad.z] at c3;have k0:ζ Z o 0 (π N 0):=u.wa.wk.cell 0;have n1:ζ Z N 1 (.slice x.aj x.nj x.cj):=u.wa.nb.cell 1;rw [hA] at n1;have HA:=ω hA;clear hA a8;have M:=(BT (by rw [<- HA.z]; exact u.wa.own.j) (O*5+3) (by omega) (.int .i64 (j.tries+1))).2.1;rw [<- Nat.add_assoc] at M;have aW:=ba j (m8 G);by_cases T:j.tries=100
 · have dj:(j.tries == 100)=true:=by rw [T]; rfl
   obtain rfl:=(if_pos T).symm.trans ab.z;clear ab T;go_wp2;go_ret;exact P.z 2 (by decide) _ u.z
 have dj:(j.tries == 100)=false:=eY T;obtain rfl:=(if_neg T).symm.trans ab.z;clear ab T
 go_wp2_with fail
 have aw:=u.wa.own.j;rw [HA.z] at aw;have aI:=BT aw (O*5+3) (by omega) (.int .i64 (j.tries+1));rw [<- Nat.add_assoc] at aI;obtain⟨Y,_,_,aT,bd,Q⟩:=aI;rw [BR (enc:=aS) (sz:=5) (fun _=>rfl) st.jobs O 3 j (zw j) (.int .i64 (j.tries+1)) (by rw [<- ad.z]; exact G) (by decide) rfl,<- HA.z,(by rw [<- ad.z]; exact (Ef H.z.sj ac.z G ae).symm:st.jobs.set O (zw j)=jE aC.name st.jobs (zw j))] at Y;obtain⟨F,MY⟩:∃ F,jE aC.name st.jobs (zw j)=F:=⟨_,rfl⟩;have a9:F.length=x.nj:=by rw [<- MY,Ef H.z.sj ac.z G ae,List.length_set]; exact u.wa.own.lj
 rw [MY] at Y;obtain⟨I,L⟩:∃ I,Z.setCell ⟨aQ,bb+O*5+3,none⟩ (.int .i64 (j.tries+1))=I:=⟨_,rfl⟩;rw [L] at Y;have aF:I.ownsRow base 81 3 (.slice x.an x.nn x.cn) x.nn (au aH st.nodes):=by rw [<- L]; exact bF u.wa.own.n Q (by decide)
 have ax:I.ownsRow base 77 3 (.slice x.al x.nl x.cl) x.nl (au aB st.leases):=by rw [<- L]; exact bF u.wa.own.l Q (by decide)
 have OO:Below base w I:=by rw [<- L]; exact (u.below.mono H.w.bs).trans (aZ θ aR)
 have mo:base<=I.drew.heap.size:=v6 H.w.bs OO.size
 have a2:Oa w I base st x N o w now l F (jE ak.job st.leases l) 0 ⟨none,0,0,false⟩ I.drew:=by
  refine⟨?_,?_,?_,OO.drew,Y.drew,aF.drew,fun _=>rfl,fun _=>rfl,fun h=>absurd h (by decide)⟩
  · rw [<- L]; exact bL u.lb Q (by decide)
  · rw [<- L]; exact bL u.wa.wk Q (by decide)
  · rw [<- L]; exact bL u.wa.nb Q (by decide)
 have HD:=ω (FG base x.al x.nl x.cl st.leases l I.drew ax.drew u.wa.own.ll (by have:=H.nl; omega) H.sl mo);have V:=ω ax.drew;have aL:=ω mo;have aM:=ω H.w.bN;have aN:=ω a9;have a6:=ω MY;have Hj:=ω G;rw [L];clear L MY a9 Y aF ax OO mo Q aT aw u c3 s k0 n1 M aW dj ae P HA;refine rq 114 (Ij N o w st x l) [12,15] (Oa w I base st x N o w now l F (jE ak.job st.leases l)) ⟨none,0,0,false⟩ a2 ?_ ?_
 · refine⟨?_,?_,?_,?_,?_,?_,?_,?_,?_,?_,?_,?_,?_,?_,?_,?_,trivial⟩
   · exact ok0 0 2 0 rfl fun _=>rfl
   · exact ok1 0 2 0 92 rfl rfl (fun _ _ h=>h) fun _=>rfl
   · exact ok1 0 2 1 93 rfl rfl (fun _ _ h=>h) fun _=>rfl
   · refine okQ 0 2 fun y e q b s B a d=>?_;obtain⟨u1,i,rfl⟩:=d.g 2 94 rfl rfl;have p:ζ b o 0 (π N 0):=a.wk.cell 0;simp [go_sem,Oper.wp,execOp,Act.eval,i,p];exact⟨_,rfl,e,fun _ _ _ h=>h,rfl,a⟩
   · exact ok0 0 2 0 rfl fun _=>rfl
   · exact ok1 0 2 4 96 rfl rfl (fun _ _ h=>h) fun _=>rfl
   · exact ok1 0 2 5 97 rfl rfl (fun _ _ h=>h) fun _=>rfl
   · refine okQ 0 2 fun y e q b s B a d=>?_;obtain⟨u1,i,rfl⟩:=d.g 6 98 rfl rfl;have p:ζ b o 0 (π N 0):=a.wk.cell 0;simp [go_sem,Oper.wp,execOp,Act.eval,i,p];exact⟨_,rfl,e,fun _ _ _ h=>h,rfl,a⟩
   · exact ok1 0 2 7 99 rfl rfl (fun _ _ h=>h) fun _=>rfl
   · exact ok1 0 2 8 100 rfl rfl (fun _ _ h=>h) fun _=>rfl
   · refine okQ 0 0 fun y e q b s B a d=>?_;obtain⟨u1,i,rfl⟩:=d.g 9 101 rfl rfl;obtain rfl:y=0:=by omega
     have p:ζ b N 3 (.slice x.al x.nl x.cl):=a.nb.cell 3;simp [go_sem,Oper.wp,execOp,Act.eval,i,p];exact⟨_,rfl,e,fun _ _ _ h=>h,rfl,a⟩
   · refine okQ 0 2 fun y e q b s B a d=>?_;have i:=d.k 3 rfl;have p:ζ b w 0 (.string l.job):=a.lb.cell 0;have aU:ζ b w 1 (.string l.node):=a.lb.cell 1;have aV:ζ b w 2 (.int .i64 l.till):=a.lb.cell 2;simp [go_sem,Oper.wp,execOp,Act.eval,i,p,aU,aV];exact⟨_,rfl,e,fun _ _ _ h=>h,rfl,a⟩
   · refine .inl ⟨0,rfl,fun e q b a d=>aJ rfl ?_⟩;obtain⟨u1,i,rfl⟩:=d.g 10 102 rfl rfl;obtain⟨u2,K,rfl⟩:=d.g 11 103 rfl rfl;simp [go_sem,Oper.wp,execOp,Act.eval,i,K];obtain rfl:=a.here rfl;refine (HD.z).mono ?_;rintro D w' ⟨A',m,c',rfl,hm,ho,S⟩;exact⟨_,rfl,⟨A',m,c',true⟩,fun j bh G h=>KU (a.unset rfl) h,⟨rfl,rfl⟩,⟨(S.grown.block _ a.lb.lt (fun D=>Nat.lt_irrefl _ ((H.w.own.l.lt _ D.symm).2))).trans a.lb,Blk.jV a.wk S V.z (by decide),Blk.eq (Blk.jV a.nb S V.z (by decide)) rfl,a.below.trans (S.below aL.z (fun bc hq=>(V.lt bc hq).1)),cQ a.j S V.z (by decide),cQ a.n S V.z (by decide),fun h=>absurd h (by decide),fun h=>absurd h (by decide),fun _=>⟨ho,hm⟩⟩⟩
   · exact ok1 0 2 3 95 rfl rfl (fun _ _ h=>h) fun _=>rfl
   · exact ok1 0 2 13 105 rfl rfl (fun _ _ h=>h) fun _=>rfl
   · refine .inl ⟨1,rfl,fun e q b a d=>aJ rfl ?_⟩;obtain⟨u1,i,rfl⟩:=d.g 14 106 rfl rfl;obtain⟨u2,K,bg,rfl⟩:=d.g 12 104 rfl rfl;have hc:ζ b N 3 (.slice x.al x.nl x.cl):=a.nb.cell 3;have M:κ b N 3:=a.nb.thaw 3;simp [go_sem,Oper.wp,execOp,Act.eval,i,K,hc,M];exact⟨.int .i64 0,e,fun _ _ _ h=>h,trivial,⟨bL a.lb a.nb (by decide),bL a.wk a.nb (by decide),Blk.eq (a.nb.set 3 _) rfl,a.below.trans (aZ θ aM.z),bF a.j a.nb (by decide),bF a.n a.nb (by decide),fun h=>absurd h (by decide),fun h=>absurd h (by decide),fun _=>⟨bF (a.r (by decide)).1 a.nb (by decide),(a.r (by decide)).2⟩⟩⟩
 intro e q wy z;have a:=z.ph;obtain⟨J,rfl,E⟩:=z.frame [92,93,94,95,96,97,98,99,100,101,102,103,104,105,106] rfl;have af:Blk wy N 26 #[st.rev,.slice x.aj x.nj x.cj,.slice x.an x.nn x.cn,.slice e.A e.m e.c]:=a.nb;have az:uy wy base (⟨st.rev,F,st.nodes,jE ak.job st.leases l⟩:ah) ⟨x.aj,x.nj,x.cj,x.an,x.nn,x.cn,e.A,e.m,e.c⟩ N o now:=⟨af,a.wk,⟨a.j,a.n,(a.r (by decide)).1,aN,H.w.own.ln,(a.r (by decide)).2.symm⟩,H.w.bN,H.w.bW,v6 H.w.bs a.below.size⟩;have aX:=(a.r (by decide)).2;have xK:=sD (key:=ak.job) (x:=l) H.sl
 have aA:oC F:=by
  rw [<- a6.z];exact fun a1 M=>(nZ M).elim (fun D=>by rw [D]; exact H.oj j (m8 Hj.z)) (H.oj a1)
 have HC:=ω (show ψ 33 #[.agg #[st.rev,.slice x.aj x.nj x.cj,.slice x.an x.nn x.cn,.slice e.A e.m e.c]] wy _ from pG (⟨st.rev,F,st.nodes,jE ak.job st.leases l⟩:ah) ⟨x.aj,x.nj,x.cj,x.an,x.nn,x.cn,e.A,e.m,e.c⟩ wy (az.own.at2 (by have:=H.nj; show x.nj<=1000; omega) (by have:=H.nn; show x.nn<=1000; omega) (by have:=H.w.own.ll; have:=H.nl; show e.m<=1000; omega) aA H.on_ (fun a1 M=>(nZ M).elim (fun D=>by rw [D]; exact aY) (H.ol a1))) (HT.z _ a.below));have aP:=ω az;have a3:=ω a.below;have b1:ζ wy o 0 (π N 0):=a.wk.cell 0;obtain⟨n0,n1,n2,n3⟩:=Blk.c4 (af);have be:=af.lt;have aO:=ω (show (⟨st.rev,F,st.nodes,jE ak.job st.leases l⟩:ah)=jY st j l from by rw [<- a6.z]; rfl);clear z a E af az aX xK a2 aA G;simp only [foldl_cons,foldl_nil,setIfInBounds_toArray,set_cons_succ,set_cons_zero]
 go_wp2_with fail
 refine HC.mono ?_;rintro D w5 ⟨rfl,am⟩;have bG:=ω (show iB base N o (aE (⟨st.rev,F,st.nodes,jE ak.job st.leases l⟩:ah),(⟨st.rev,F,st.nodes,jE ak.job st.leases l⟩:ah),now) w (.returned (.int .i64 (aE (⟨st.rev,F,st.nodes,jE ak.job st.leases l⟩:ah)))) w5 from ⟨rfl,a3.trans (am.mono (v6 H.w.bs a3.size)),fun _=>⟨_,aP.below am⟩⟩);rw [aO.z] at bG |-;clear am b1 n0 n1 n2 n3 HC;go_wp2;go_ret;exact bG
theorem do_5 (base:Nat) (st:ah) (x:StA) (N a:Nat) (now:Int) (q:aL) (w:World) (h:Ak w base st x N a now) (n:q.kind=5) (i:wo base w) (o:∀ j ∈ st.jobs,0<=j.tries/\j.tries<=100) (u:q.lease.job.size<=9223372036854775807/\q.lease.node.size<=9223372036854775807) :
 ψ 77 #[π a 0,bO q] w (iB base N a (oG st now q.lease) w):=by
 obtain⟨W,b⟩:∃ W,(w.alloc (.cells #[π a 0] 156)).alloc (.cells (aT q) 88)=W:=⟨_,rfl⟩;have d:Below w w W:=by rw [<- b]; exact ((θ).alloc lQ _).alloc (by simp) _
 have l:Blk W w 156 #[π a 0]:=by rw [<- b]; exact Blk.alloc (show Blk _ _ _ _ from n5 w _) _
 have c:Blk W (w.heap.size+1) 88 (aT q):=by
  rw [<- b];have:=n5 (χ w #[π a 0] 156) (.cells (aT q) 88);rwa [show (w.alloc (.cells #[π a 0] 156)).heap.size=w.heap.size+1 by simp] at this
 have p:=h.w.below d;have B:ζ W (w.heap.size+1) 0 (.int .i64 5):=by rw [c.cell 0,<- n]; rfl
 have E:ζ W (w.heap.size+1) 9 (.string q.lease.job):=c.cell 9;have C:ζ W (w.heap.size+1) 10 (.string q.lease.node):=c.cell 10;have D:ζ W (w.heap.size+1) 11 (.int .i64 q.lease.till):=c.cell 11;have y:ζ W w 0 (π a 0):=l.cell 0;have e:=ω (Jh base st x N a now q.lease W ⟨p,h.nj,h.nn,h.nl,h.oj,h.on_,h.ol,h.sj,h.sn,h.sl⟩ (i.next (d.mono h.w.bs)) o u);have r:=ω (d.mono h.w.bs);clear d l c p h n i o;unfold bO;unfold aT at b |-;obtain⟨R,g⟩:∃ R,oG st now q.lease=R:=⟨_,rfl⟩;rw [g] at e |-;clear g;go_enter Tryz.func77,Tryz.ntmps77
 go_wp2_with fail
 try rw [b]
 clear b;refine e.mono ?_;rintro z v ⟨rfl,k,m⟩;have s:=ω (show iB base N a R w (.returned (.int .i64 R.1)) v from ⟨rfl,r.trans k,m⟩);clear k m e;go_wp2;go_ret;exact s
structure QOk (q:aL):Prop where
 j:q.job.name.size<=9223372036854775807/\q.job.tag.size<=9223372036854775807
 n:q.node.name.size<=9223372036854775807/\q.node.zone.size<=9223372036854775807
 l:q.lease.job.size<=9223372036854775807/\q.lease.node.size<=9223372036854775807
theorem OP (base:Nat) (st:ah) (x:StA) (N a:Nat) (now:Int) (q:aL) (w:World) (h:Ak w base st x N a now) (b:wo base w) (i:∀ j ∈ st.jobs,0<=j.tries/\j.tries<=100) (c:QOk q) (k:1<=q.kind) (e:0<=now) (g:now<=1099511627776) (d:q.kind=7->0<=q.n/\q.n<=1099511627776) :
 ψ 77 #[π a 0,bO q] w (iB base N a (doR st now q) w):=by
 unfold doR
 split
 · exact Kw.1 base st x N a now q w h ‹_› c.j b
 split
 · exact Kw.2 base st x N a now q w h ‹_› c.n b
 split
 · exact FJ.1 base st x N a now q w h ‹_›
 split
 · exact FJ.2.1 base st x N a now q w h ‹_›
 split
 · exact do_5 base st x N a now q w h ‹_› b i c.l
 split
 · exact FJ.2.2 base st x N a now q w h ‹_›
 split
 · exact do_7 base st x N a now q w h ‹_› e g (d ‹_›).1 (d ‹_›).2
 · exact do_8 base st x N a now q w h (by omega)
def KV (q:aL):Prop:=∀ (base:Nat) (st:ah) (x:StA) (N a:Nat) (now:Int) (w:World),Ak w base st x N a now->wo base w->(∀ j ∈ st.jobs,0<=j.tries/\j.tries<=100)->0<=now->now<=1099511627776 ->
 ψ 77 #[π a 0,bO q] w (iB base N a (doR st now q) w)
def gF:aL:=⟨0,bK,aV,aN,⟨#[]⟩,0⟩
def jJ (k:Nat) (s:ByteArray):RR aL:=
 if k=1 then (pK 3 s).bind fun x t=>.ok ⟨k,x,aV,aN,⟨#[]⟩,0⟩ t
 else if k=2 then (lH 3 s).bind fun x t=>.ok ⟨k,bK,x,aN,⟨#[]⟩,0⟩ t
 else if k=3\/k=4\/k=6 then (cH s).bind fun x t=>.ok ⟨k,bK,aV,aN,x,0⟩ t
 else if k=5 then (iL s).bind fun x t=>.ok ⟨k,bK,aV,x,⟨#[]⟩,0⟩ t
 else if k=7 then (dJ s).bind fun (x:Nat) t=>.ok ⟨k,bK,aV,aN,⟨#[]⟩,x⟩ t
 else if k=8\/k=9 then .ok ⟨k,bK,aV,aN,⟨#[]⟩,0⟩ s
 else .bad 1
def rqP (b:ByteArray):RR aL:=(dJ b).bind jJ
noncomputable def rqF (b:ByteArray):aL × Int:=match rqP b with
 | .ok q s=>if s.size=0 then (if cN q=0 then (q,0) else (gF,cN q)) else (gF,4)
 | .bad x=>(gF,x)
theorem F8 {k N:Nat} {s:ByteArray} (h:s.size<=N):(jJ k s).Good N:=by
 unfold jJ
 split
 · exact (Ji h).bind fun _ _ h=>h
 split
 · exact (F9 h).bind fun _ _ h=>h
 split
 · exact (kG h).bind fun _ _ h=>h
 split
 · exact (Eh h).bind fun _ _ h=>h
 split
 · exact (jN h).bind fun _ _ h=>h
 split
 · exact h
 · exact⟨by decide,by decide⟩
theorem Ei {N:Nat} {b:ByteArray} (h:b.size<=N):(rqP b).Good N:=(jN h).bind fun _ _ h=>F8 h
theorem pL {α c:Type} {x:RR α} {f:α->ByteArray->RR c} {b:c} {r:ByteArray} (h:x.bind f = .ok b r):∃ a s,x = .ok a s/\f a s = .ok b r:=by
 cases x with
 | ok a s=>exact⟨a,s,rfl,h⟩
 | bad e=>cases h
theorem Jj {k:Nat} {s t:ByteArray} {q:aL} (h:jJ k s = .ok q t):ROk q:=by
 have z:(⟨#[]⟩:ByteArray).size<=9223372036854775807:=by decide
 have l:∀ {a:Nat},a<=16->a<=9223372036854775807:=fun h=>v6 h (by decide);unfold jJ at h
 split at h
 · obtain⟨x,r,c,b⟩:=pL h;injection b with b; subst b;have h:=Jk c;exact⟨l h.1,l h.2,z,z,z,z,z⟩
 split at h
 · obtain⟨x,r,c,b⟩:=pL h;injection b with b; subst b;have h:=Ga c;exact⟨z,z,l h.1,l h.2,z,z,z⟩
 split at h
 · obtain⟨x,r,c,b⟩:=pL h;injection b with b; subst b;exact⟨z,z,z,z,z,z,l (pM c)⟩
 split at h
 · obtain⟨x,r,c,b⟩:=pL h;injection b with b; subst b;have h:=Ej c;exact⟨z,z,z,z,l h.1,l h.2,z⟩
 split at h
 · obtain⟨x,r,c,b⟩:=pL h;injection b with b; subst b;exact⟨z,z,z,z,z,z,z⟩
 split at h
 · injection h with h; subst h;exact⟨z,z,z,z,z,z,z⟩
 · cases h
theorem zK {b s:ByteArray} {q:aL} (h:rqP b = .ok q s):ROk q:=by
 obtain⟨_,_,_,h⟩:=pL h;exact Jj h
theorem MZ {b:ByteArray} (h:(rqF b).2=0) (f:b.size<=9223372036854775807):ROk (rqF b).1/\cN (rqF b).1=0:=by
 unfold rqF at h |-;have d:=Ei f
 cases c:rqP b with
 | ok q s=>
  rw [c] at h;simp only at h |-
  split at h
  · rename_i e
    split at h
    · rename_i a
      rw [if_pos e,if_pos a];exact⟨zK c,a⟩
    · rename_i a; exact absurd h a
  · exact absurd h (by decide)
 | bad x=>
  rw [c] at h d;exact absurd (Int.ofNat.inj h) d.1
theorem AL (b:ByteArray) (d:b.size<=9223372036854775807):(∃ x:Nat,x≠0/\Ay (rqP b).st=x/\rqF b=(gF,(x:Int))) \/
 (∃ q s,rqP b = .ok q s/\Ay (rqP b).st=0/\rqF b=if cN q=0 then (q,0) else (gF,cN q)):=by
 have c:=Ei d;unfold rqF
 cases e:rqP b with
 | ok q s=>
  by_cases a:s.size=0
  · exact .inr ⟨q,s,rfl,KW a,by simp only; rw [if_pos a]⟩
  · exact .inl ⟨4,by decide,Ek a,by simp only; rw [if_neg a]; rfl⟩
 | bad x=>
  rw [e] at c;exact .inl ⟨x,c.1,rfl,rfl⟩
end Go.Proofs.YtimglglgcgpjgabGreatDoor
