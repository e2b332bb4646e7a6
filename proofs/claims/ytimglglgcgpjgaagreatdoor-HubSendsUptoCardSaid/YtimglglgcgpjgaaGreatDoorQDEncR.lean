/- Of the proof of a statement: RWo, NxA, NxB, DEncR. -/
import Derived.Test.YtimglglgcgpjgaaGreatDoorQRPut
import Derived.Test.YtimglglgcgpjgaaGreatDoorQRcE
import Derived.Test.YtimglglgcgpjgaaGreatDoorQWPutV
set_option linter.unusedVariables false
set_option linter.unusedSimpArgs false
set_option maxRecDepth 100000
set_option maxHeartbeats 8000000
namespace Go.Proofs.YtimglglgcgpjgaaGreatDoor
open List (foldl_cons foldl_nil setIfInBounds_toArray set_cons_succ set_cons_zero)
open Go.RowKit
def xQ (a:Type) (e:Nat) (b:a->List Value) (g:FuncId) (h:TypeId):Prop:=
 ∀ (p:a->Bool) (F:FuncId) (d:Array Value) (xs:List a) (A:Option Addr) (n c:Nat) (w:World) (i:∀ args w,(callFunc F args).run Tryz.prog w = .ok (.enter F args) w) (m:bC w w e A n (au b xs)) (j:xs.length=n) (k:n<=1000) (l:lN p F d b xs w),ψ g #[.slice A n c,.func (.func F) #[] d] w (DU h e b (xs.filter fun f=>!p f) w)
theorem xR:xQ aC 5 aS 102 85 /\ xQ av 3 aH 105 70 /\ xQ ak 3 aB 97 66:=by
 refine⟨@fun p V ab K A s c w ao hx hl hn hp=>(fun(C:Unit)=>?_) (),@fun p V ab K A s c w ao hx hl hn hp=>(fun(I ax:Unit)=>?_) () (),@fun p V ab K A s c w ao hx hl hn hp=>(fun(ai ax:Unit)=>?_) () ()⟩<;>(
 first|(guard_hyp C;have aj:=@aT;have al:Tg 3:=⟨⟩;have am:Tg 0:=⟨⟩)|(guard_hyp I;have aj:=@aO;have al:Tg 4:=⟨⟩;have am:Tg 1:=⟨⟩)|(have aj:=@aI;have al:Tg 5:=⟨⟩;have am:Tg 2:=⟨⟩)
 obtain⟨P,hP⟩:∃ P,(K.filter fun g=>!p g)=P:=⟨_,rfl⟩;rw [hP];have HP:=ω hP;have Hl:=ω hl;have Hx:=ω hx;have Hp:=ω hp;clear hP hl hx hp
 first|(guard_hyp C;go_enter Tryz.func102,Tryz.ntmps102)|(guard_hyp I;go_enter Tryz.func105,Tryz.ntmps105)|go_enter Tryz.func97,Tryz.ntmps97
 go_wp2
 first|(guard_hyp C;go_loopw [5,10] (fun out o wr=>∃ (k:Nat) (A:Option Addr) (c:Nat) (l:List aC),k<=s/\o = .int .i64 k/\out = .slice A l.length c/\l=(K.take k).filter (fun g=>!p g)/\l.length<=k/\Below w w wr/\wr.ownsRow w 85 5 (.slice A l.length c) l.length (au aS l)) (fun _ o _=>s - (intOf o).toNat))|(guard_hyp I;go_loopw [5,10] (fun out o wr=>∃ (k:Nat) (A:Option Addr) (c:Nat) (l:List av),k<=s/\o = .int .i64 k/\out = .slice A l.length c/\l=(K.take k).filter (fun g=>!p g)/\l.length<=k/\Below w w wr/\wr.ownsRow w 70 3 (.slice A l.length c) l.length (au aH l)) (fun _ o _=>s - (intOf o).toNat))|go_loopw [5,10] (fun out o wr=>∃ (k:Nat) (A:Option Addr) (c:Nat) (l:List ak),k<=s/\o = .int .i64 k/\out = .slice A l.length c/\l=(K.take k).filter (fun g=>!p g)/\l.length<=k/\Below w w wr/\wr.ownsRow w 66 3 (.slice A l.length c) l.length (au aB l)) (fun _ o _=>s - (intOf o).toNat)
 case atStart=>exact⟨0,none,0,[],Nat.zero_le _,rfl,rfl,by simp,lJ,θ,World.ownsRow_nil _ _ _ _⟩
 case round=>
  obtain⟨k,A',c',l,hk,rfl,rfl,ap,a2,hb,ho⟩:=hrel;have R:=ω ap;have HB:=ω hb;have Z:=ω ho;have az:=hb.size;clear ap hb ho;by_cases hlt:k<s
  · obtain⟨y,hf⟩:∃ y,K[k]? = some y:=⟨_,gO (by have:=Hl.z; omega)⟩;obtain⟨bb,a5,ay,a0,hc⟩:=(Hx.below HB.z).eC aj Hl.z hf;subst ay;obtain⟨t,ht⟩:∃ t,p y=t:=⟨_,rfl⟩;have Hf:=ω hf;have Ht:=ω ht;have ar:=m8 hf
    first|(guard_hyp C;obtain⟨a,H⟩:∃ a,wr.alloc (.cells (aS y).toArray 85)=a:=⟨_,rfl⟩)|(guard_hyp I;obtain⟨a,H⟩:∃ a,wr.alloc (.cells (aH y).toArray 70)=a:=⟨_,rfl⟩)|obtain⟨a,H⟩:∃ a,wr.alloc (.cells (aB y).toArray 66)=a:=⟨_,rfl⟩
    have ag:Below wr wr a:=by rw [<- H]; exact (θ).alloc lJ _
    have d:=ω (show Blk a wr al (am y).toArray from by rw [<- H]; exact n5 wr _);have W:=ω (HB.trans (ag.mono az));have r:=ω (Hp.z a W.z y ar);rw [ht] at r;have Hn:=ω (show ∀ q,(Value.slice A' l.length c').ownBlock=some q->w.heap.size<=q/\q<wr.heap.size from fun q z=>⟨(Z.lt q z).1,(Z.lt q z).2⟩);have af:=ω (aF Z.z ag);have e:=ω H;have a3:=d.lt;have aw:a.heap.size=wr.heap.size+1:=by rw [<- H]; simp
    clear hf ag H ht Z ar
    first
     |(
      guard_hyp C
      obtain⟨b,F,G,E,J⟩:=y;have d:=ω (show Blk a wr 85 #[b,F,G,E,J] from d.z);have r:=ω (show ψ V (#[.agg #[b,F,G,E,J]] ++ ab) a fun S W'=>S = .returned (.bool t)/\Below a a W' from r.z);have e:=ω (show wr.alloc (.cells #[b,F,G,E,J] 85)=a from e.z);obtain⟨e0,e1,e2,e3,e4⟩:=rc5 hc;obtain⟨L,M,Q,y3,y4⟩:=Blk.c5 (show Blk (χ wr #[b,F,G,E,J] 85) (wr.heap.size) _ _ from by rw [e.z]; exact d))
     |(
      guard_hyp I
      obtain⟨b,h,i⟩:=y;have d:=ω (show Blk a wr 70 #[b,h,i] from d.z);have r:=ω (show ψ V (#[.agg #[b,h,i]] ++ ab) a fun S W'=>S = .returned (.bool t)/\Below a a W' from r.z);have e:=ω (show wr.alloc (.cells #[b,h,i] 70)=a from e.z);obtain⟨e0,e1,e2⟩:=rc3 hc;have L:ζ (χ wr #[b,h,i] 70) wr 0 (.string b):=by rw [e.z]; exact d.cell 0
      have M:ζ (χ wr #[b,h,i] 70) wr 1 (.int .i64 h):=by rw [e.z]; exact d.cell 1
      have Q:ζ (χ wr #[b,h,i] 70) wr 2 (.string i):=by rw [e.z]; exact d.cell 2)
     |(
      guard_hyp ai
      obtain⟨n,j,m⟩:=y;have d:=ω (show Blk a wr 66 #[n,j,m] from d.z);have r:=ω (show ψ V (#[.agg #[n,j,m]] ++ ab) a fun S W'=>S = .returned (.bool t)/\Below a a W' from r.z);have e:=ω (show wr.alloc (.cells #[n,j,m] 66)=a from e.z);obtain⟨e0,e1,e2⟩:=rc3 hc;have L:ζ (χ wr #[n,j,m] 66) wr 0 (.string n):=by rw [e.z]; exact d.cell 0
      have M:ζ (χ wr #[n,j,m] 66) wr 1 (.string j):=by rw [e.z]; exact d.cell 1
      have Q:ζ (χ wr #[n,j,m] 66) wr 2 (.int .i64 m):=by rw [e.z]; exact d.cell 2)
    have a1:bb<wr.heap.size:=by omega
    clear hc
    go_wp2_with fail
    try simp only [e.z]
    refine r.mono ?_;rintro S T ⟨rfl,ac⟩;have u:=ω (d.below ac d.lt);have D:=ω (aF af.z ac);have X:=ω (W.trans (ac.mono W.size));have mq:=X.size;have a4:=u.lt
    first
     |(
      guard_hyp C
      clear ac r e d af W aw e0 e1 e2 e3 e4 L M Q y3 y4)
     |(
      guard_hyp ax
      clear ac r e d af W aw e0 e1 e2 L M Q)
    cases t
    · have aa:=ω (nk (p:=fun g=>!p g) Hf.z (by simp only [Ht.z]; rfl))
      first
       |(
        guard_hyp C
        have v:(l ++ [(⟨b,F,G,E,J⟩:aC)]).length=l.length+1:=by simp
        obtain⟨L,M,Q,y3,y4⟩:=Blk.c5 (u.z)
        go_wp2_with (at_builtin; refine cI aS rfl _ _ 22 85 (.agg #[.string ⟨#[]⟩,(0:Int),(0:Int),(0:Int),.string ⟨#[]⟩]) 5 56 rfl Tryz.underlying22 mI rfl (by decide) aT kV w _ _ _ l rfl D.z _ ⟨b,F,G,E,J⟩ rfl _ (by simp) rfl (by omega) (by unfold maxLen; omega) (by omega) ?_; intro U c2 w3 ae ad; have Y:=ω (X.trans (ad.below (B:=w.heap.size) mq (fun q z=>by have:=(D.lt q z).1; omega)))))
       |(
        guard_hyp I
        have v:(l ++ [(⟨b,h,i⟩:av)]).length=l.length+1:=by simp
        have L:ζ T wr 0 (.string b):=u.cell 0;have M:ζ T wr 1 (.int .i64 h):=u.cell 1;have Q:ζ T wr 2 (.string i):=u.cell 2
        go_wp2_with (at_builtin; refine cI aH rfl _ _ 23 70 (.agg #[.string ⟨#[]⟩,(0:Int),.string ⟨#[]⟩]) 3 40 rfl Tryz.underlying23 kW rfl (by decide) aO jA w _ _ _ l rfl D.z _ ⟨b,h,i⟩ rfl _ (by simp) rfl (by omega) (by unfold maxLen; omega) (by omega) ?_; intro U c2 w3 ae ad; have Y:=ω (X.trans (ad.below (B:=w.heap.size) mq (fun q z=>by have:=(D.lt q z).1; omega)))))
       |(
        guard_hyp ai
        have v:(l ++ [(⟨n,j,m⟩:ak)]).length=l.length+1:=by simp
        have L:ζ T wr 0 (.string n):=u.cell 0;have M:ζ T wr 1 (.string j):=u.cell 1;have Q:ζ T wr 2 (.int .i64 m):=u.cell 2
        go_wp2_with (at_builtin; refine cI aB rfl _ _ 24 66 (.agg #[.string ⟨#[]⟩,.string ⟨#[]⟩,(0:Int)]) 3 40 rfl Tryz.underlying24 jB rfl (by decide) aI gY w _ _ _ l rfl D.z _ ⟨n,j,m⟩ rfl _ (by simp) rfl (by omega) (by unfold maxLen; omega) (by omega) ?_; intro U c2 w3 ae ad; have Y:=ω (X.trans (ad.below (B:=w.heap.size) mq (fun q z=>by have:=(D.lt q z).1; omega)))))
      go_roundw
      first
       |(
        guard_hyp C
        case rel=>exact⟨k+1,U,c2,l ++ [(⟨b,F,G,E,J⟩:aC)],by omega,by go_num,by rw [v],by rw [aa.z,<- R.z],by omega,Y.z,by rw [v]; exact ae⟩)
       |(
        guard_hyp I
        case rel=>exact⟨k+1,U,c2,l ++ [(⟨b,h,i⟩:av)],by omega,by go_num,by rw [v],by rw [aa.z,<- R.z],by omega,Y.z,by rw [v]; exact ae⟩)
       |(
        guard_hyp ai
        case rel=>exact⟨k+1,U,c2,l ++ [(⟨n,j,m⟩:ak)],by omega,by go_num,by rw [v],by rw [aa.z,<- R.z],by omega,Y.z,by rw [v]; exact ae⟩)
      case measure=>simp [intOf]; omega
    · have aa:=ω (oT (p:=fun g=>!p g) Hf.z (by simp only [Ht.z]; rfl));go_wp2
      go_roundw
      case rel=>exact⟨k+1,A',c',l,by omega,by go_num,rfl,by rw [aa.z,<- R.z],by omega,X.z,D.z⟩
      case measure=>simp [intOf]; omega
  · obtain rfl:s=k:=by omega
    have aq:l=P:=by rw [R.z,<- HP.z,List.take_of_length_le (by have:=Hl.z; omega)]
    have HL:=ω aq;clear aq R HP;go_wp2;go_ret;rw [<- HL.z];exact⟨A',c',rfl,Z,HB⟩)
def FH (B:Nat) (a:Option Addr) (n:Nat) (c:Option Addr) (d:Nat):Prop:=(c=a/\d=n)\/∀ b e,c=some ⟨b,e,none⟩->B<=b
structure BL (B:Nat) (x y:StA):Prop where
 j:FH B x.aj x.nj y.aj y.nj
 n:FH B x.an x.nn y.an y.nn
 l:FH B x.al x.nl y.al y.nl
theorem BL.refl (B:Nat) (x:StA):BL B x x:=⟨.inl ⟨rfl,rfl⟩,.inl ⟨rfl,rfl⟩,.inl ⟨rfl,rfl⟩⟩
theorem FH.own {w:World} {base B sz n c m:Nat} {a A:Option Addr} {e:TypeId} {xs:List Value} (f:w.ownsRow base e sz (.slice A n c) n xs) (d:B<=base):FH B a m A n:=
 .inr (by rintro b g rfl; exact v6 d (f.lt b rfl).1)
theorem FH.far {B V n d:Nat} {a b:Option Addr} (h:FH B a n b d) (g:kX V a n) (j:V<B):kX V b d:=fun i c f e=>by
 rcases h with ⟨rfl,rfl⟩ | h
 · exact g i c f e
 · have:=h c f e; omega
theorem BL.far {B V:Nat} {x y:StA} (h:BL B x y) (b:Far V x) (a:V<B):Far V y:=⟨h.j.far b.j a,h.n.far b.n a,h.l.far b.l a⟩
def iQ (x:StA) (R:Int × ah × Int) (w:World) (e:Ending) (w':World):Prop:=
 ∃ a,e = .returned (.tuple #[.agg (stC R.2.1 a),R.2.2,R.1])/\StAt w' w' R.2.1 a/\BL w x a/\Below w w w'
structure cK (w0 w:World) (O N:Nat) (st:ah) (x:StA) (now nw:Int) (q:aK) (so:ah) (xo:StA):Prop where
 below:Below w0 w0 w
 s:Blk w w0 36 (iB st x now)
 q:Blk w (w0.heap.size+1) 87 (aV q)
 r:Blk w (w0.heap.size+2) 26 lP
 o:Blk w O 26 (stC so xo)
 n:Blk w N 3 #[nw]
 at_:StAt w w st x
 ao:StAt w w so xo
 os:w0.heap.size+3<=O
 ns:w0.heap.size+3<=N
 ne:O≠N
 new:BL w0 x xo
section
variable {w0 w w':World} {O N:Nat} {st:ah} {x:StA} {now nw:Int} {q:aK} {so:ah} {xo:StA}
theorem cK.kept (h:cK w0 w O N st x now nw q so xo) (a:Below w w w'):cK w0 w' O N st x now nw q so xo:=
 ⟨h.below.trans (a.mono h.below.size),h.s.below a h.s.lt,h.q.below a h.q.lt,h.r.below a h.r.lt,h.o.below a h.o.lt,h.n.below a h.n.lt,h.at_.upS a,h.ao.upS a,h.os,h.ns,h.ne,h.new⟩
theorem cK.Al (h:cK w0 w O N st x now nw q so xo) (i:Nat) (v:Value) {c:ah} {b:StA} (f:(stC so xo).setIfInBounds i v=stC c b) (ha:StAt w w c b) (g:BL w0 x b):cK w0 (sX w O i v) O N st x now nw q c b:=by
 have a:=aR w O i v;have j:=h.os;have d:=h.ne;refine⟨cU h.below a (by omega),ay a h.s (by omega),ay a h.q (by omega),ay a h.r (by omega),Blk.eq (h.o.set i v) f,ay a h.n (fun e=>d e.symm),(h.at_.fY h.o (iV _ _) a).more a.size,(ha.fY h.o (iV _ _) a).more a.size,h.os,h.ns,h.ne,g⟩
theorem cK.Ko (h:cK w0 w O N st x now nw q so xo) (m:Int):cK w0 (sX w N 0 (.int .i64 m)) O N st x now m q so xo:=by
 have a:=aR w N 0 (.int .i64 m);have c:=h.ns;have b:=h.ne;refine⟨cU h.below a (by omega),ay a h.s (by omega),ay a h.q (by omega),ay a h.r (by omega),ay a h.o b,Blk.eq (h.n.set 0 _) rfl,(h.at_.fY h.n (xS _) a).more a.size,(h.ao.fY h.n (xS _) a).more a.size,h.os,h.ns,h.ne,h.new⟩
theorem cK.end_ (h:cK w0 w O N st x now nw q so xo) (a:w.grownBy w' (some (w0.heap.size+2))) (E:Int):iQ x (E,so,nw) w0 (.returned (.tuple #[.agg (stC so xo),nw,E])) w':=
 ⟨xo,rfl,(h.ao.fY h.r (iV ⟨0,[],[],[]⟩ ⟨none,0,0,none,0,0,none,0,0⟩) a).more a.size,h.new,cU h.below a (by omega)⟩
end
theorem Oj (Q:Nat) (q:aK) (xs:List aC) (w:World) (b:Blk w Q 87 (aV q)):lN (fun l=>decide (l.name=q.name)) 103 #[π Q 0] aS xs w:=by
 intro W c x _;have a:Blk W Q 87 (aV q):=b.below c b.lt;have k:ζ W Q 12 (.string q.name):=a.cell 12;have m:=a.lt;have d:=ω (oP x.name q.name);obtain⟨e,h,g,j,i⟩:=x
 show ψ 103 #[.agg #[e,h,g,j,i],π Q 0] W _
 clear b c a;go_enter Tryz.func103,Tryz.ntmps103;go_wp2;go_ret;exact⟨bB d.z,(θ).alloc lJ _⟩
def B3 (a:FuncId):Prop:=
 ∀ (Q:Nat) (q:aK) (xs:List ak) (w:World) (b:Blk w Q 87 (aV q)),lN (fun l=>decide (l.job=q.name)) a #[π Q 0] aB xs w
theorem B4:B3 104 /\ B3 111:=by
 refine⟨@fun Q q i w a=>(fun(d:Unit)=>?_) (),@fun Q q i w a=>?_⟩<;>(
 first|(guard_hyp d;have e:Tg 6:=⟨⟩)|(have e:Tg 8:=⟨⟩)
 intro W c x _;have b:Blk W Q 87 (aV q):=a.below c a.lt;have j:ζ W Q 12 (.string q.name):=b.cell 12;have k:=b.lt;have g:=ω (oP x.job q.name);obtain⟨job,node,h⟩:=x
 show ψ e #[.agg #[job,node,h],π Q 0] W _
 clear a c b
 first|(guard_hyp d;go_enter Tryz.func104,Tryz.ntmps104)|go_enter Tryz.func111,Tryz.ntmps111
 go_wp2;go_ret;exact⟨bB g.z,(θ).alloc lJ _⟩)
theorem Ok (Q:Nat) (q:aK) (xs:List av) (w:World) (b:Blk w Q 87 (aV q)):lN (fun l=>decide (l.name=q.name)) 106 #[π Q 0] aH xs w:=by
 intro W c x _;have a:Blk W Q 87 (aV q):=b.below c b.lt;have i:ζ W Q 12 (.string q.name):=a.cell 12;have j:=a.lt;have d:=ω (oP x.name q.name);obtain⟨e,g,h⟩:=x
 show ψ 106 #[.agg #[e,g,h],π Q 0] W _
 clear b c a;go_enter Tryz.func106,Tryz.ntmps106;go_wp2;go_ret;exact⟨bB d.z,(θ).alloc lJ _⟩
theorem ML (Q:Nat) (q:aK) (xs:List ak) (w:World) (b:Blk w Q 87 (aV q)):lN (fun l=>decide (l.node=q.name)) 107 #[π Q 0] aB xs w:=by
 intro W c x _;have a:Blk W Q 87 (aV q):=b.below c b.lt;have g:ζ W Q 12 (.string q.name):=a.cell 12;have h:=a.lt;have d:=ω (oP x.node q.name);obtain⟨job,node,e⟩:=x
 show ψ 107 #[.agg #[job,node,e],π Q 0] W _
 clear b c a;go_enter Tryz.func107,Tryz.ntmps107;go_wp2;go_ret;exact⟨bB d.z,(θ).alloc lJ _⟩
theorem Ol (N:Nat) (t:Int) (xs:List ak) (w:World) (b:Blk w N 3 #[t]):lN (fun l=>decide (l.till<=t)) 112 #[π N 0] aB xs w:=by
 intro W c x _;have a:Blk W N 3 #[t]:=b.below c b.lt;have e:ζ W N 0 (.int .i64 t):=a.cell 0;have g:=a.lt;obtain⟨job,node,d⟩:=x
 show ψ 112 #[.agg #[job,node,d],π N 0] W _
 clear b c a;go_enter Tryz.func112,Tryz.ntmps112;go_wp2;go_ret;exact⟨rfl,(θ).alloc lJ _⟩
def G6 (w0:World) (O N:Nat) (st:ah) (x:StA) (now nw:Int) (q:aK) (so:ah) (a:List ak) (w:World) (e:Ending) (w':World):Prop:=
 e = .returned (.tuple #[])/\∃ b,cK w0 w' O N st x now nw q ⟨so.rev,so.jobs,so.nodes,a⟩ b
theorem wB (p:ak->Bool) (F:FuncId) (b:Array Value) (w0 w:World) (O N:Nat) (st:ah) (x:StA) (now nw:Int) (q:aK) (so:ah) (xo:StA) (h:cK w0 w O N st x now nw q so xo) (c:x.nl<=1000) (t:∀ args w,(callFunc F args).run Tryz.prog w = .ok (.enter F args) w) (m:lN p F b aB st.leases w) :
 ψ 96 #[.func (.func F) #[] b,π w0 0,π O 0] w (G6 w0 O N st x now nw q so (st.leases.filter fun l=>!p l) w):=by
 have y:ζ w w0 3 (.slice x.al x.nl x.cl):=h.s.cell 3;have v:=h.s.lt;have u:=h.o.lt;have g:=ω (xR.2.2 p F b st.leases x.al x.nl x.cl w t h.at_.l h.at_.ll c m);have H:=ω h;clear h m;go_enter Tryz.func96,Tryz.ntmps96
 go_wp2_with fail
 refine g.mono ?_;rintro z e ⟨A,i,rfl,d,k⟩;have a:=H.kept k;have C:ζ e O 3 (.slice xo.al xo.nl xo.cl):=a.o.cell 3;have D:κ e O 3:=a.o.thaw 3;have B:=a.o.lt;have r:=ω (show G6 w0 O N st x now nw q so (st.leases.filter fun l=>!p l) w (.returned (.tuple #[])) (sX e O 3 (.slice A (st.leases.filter fun l=>!p l).length i)) from ⟨rfl,_,a.Al 3 _ rfl (a.ao.NV i (cS d) rfl (by have:=List.length_filter_le (fun l=>!p l) st.leases; have:=H.at_.ll; omega) (fun l c=>a.at_.ol l (List.mem_filter.1 c).1)) ⟨a.new.j,a.new.n,.own d (by have:=H.below.size; omega)⟩⟩);clear a d k g y v u;go_wp2;go_end0;exact r
structure NxG where
 O:Option Nat
 N:Option Nat
def nxV (S:Nat) (st:ah) (x:StA) (now:Int) (a:NxG):Nat->Value->Prop
 | 0,u=>u = π S 0
 | 1,u=>u = .agg #[.int .i64 st.rev,.slice x.aj x.nj x.cj,.slice x.an x.nn x.cn,.slice x.al x.nl x.cl]
 | 2,u=>u = π S 4
 | 3,u=>u = .int .i64 now
 | 4,u=>∃ O,a.O=some O/\u = π O 0
 | 5,u=>∃ N,a.N=some N/\u = π N 0
 | _,_=>True
theorem Kp {S:Nat} {st:ah} {x:StA} {now:Int} {b:NxG} (O:Option Nat):∀ j v,j≠4->nxV S st x now b j v->nxV S st x now ⟨O,b.N⟩ j v:=fun j v a h=>
 match j,a,h with
 | 0,_,h=>h | 1,_,h=>h | 2,_,h=>h | 3,_,h=>h | 4,a,_=>absurd rfl a | 5,_,h=>h | _+6,_,_=>trivial
theorem Kq {S:Nat} {st:ah} {x:StA} {now:Int} {b:NxG} (N:Option Nat):∀ j v,j≠5->nxV S st x now b j v->nxV S st x now ⟨b.O,N⟩ j v:=fun j v a h=>
 match j,a,h with
 | 0,_,h=>h | 1,_,h=>h | 2,_,h=>h | 3,_,h=>h | 4,_,h=>h | 5,a,_=>absurd rfl a | _+6,_,_=>trivial
structure NxP (w0:World) (st:ah) (x:StA) (now:Int) (q:aK) (k:Nat) (γ:NxG) (w:World):Prop where
 below:Below w0 w0 w
 s:Blk w w0 36 (iB st x now)
 q:Blk w (w0.heap.size+1) 87 (aV q)
 r:Blk w (w0.heap.size+2) 26 lP
 at_:StAt w w st x
 o:∀ O,γ.O=some O->w0.heap.size+3<=O/\Blk w O 26 (if k=0 then lP else stC st x)
 n:∀ N,γ.N=some N->w0.heap.size+3<=N/\Blk w N 3 (if k<2 then #[(0:Int)] else #[now])
 ne:∀ O N,γ.O=some O->γ.N=some N->O≠N
theorem NxP.FI {w0 w:World} {st:ah} {x:StA} {now:Int} {q:aK} {d:NxG} (h:NxP w0 st x now q 0 d w):NxP w0 st x now q 0 ⟨some w,d.N⟩ (χ w lP 26):=by
 have b:Below w w (χ w lP 26):=(θ).alloc lJ _;have e:=h.r.lt;refine⟨h.below.trans (b.mono h.below.size),h.s.below b h.s.lt,h.q.below b h.q.lt,h.r.below b h.r.lt,h.at_.upS b,fun O a=>?_,fun N c=>⟨(h.n N c).1,(h.n N c).2.below b (h.n N c).2.lt⟩,fun O N a c=>?_⟩
 · injection a with a;subst a;exact⟨by omega,n5 w _⟩
 · injection a with a;have:=(h.n N c).2.lt;omega
theorem NxP.FJ {w0 w:World} {st:ah} {x:StA} {now:Int} {q:aK} {d:NxG} (h:NxP w0 st x now q 0 d w):NxP w0 st x now q 0 ⟨d.O,some w⟩ (χ w #[(0:Int)] 3):=by
 have b:Below w w (χ w #[(0:Int)] 3):=(θ).alloc lJ _;have e:=h.r.lt;refine⟨h.below.trans (b.mono h.below.size),h.s.below b h.s.lt,h.q.below b h.q.lt,h.r.below b h.r.lt,h.at_.upS b,fun O c=>⟨(h.o O c).1,(h.o O c).2.below b (h.o O c).2.lt⟩,fun N a=>?_,fun O N c a=>?_⟩
 · injection a with a;subst a;exact⟨by omega,n5 w _⟩
 · injection a with a;have:=(h.o O c).2.lt;omega
theorem NxP.Al {w0 w w':World} {st:ah} {x:StA} {now:Int} {q:aK} {e:NxG} {O:Nat} (h:NxP w0 st x now q 0 e w) (d:e.O=some O) (a:w.grownBy w' (some O)) (j:Blk w' O 26 (stC st x)):NxP w0 st x now q 1 e w':=by
 obtain⟨g,i⟩:=h.o O d;refine⟨cU h.below a (by omega),ay a h.s (by omega),ay a h.q (by omega),ay a h.r (by omega),(h.at_.fY i (iV ⟨0,[],[],[]⟩ ⟨none,0,0,none,0,0,none,0,0⟩) a).more a.size,fun k b=>?_,fun N c=>⟨(h.n N c).1,ay a (h.n N c).2 (fun f=>h.ne O N d c f.symm)⟩,h.ne⟩;rw [d] at b;injection b with b;subst b;exact⟨g,j⟩
theorem NxP.Ko {w0 w w':World} {st:ah} {x:StA} {now:Int} {q:aK} {e:NxG} {N:Nat} (h:NxP w0 st x now q 1 e w) (c:e.N=some N) (a:w.grownBy w' (some N)) (i:Blk w' N 3 #[now]):NxP w0 st x now q 2 e w':=by
 obtain⟨f,g⟩:=h.n N c;refine⟨cU h.below a (by omega),ay a h.s (by omega),ay a h.q (by omega),ay a h.r (by omega),(h.at_.fY g (xS 0) a).more a.size,fun O d=>⟨(h.o O d).1,ay a (h.o O d).2 (h.ne O N d c)⟩,fun j b=>?_,h.ne⟩;rw [c] at b;injection b with b;subst b;exact⟨f,i⟩
def nxE (w0:World) (O N:Nat) (st:ah) (x:StA) (now nw:Int) (q:aK) (so:ah) (xo:StA) (p:Nat) (w:World):Prop:=
 if p<2 then cK w0 w O N st x now nw q so xo else ∃ a,cK w0 a O N st x now nw q so xo/\a.grownBy w (some (w0.heap.size+2))/\Blk w (w0.heap.size+2) 26 (stC so xo)
theorem qF {w0 w:World} {O N:Nat} {st:ah} {x:StA} {now nw:Int} {q:aK} {so:ah} {xo:StA} {p:Nat} (h:nxE w0 O N st x now nw q so xo p w):Blk w N 3 #[nw]:=by
 unfold nxE at h
 split at h
 · exact h.n
 · obtain⟨c,a,b,_⟩:=h;have:=a.ns;exact ay b a.n (by omega)
theorem jT {w0 w:World} {O N:Nat} {st:ah} {x:StA} {now nw:Int} {q:aK} {so:ah} {xo:StA} {p:Nat} (a:p<2) (h:nxE w0 O N st x now nw q so xo p w):cK w0 w O N st x now nw q so xo:=by
 unfold nxE at h; rw [if_pos a] at h; exact h
theorem jU {w0 w:World} {O N:Nat} {st:ah} {x:StA} {now nw:Int} {q:aK} {so:ah} {xo:StA} {p:Nat} (a:p<2) (h:cK w0 w O N st x now nw q so xo):nxE w0 O N st x now nw q so xo p w:=by
 unfold nxE; rw [if_pos a]; exact h
def Kr (so:ah) (xo:StA) (nw E:Int):Nat->Value->Prop
 | 0,u=>u = .agg #[.int .i64 so.rev,.slice xo.aj xo.nj xo.cj,.slice xo.an xo.nn xo.cn,.slice xo.al xo.nl xo.cl]
 | 1,u=>u = .int .i64 nw
 | 2,u=>u = .agg #[.int .i64 so.rev,.slice xo.aj xo.nj xo.cj,.slice xo.an xo.nn xo.cn,.slice xo.al xo.nl xo.cl]
 | 3,u=>u = .int .i64 E
 | 5,u=>u = .int .i64 nw
 | 6,u=>u = .int .i64 E
 | _,_=>True
theorem cK.drewN {w0 w:World} {O N:Nat} {st:ah} {x:StA} {now nw:Int} {q:aK} {so:ah} {xo:StA} (h:cK w0 w O N st x now nw q so xo):cK w0 w.drew O N st x now nw q so xo:=
 ⟨h.below.drew,h.s,h.q,h.r,h.o,h.n,h.at_.drew,h.ao.drew,h.os,h.ns,h.ne,h.new⟩
theorem B5 :
 (∀ (q:aK) (st:ah) (x:StA) (now:Int) (w:World) (hS:StAt w w st x) (d:x.nj<=1000) (B:x.nn<=1000) (h3:x.nl<=1000) (S:ROk q) (H:∀ Y,ψ 55 #[bP q] Y (bG 0 Y)) (hq:q.kind=1),ψ 57 #[.agg (iB st x now),bP q] w (iQ x (aE (mJ st q.job),mJ st q.job,now) w)) /\
 (∀ (q:aK) (st:ah) (x:StA) (now:Int) (w:World) (hS:StAt w w st x) (d:x.nj<=1000) (B:x.nn<=1000) (h3:x.nl<=1000) (S:ROk q) (H:∀ Y,ψ 55 #[bP q] Y (bG 0 Y)) (hq:q.kind=2),ψ 57 #[.agg (iB st x now),bP q] w (iQ x (aE (mK st q.node),mK st q.node,now) w)):=by
 refine⟨@fun q st x now w hS d B h3 S H hq=>(fun(u:Unit)=>?_) (),@fun q st x now w hS d B h3 S H hq=>(fun(ap:Unit)=>?_) ()⟩<;>(
 first|(guard_hyp u;have ax:Tg 9:=⟨⟩;have ay:Tg 10:=⟨⟩)|(have ax:Tg 11:=⟨⟩;have ay:Tg 12:=⟨⟩)
 obtain⟨q1,q2,q3,q4⟩:=qG w (iB st x now) (aV q) lP (ta:=36) (tb:=87) (tc:=26);obtain⟨W0,ag⟩:∃ W0,((w.alloc (.cells (iB st x now) 36)).alloc (.cells (aV q) 87)).alloc (.cells lP 26)=W0:=⟨_,rfl⟩;rw [ag] at q1 q2 q3 q4;have H0:NxP w st x now q 0 ⟨none,none⟩ W0.drew:=⟨q4.drew,q1,q2,q3,(hS.upS q4).drew,fun O i=>(by cases i),fun N i=>(by cases i),fun O N i=>(by cases i)⟩;have H:=ω H;have Hq:=ω hq;clear hq;have af:=ω ag;clear q1 q2 q3 q4 hS ag;unfold bP;unfold iB aV at af |-;go_enter Tryz.func57,Tryz.ntmps57
 go_wp2_with fail
 rw [af.z];clear af;refine rq 184 (nxV w st x now) [6,7] (NxP w st x now q) ⟨none,none⟩ H0 ?_ ?_
 · clear H0;refine⟨?_,?_,?_,?_,?_,?_,?_,?_,trivial⟩
   · exact ok0 0 2 2 rfl fun _=>rfl
   · refine okQ 0 2 fun F h C c _ _ a e=>?_;obtain⟨u1,d,rfl⟩:=e.g 0 13 rfl rfl;obtain⟨M,aa,ab,ac⟩:=Blk.c4 (a.s);simp [go_sem,Oper.wp,execOp,Act.eval,d,M,aa,ab,ac];exact⟨_,rfl,h,fun _ _ _ i=>i,rfl,a⟩
   · exact ok0 0 2 2 rfl fun _=>rfl
   · refine okQ 0 2 fun F h C c _ _ a e=>?_;obtain⟨u1,d,rfl⟩:=e.g 2 15 rfl rfl;have a6:ζ c w 4 (.int .i64 now):=a.s.cell 4;simp [go_sem,Oper.wp,execOp,Act.eval,d,a6];exact⟨_,rfl,h,fun _ _ _ i=>i,rfl,a⟩
   · refine okQ 0 0 fun F h C c _ _ a e=>?_;obtain rfl:F=0:=by omega
     simp [go_sem,Oper.wp,execOp,Act.eval];exact⟨_,rfl,⟨some c,h.N⟩,Kp _,⟨_,rfl,rfl⟩,a.FI⟩
   · refine okQ 0 0 fun F h C c _ _ a e=>?_;obtain rfl:F=0:=by omega
     simp [go_sem,Oper.wp,execOp,Act.eval];exact⟨_,rfl,⟨h.O,some c⟩,Kq _,⟨_,rfl,rfl⟩,a.FJ⟩
   · refine .inl ⟨0,rfl,fun h C c a e=>aL rfl ?_⟩;obtain⟨u1,d,U⟩:=e.g 4 7 rfl rfl;obtain⟨u2,B,rfl⟩:=e.g 1 14 rfl rfl;obtain⟨O,L,U⟩:=(show ∃ O,h.O=some O/\u1 = .pointer (some ⟨O,0,none⟩) from U);subst U;have z:Blk c O 26 lP:=(a.o O L).2;obtain⟨z0,z1,z2,z3⟩:=Blk.z4 (z);obtain⟨c0,I,c2,J⟩:=Blk.c4 (z);obtain⟨ak,am⟩:=Blk.S4 z (.int .i64 st.rev) (.slice x.aj x.nj x.cj) (.slice x.an x.nn x.cn) (.slice x.al x.nl x.cl);have ad:=a.Al L am ak;clear z a;simp [go_sem,Oper.wp,execOp,Act.eval,d,B,c0,I,c2,J,z0,z1,z2,z3];exact⟨.int .i64 0,h,fun _ _ _ i=>i,trivial,ad⟩
   · refine .inl ⟨1,rfl,fun h C c a e=>aL rfl ?_⟩;obtain⟨u1,d,U⟩:=e.g 5 8 rfl rfl;obtain⟨u2,B,rfl⟩:=e.g 3 16 rfl rfl;obtain⟨N,K,U⟩:=(show ∃ N,h.N=some N/\u1 = .pointer (some ⟨N,0,none⟩) from U);subst U;have z:Blk c N 3 #[(0:Int)]:=(a.n N K).2;have z0:κ c N 0:=z.thaw 0;have c0:ζ c N 0 (.int .i64 0):=z.cell 0;have ad:=a.Ko K (aR c N 0 (.int .i64 now)) (Blk.eq (z.set 0 (.int .i64 now)) rfl);clear z a;simp [go_sem,Oper.wp,execOp,Act.eval,d,B,c0,z0];exact⟨.int .i64 0,h,fun _ _ _ i=>i,trivial,ad⟩
 intro h a1 c P;have a:=P.ph;obtain⟨Z,rfl,Q⟩:=P.frame [13,14,15,16,7,8] rfl;obtain⟨O,L,f7⟩:=(show ∃ O,h.O=some O/\Z 7 = .pointer (some ⟨O,0,none⟩) from Q 4 _ 7 rfl rfl);obtain⟨N,K,f8⟩:=(show ∃ N,h.N=some N/\Z 8 = .pointer (some ⟨N,0,none⟩) from Q 5 _ 8 rfl rfl);have b:=ω (show cK w c O N st x now now q st x from ⟨a.below,a.s,a.q,a.r,(a.o O L).2,(a.n N K).2,a.at_,a.at_,(a.o O L).1,(a.n N K).1,a.ne O N L K,BL.refl _ _⟩);clear P Q a H0 L K;simp only [foldl_cons,foldl_nil,setIfInBounds_toArray,set_cons_succ,set_cons_zero,f7,f8];clear f7 f8;obtain⟨c0,I,c2,J,c4,c5,c6,c7,c8,c9,a2,a3,a4,a5⟩:=Blk.c14 (b.q);have HC:=ω (show ψ 55 #[.agg (oL q)] c (bG 0 c) from H.z c);have a8:=b.q.lt;clear H
 go_wp2_with fail
 refine HC.mono ?_;rintro ar y ⟨rfl,au⟩;have b:=ω (b.kept au);have a8:=b.q.lt;have aA:=b.s.lt;have a7:=b.o.lt;have a9:=b.n.lt;clear au HC c0 I c2 J c4 c5 c6 c7 c8 c9 a2 a3 a4 a5;have c0:ζ y (w.heap.size+1) 0 (.int .i64 ax):=by rw [b.z.q.cell 0]; exact congrArg (fun k=>some (Value.int .i64 k)) Hq.z
 first|(guard_hyp u;have I:ζ y (w.heap.size+1) 1 (.string q.job.name):=b.q.cell 1)|have c6:ζ y (w.heap.size+1) 6 (.string q.node.name):=b.q.cell 6
 first|(guard_hyp u;have c2:ζ y (w.heap.size+1) 2 (.int .i64 q.job.prio):=b.q.cell 2)|have c7:ζ y (w.heap.size+1) 7 (.int .i64 q.node.room):=b.q.cell 7
 first
  |(
   guard_hyp u
   have J:ζ y (w.heap.size+1) 3 (.int .i64 q.job.need):=b.q.cell 3;have c4:ζ y (w.heap.size+1) 4 (.int .i64 q.job.tries):=b.q.cell 4)
  |skip
 first|(guard_hyp u;have c5:ζ y (w.heap.size+1) 5 (.string q.job.tag):=b.q.cell 5)|have c8:ζ y (w.heap.size+1) 8 (.string q.node.zone):=b.q.cell 8
 first|(guard_hyp u;have s1:ζ y w 1 (.slice x.aj x.nj x.cj):=b.s.cell 1)|have s2:ζ y w 2 (.slice x.an x.nn x.cn):=b.s.cell 2
 first
  |(
   guard_hyp u
   have HP:=ω (show ψ 98 #[.slice x.aj x.nj x.cj,.agg #[q.job.name,q.job.prio,q.job.need,q.job.tries,q.job.tag],.func (.func 99) #[] #[]] y _ from ru.1 q.job st.jobs x.aj x.nj x.cj y b.at_.j b.at_.lj d))
  |(
   guard_hyp ap
   have HP:=ω (show ψ 100 #[.slice x.an x.nn x.cn,.agg #[q.node.name,q.node.room,q.node.zone],.func (.func 101) #[] #[]] y _ from ru.2.1 q.node st.nodes x.an x.nn x.cn y b.at_.n b.at_.ln B))
 go_wp2_with fail
 refine HP.mono ?_;rintro ar V ⟨A,G,rfl,R,ai⟩
 first|(guard_hyp u;obtain⟨so,X⟩:∃ so,mJ st q.job=so:=⟨_,rfl⟩)|obtain⟨so,X⟩:∃ so,mK st q.node=so:=⟨_,rfl⟩
 first|(guard_hyp u;obtain⟨m,D⟩:∃ m,(jI aC.name st.jobs q.job).length=m:=⟨_,rfl⟩)|obtain⟨m,D⟩:∃ m,(jI av.name st.nodes q.node).length=m:=⟨_,rfl⟩
 have aB:m<=1001:=by
  first|(guard_hyp u;have i:=lX aC.name q.job st.jobs false)|have i:=lX av.name q.node st.nodes false
  first|(guard_hyp u;have B:=b.at_.lj)|have B:=b.at_.ln
  rw [<- D];unfold jI;simp only [Bool.false_eq_true,if_false] at i;omega
 have p:=b.kept ai;rw [D] at R |-
 first
  |(
   guard_hyp u
   have W:=ω (show cK w (sX V O 1 (.slice A m G)) O N st x now now q so ⟨A,m,G,x.an,x.nn,x.cn,x.al,x.nl,x.cl⟩ from by
    rw [<- X]
    exact p.Al 1 _ rfl (p.ao.Ks G (cS R) D (by omega) (fun aq T=>by
     rcases nX T with rfl | T
     · exact⟨S.j1,S.j2⟩
     · exact p.at_.oj aq T)) ⟨.own R b.below.size,p.new.n,p.new.l⟩))
  |(
   guard_hyp ap
   have W:=ω (show cK w (sX V O 2 (.slice A m G)) O N st x now now q so ⟨x.aj,x.nj,x.cj,A,m,G,x.al,x.nl,x.cl⟩ from by
    rw [<- X]
    exact p.Al 2 _ rfl (p.ao.NX G (cS R) D (by omega) (fun aq T=>by
     rcases nX T with rfl | T
     · exact⟨S.n1,S.n2⟩
     · exact p.at_.on_ aq T)) ⟨p.new.j,.own R b.below.size,p.new.l⟩))
 first|(guard_hyp u;have o1:ζ V O 1 (.slice x.aj x.nj x.cj):=p.o.cell 1)|have o2:ζ V O 2 (.slice x.an x.nn x.cn):=p.o.cell 2
 first|(guard_hyp u;have z1:κ V O 1:=p.o.thaw 1)|have z2:κ V O 2:=p.o.thaw 2
 have a7:=p.o.lt
 first|(guard_hyp u;obtain⟨xo,ae⟩:∃ xo:StA,⟨A,m,G,x.an,x.nn,x.cn,x.al,x.nl,x.cl⟩=xo:=⟨_,rfl⟩)|obtain⟨xo,ae⟩:∃ xo:StA,⟨x.aj,x.nj,x.cj,A,m,G,x.al,x.nl,x.cl⟩=xo:=⟨_,rfl⟩
 rw [ae] at W;have a0:=ω X
 first
  |(
   guard_hyp u
   clear ae X D R ai p HP b c0 I c2 J c4 c5 s1)
  |(
   guard_hyp ap
   clear ae X D R ai p HP b c0 c6 c7 c8 s2)
 go_wp2_with fail
 obtain⟨w3,aw⟩:∃ w3,V.setCell ⟨O,ay,none⟩ (.slice A m G)=w3:=⟨_,rfl⟩;rw [aw] at W |-;clear aw;obtain⟨E,hE⟩:∃ E,aE so=E:=⟨_,rfl⟩;have HE:=ω (show Value.int .i64 (aE so)=Value.int .i64 E from by rw [hE]);have az:=ω hE;clear hE;refine rq (Γ:=Unit) 184 (fun _=>Kr so xo now E) [3,4] (fun F _=>nxE w O N st x now now q so xo F) () (show cK w (w3).drew O N st x now now q so xo from W.drewN) ?_ ?_
 · clear W;refine⟨?_,?_,?_,?_,?_,?_,?_,trivial⟩
   · refine okQ 0 1 fun F h C c _ _ a e=>?_;have d:=e.k 7 rfl;have a:=(show cK w c O N st x now now q so xo from jT (by omega) a);obtain⟨M,aa,ab,ac⟩:=Blk.c4 (a.o);simp [go_sem,Oper.wp,execOp,Act.eval,d,M,aa,ab,ac];exact⟨_,rfl,rfl,jU (by omega) a⟩
   · refine okQ 0 2 fun F h C c _ _ a e=>?_;have d:=e.k 8 rfl;have M:ζ c N 0 (.int .i64 now):=(qF a).cell 0;simp [go_sem,Oper.wp,execOp,Act.eval,d,M];exact⟨_,rfl,rfl,a⟩
   · refine okQ 0 0 fun F h C c _ _ a e=>?_;have d:=e.k 7 rfl;have a:=(show cK w c O N st x now now q so xo from jT (by omega) a);obtain⟨M,aa,ab,ac⟩:=Blk.c4 (a.o);simp [go_sem,Oper.wp,execOp,Act.eval,d,M,aa,ab,ac];exact⟨_,rfl,rfl,jU (by omega) a⟩
   · refine .inl ⟨0,rfl,fun h C c a e=>aL rfl ?_⟩;obtain⟨u1,d,rfl⟩:=e.g 2 182 rfl rfl;simp [go_sem,Oper.wp,execOp,Act.eval,d];have a:=(show cK w c O N st x now now q so xo from a);refine (lQ so xo c a.ao).mono ?_;rintro ar w' ⟨rfl,hb⟩;exact⟨_,rfl,HE,a.kept hb⟩
   · refine .inl ⟨1,rfl,fun h C c a e=>aL rfl ?_⟩;have d:=e.k 4 rfl;obtain⟨u2,B,rfl⟩:=e.g 0 180 rfl rfl;have a:=(show cK w c O N st x now now q so xo from a);have z:=a.r;obtain⟨z0,z1,z2,z3⟩:=Blk.z4 (z);obtain⟨c0,I,c2,J⟩:=Blk.c4 (z);obtain⟨ak,am⟩:=Blk.S4 z (.int .i64 so.rev) (.slice xo.aj xo.nj xo.cj) (.slice xo.an xo.nn xo.cn) (.slice xo.al xo.nl xo.cl);have ad:nxE w O N st x now now q so xo 2 _:=⟨c,a,am,ak⟩;clear z a;simp [go_sem,Oper.wp,execOp,Act.eval,d,B,c0,I,c2,J,z0,z1,z2,z3];exact⟨⟨.int .i64 0,trivial⟩,ad⟩
   · exact ok1 2 2 1 181 rfl rfl (fun _ _ i=>i) fun _=>rfl
   · exact ok1 2 2 3 183 rfl rfl (fun _ _ i=>i) fun _=>rfl
 intro h a1 wz P;obtain⟨wm,D,hg,hr⟩:=(show ∃ wm,cK w wm O N st x now now q so xo/\wm.grownBy wz (some (w.heap.size+2))/\Blk wz (w.heap.size+2) 26 (stC so xo) from P.ph);obtain⟨Z,rfl,Q⟩:=P.frame [180,181,182,183,5,6] rfl;have f5:Z 5 = .int .i64 now:=Q 5 _ 5 rfl rfl;have f6:Z 6 = .int .i64 E:=Q 6 _ 6 rfl rfl;obtain⟨y0,y1,y2,y3⟩:=Blk.c4 (hr);have aW:=ω (D.end_ hg E);clear P Q D hg hr W;simp only [foldl_cons,foldl_nil,setIfInBounds_toArray,set_cons_succ,set_cons_zero,f5,f6];clear f5 f6;go_wp2;refine bodyPost_ret (v:=.tuple #[.agg (stC so xo),.int .i64 now,.int .i64 E]) (by simp [results,Tryz.results57,go_sem,stC, *]) rfl ?_;rw [a0.z,az.z];exact aW)
theorem uY {α:Type} {enc:α->List UInt8} {xs:List α} (h:∀ x,(enc x).length<=85) (c:xs.length<=40):(fZ enc xs).length<=4000:=by
 have a:=iW h xs;have b:=bT xs.length;unfold fZ;rw [List.length_append]; omega
theorem FK (x:ByteArray):(dW x).length<=85:=by have:=dA x; omega
def ROut (P:List UInt8) (a:List (List ByteArray)) (S:Nat) (b:Array Value) (w:World) (s i:Value) (wr:World):Prop:=
 ∃ (k:Nat) (T:ByteArray),k<=3/\i = .int .i64 k/\s = .string T/\T=bs (P ++ (a.take k).flatMap (fZ dW))/\T.size<=100000+4000*k/\Below w w wr/\Blk wr S 93 b
def RIn (N:Nat) (P:List UInt8) (xs:List ByteArray) (n:Nat) (S:Nat) (a:Array Value) (w:World) (s i:Value) (wr:World):Prop:=
 ∃ (k:Nat) (T:ByteArray),k<=n/\i = .int .i64 k/\s = .string T/\T=bs (P ++ (xs.take k).flatMap dW)/\T.size<=N+85*k/\Below w w wr/\Blk wr S 93 a
theorem CO (d:aX) (x:eF) (w:World) (hD:dz w w d x) :
 ψ 31 #[.agg (dC d x)] w (lC d w):=by
 have af:Below w w (χ w (dC d x) 95):=(θ).alloc lJ _;have ay:Blk (χ w (dC d x) 95) w 95 (dC d x):=n5 w _;have hC:=DV d x _ (hD.up af);obtain⟨E,K⟩:∃ E,gG d=E:=⟨_,rfl⟩;unfold sH at hC;rw [K] at hC;have HC:=ω hC;have HE:=ω K;have g:=ω hD;have ao:=ω af;have al:=ω ay;have Oi:=ω (fun (J:E≠0) w'=>lC.bad (w:=w) (w':=w') K J);have Fz:=ω (fun (J:E=0) w'=>lC.large (w:=w) (w':=w') (K.trans J));have aF:=ω (fun (J:E=0) w' s=>lC.ok (w:=w) (w':=w') (s:=s) (K.trans J));have Kg:=ω (fun (J:E=0)=>NU (K.trans J));clear hC K hD af ay;obtain⟨c,h,jobs,nodes,leases,z,C,B⟩:=d;obtain⟨ar,nj,cj,an,nn,cn,av,nl,cl,o,F,u,r,I,y,p,H,v⟩:=x;unfold dC at *;dsimp only at *;go_enter Tryz.func31,Tryz.ntmps31
 go_wp2_with fail
 refine HC.mono ?_;rintro ax b ⟨rfl,ab⟩;have ac:=ao.trans (ab.mono ao.size);by_cases h0:E=0;rotate_left
 · have bf:(E != 0)=true:=bne_iff_ne.2 h0;have P:=ω (Oi.z h0 b ac);clear ab ac;go_wp2;go_ret2;exact P
 subst h0;have G:=ω (Kg.z rfl);have aM:=G.t0;have aN:=G.t1;have aO:=G.t2;dsimp only at aM aN aO;have m:=ω (show Blk b w 95 _ from al.below ab al.lt);have a8:w.heap.size<b.heap.size:=m.lt;have i:=ω ac;have b0:=fun d a=>cell_regrown (show ζ b w 0 (.int .i64 c) from m.cell 0) d a;have b1:=fun d a=>cell_regrown (show ζ b w 1 (.int .i64 h) from m.cell 1) d a;have b2:=fun d a=>cell_regrown (show ζ b w 2 (.slice ar nj cj) from m.cell 2) d a;have b3:=fun d a=>cell_regrown (show ζ b w 3 (.slice an nn cn) from m.cell 3) d a;have b4:=fun d a=>cell_regrown (show ζ b w 4 (.slice av nl cl) from m.cell 4) d a;have b5:=fun d a=>cell_regrown (show ζ b w 5 (.slice o F u) from m.cell 5) d a;have b6:=fun d a=>cell_regrown (show ζ b w 6 (.slice r I y) from m.cell 6) d a;have b7:=fun d a=>cell_regrown (show ζ b w 7 (.slice p H v) from m.cell 7) d a;have ai:=g.lj;have aj:=g.ln;have ak:=g.ll;have a1:=G.nj;have a2:=G.nn;have a3:=G.nl;dsimp only at ai aj ak a1 a2 a3;have U:=fun d a=>jJ c (Sort.grow (redrawn b d) a) (by omega);have V:=fun d a=>jJ (h - c) (Sort.grow (redrawn b d) a) (by omega)
 have W:=fun d a=>B6 jobs nodes leases ar nj cj an nn cn av nl cl 3 (Sort.grow (redrawn b d) a)
  ((g.j.below (i.trans ((below_regrown b d a).mono i.size))).more (v6 i.size (below_regrown b d a).size)) ai (by omega) G.jobs
  ((g.n.below (i.trans ((below_regrown b d a).mono i.size))).more (v6 i.size (below_regrown b d a).size)) aj (by omega) G.nodes
  ((g.l.below (i.trans ((below_regrown b d a).mono i.size))).more (v6 i.size (below_regrown b d a).size)) ak (by omega) G.leases
 have s1:(bs (bg c.toNat)).size<=17:=by rw [dB]; exact bT _
 have s2:(bs (bg (h - c).toNat)).size<=17:=by rw [dB]; exact bT _
 have s3:(bs (mL jobs nodes leases 3)).size<=12000:=by
  rw [dB];have q1:=uY (enc:=fun x=>eK x 3) (xs:=jobs) (fun x=>mH x 3) (by omega);have q2:=uY (enc:=fun x=>cX x 3) (xs:=nodes) (fun x=>kU x 3) (by omega);have q3:=uY (enc:=eH) (xs:=leases) kC (by omega);unfold mL;simp only [List.length_append]; omega
 have S:bs (bg c.toNat) ++ bs (bg (h - c).toNat) ++ bs (mL jobs nodes leases 3)=bs (bg c.toNat ++ bg (h - c).toNat ++ mL jobs nodes leases 3):=by simp only [fA]
 unfold gq at U V W;generalize bs (bg c.toNat)=S1 at U s1 S;generalize bs (bg (h - c).toNat)=S2 at V s2 S;generalize bs (mL jobs nodes leases 3)=S3 at W s3 S;have bE:=ω S;have H1:=ω U;have H2:=ω V;have H3:=ω W;clear S U V W ab ac ai aj ak a1 a2 a3
 go_wp2_with fail
 refine wp_region_quiet_below (by kernel_rfl) (by kernel_rfl) ?_
 go_big_quiet_step ((fail))
 go_big_quiet_step ((fail))
 go_big_quiet_step ((go_at_call 61; exact Calls.regrown_of (H1.z _ _)))
 go_big_quiet_step ((fail))
 go_big_quiet_step ((fail))
 go_big_quiet_step ((fail))
 go_big_quiet_step ((fail))
 go_big_quiet_step ((fail))
 go_big_quiet_step ((go_at_call 61; exact Calls.regrown_of (H2.z _ _)))
 go_big_quiet_step ((fail))
 go_big_quiet_step ((fail))
 go_big_quiet_step ((fail))
 go_big_quiet_step ((fail))
 go_big_quiet_step ((fail))
 go_big_quiet_step ((fail))
 go_big_quiet_step ((fail))
 go_big_quiet_step ((go_at_call 62; exact Calls.regrown_of (H3.z _ _)))
 go_big_quiet_step ((fail))
 go_big_quiet_step ((fail))
 refine wpQuiet_nil ?_;intro _ aU;obtain⟨⟨nq,osq⟩,hw''⟩:=aU;subst hw'';have D:=i.trans ((below_regrown b nq osq).mono i.size);have y5:=b5 nq osq;have y6:=b6 nq osq;have y7:=b7 nq osq;have aT:w.heap.size<(Sort.grow (redrawn b nq) osq).heap.size:=u7 a8 (below_regrown b nq osq).size;clear b0 b1 b2 b3 b4 b5 b6 b7 H1 H2 H3 a8;dsimp only;generalize Sort.grow (redrawn b nq) osq=w2 at D y5 y6 y7 aT |-;have HT:=ω (show (S1 ++ S2 ++ S3).size<=100000 by simp only [ByteArray.size_append]; omega);generalize S1 ++ S2 ++ S3=T0 at bE HT |-;have HS:=ω (show Blk (χ w2 #[.slice o F u,.slice r I y,.slice p H v] 93) w2 93 #[.slice o F u,.slice r I y,.slice p H v] from n5 w2 _);have aD:=ω (D.alloc D.size (.cells #[.slice o F u,.slice r I y,.slice p H v] 93));clear D s1 s2 s3;go_wp2;generalize hS:w2.heap.size=Y at HS;clear y5 y6 y7
 go_loopw [5,7,9,41,52] (fun s _ _ L _ wr=>ROut (bg c.toNat ++ bg (h - c).toNat ++ mL jobs nodes leases 3) [z,C,B] Y #[.slice o F u,.slice r I y,.slice p H v] w s L wr) (fun _ _ _ L _ _=>3 - (intOf L).toNat)
 case atStart=>exact⟨0,_,by omega,rfl,rfl,by rw [bE.z]; simp,by have:=HT.z; omega,aD,HS⟩
 case round=>
  clear hS;obtain⟨k,T,hk,rfl,rfl,hT,ba,hb,Q⟩:=hrel;have am:=ω hT;have Hb:=ω hb;have HB:=ω Q;have aP:Y<wr.heap.size:=Q.lt;have aW:=hb.size;clear hT;by_cases hlt:k<3
  · obtain⟨M,Z,e,cA,a0,a4,a7,a5,hn,a6⟩:∃ (M:List ByteArray) (Z:Option Addr) (e cA:Nat),(#[.slice o F u,.slice r I y,.slice p H v]:Array Value)[k]? = some (.slice Z e cA)/\[z,C,B][k]? = some M/\bC w w 1 Z e (au lR M)/\M.length=e/\e<=40/\nM M:=by
     have q1:=G.ngj;have q2:=G.ngn;have q3:=G.ngl;have p1:=g.lgj;have p2:=g.lgn;have p3:=g.lgl;dsimp only at q1 q2 q3 p1 p2 p3;rcases (show k=0\/k=1\/k=2 by omega) with rfl | rfl | rfl
     · exact⟨z,o,F,u,rfl,rfl,g.gj,p1,by omega,g.ogj⟩
     · exact⟨C,r,I,y,rfl,rfl,g.gn,p2,by omega,g.ogn⟩
     · exact⟨B,p,H,v,rfl,rfl,g.gl,p3,by omega,g.ogl⟩
    have yS:ζ wr Y k (.slice Z e cA):=(Q.cell k).trans a0;have HN:=ω (jJ (e:Int) wr (by omega));have aI:=ω (iX (fZ dW) a4);have aH:=ω a7;have X:=ω a5;have aG:=ω a6;have aR:(bs (bg e)).size<=17:=by rw [dB]; exact bT _
    generalize hX:bs (bg e)=aZ at aR;have HX:=ω hX;clear hX a7 a5 a6 a0 a4 hb Q
    go_wp2_with fail
    refine HN.mono ?_;rintro ax w3 ⟨rfl,D⟩;rw [show ((e:Int)).toNat=e from by omega,HX.z];have aC:=ω (Hb.trans (D.mono aW));have a9:=ω (HB.below D aP);clear D yS;go_wp2
    go_loopw [5,9,52] (fun s _ L wr=>RIn (T.size+17) (bg c.toNat ++ bg (h - c).toNat ++ mL jobs nodes leases 3 ++ ([z,C,B].take k).flatMap (fZ dW) ++ bg e) M e Y #[.slice o F u,.slice r I y,.slice p H v] w s L wr) (fun _ _ L _=>e - (intOf L).toNat)
    case atStart=>exact⟨0,_,Nat.zero_le _,rfl,rfl,by rw [am.z,<- HX.z,fA]; simp,by simp only [ByteArray.size_append]; omega,aC,a9⟩
    case round=>
     obtain⟨j,aq,hj,rfl,rfl,hU,bb,R,ae⟩:=hrel;have HU:=ω hU;have ap:=ω R;have ad:=ω ae;have aV:=R.size;clear hU;by_cases aQ:j<e
     · obtain⟨s,hf⟩:∃ s,M[j]? = some s:=⟨_,gO (by rw [X.z]; exact aQ)⟩;obtain⟨aw,aY,rfl,bc,hc⟩:=(aH.below R).eC iY X.z hf;have c0:ζ wr aw (aY+j*1) (.string s):=hc 0 _ rfl;rw [Nat.mul_one] at c0;have be:aw<wr.heap.size:=by omega
       have aB:=ω (lS s wr (aG.z s (m8 hf)));have aJ:=ω (iX dW hf);have aS:(bs (dW s)).size<=85:=by rw [dB]; exact FK s
       generalize hZ:bs (dW s)=aL at aS;have HZ:=ω hZ;clear hZ hc hf R ae
       go_wp2_with fail
       refine aB.mono ?_;rintro ax w4 ⟨rfl,ag⟩;rw [HZ.z];have aE:=ω (ap.trans (ag.mono aV));have aA:=ω (ad.below ag ad.lt);clear ag c0;go_wp2
       go_roundw
       case rel=>exact⟨j+1,aq ++ aL,by omega,by go_num,rfl,by rw [HU.z,<- HZ.z,fA,aJ.z,List.append_assoc],by simp only [ByteArray.size_append]; omega,aE.z,aA.z⟩
       case measure=>simp [intOf]; omega
     · obtain rfl:e=j:=by omega
       clear R ae;go_wp2
       go_roundw
       case rel=>exact⟨k+1,aq,by omega,by go_num,rfl,by rw [HU.z,aI.z]; unfold fZ; rw [X.z,<- X.z,List.take_length]; simp only [List.append_assoc],by omega,ap.z,ad.z⟩
       case measure=>simp [intOf]; omega
  · obtain rfl:k=3:=by omega
    have hL:bg c.toNat ++ bg (h - c).toNat ++ mL jobs nodes leases 3 ++ ([z,C,B].take 3).flatMap (fZ dW)=oD ⟨c,h,jobs,nodes,leases,z,C,B⟩:=by simp [oD,mL]
    have aa:T=bs (oD ⟨c,h,jobs,nodes,leases,z,C,B⟩):=by rw [am.z,hL]
    have az:T.size=(oD ⟨c,h,jobs,nodes,leases,z,C,B⟩).length:=by rw [aa,dB]
    clear hb Q;by_cases bd:6000<T.size
    · have P:=ω (Fz.z trivial wr (by omega) Hb.z);have hd:decide ((6000:Int)<(T.size:Int))=true:=t8 (by omega);clear aa az hL;go_wp2;go_ret2;exact P
    · have P:=ω (aF.z trivial wr T (by omega) aa Hb.z);have hd:decide ((6000:Int)<(T.size:Int))=false:=fK (by omega);clear aa az hL;go_wp2;go_ret2;exact P
end Go.Proofs.YtimglglgcgpjgaaGreatDoor
