/- Of the proof of a statement: HubT, SrcA, SrcRow, DEnc, ReqDN. -/
import Derived.Test.YtimglglgcgpjgabGreatDoorPGrant
import Derived.Test.YtimglglgcgpjgabGreatDoorPHubMem
set_option linter.unusedVariables false
set_option linter.unusedSimpArgs false
set_option maxRecDepth 100000
set_option maxHeartbeats 8000000
namespace Go.Proofs.YtimglglgcgpjgabGreatDoor
open Go.RowKit
def kX (g V:Nat) (a:Nat->Nat) (c:Nat->Value) (H:cX) (r:Value) (w:World) (e:Ending) (w':World):Prop:=
 e = .returned r/\∃ b d,cK w' g V a b H.cs H.st d H.now/\dS g V a c b w w'
theorem dS.put {g V k:Nat} {b:Nat->Nat} {a:Nat->Value} {w f w':World} {v':Value} (d:Gr (sZ g V b a) w w') (c:cZ w f (a k) v'):dS g V b a (upd a k v') w w':=
 ⟨d,fun i j=>by
  by_cases e:i=k
  · subst e;rw [bI];rcases c.own with h | h
    · exact .inr (.inl h)
    · exact .inr (.inr h)
  · rw [upd_ne _ _ e]; exact .inr (.inl rfl)⟩
theorem jK.hub {g V k:Nat} {a:Nat->Nat} {b:Nat->Value} {cs:Nat->bE} {st:ah} {x:StA} {now:Int} {w w':World} {e:Ending} {L:List UInt8} (h:cK w g V a b cs st x now) (m:k<8) (n:jK g (1+k*4+3) (b k) L w e w') :
 e = .returned (.tuple #[])/\∃ d,cK w' g V a d (upd cs k { cs k with waits:=L }) st x now/\dS g V a b d w w':=by
 obtain⟨f,p,o,i,c,rfl⟩:=n;obtain⟨j,_,l⟩:=h.put m c i;exact⟨f,_,j,.put l c⟩
def tW (tl:ah->List UInt8):Prop:=
 ∀ (g o V:Nat) (T:TypeId) (cs:Array Value) (v:Value) (l:List UInt8) (st:ah) (x:StA) (now:Int) (w:World),Blk w g T cs->T ≠ 5 -> cs[0]? = some (.pointer (some ⟨V,0,none⟩))->cs[o+3]? = some v->ByteRow w v l->l.length<=35184372088832->SrvAt w 103 V st x now->Tabs w ->
  ψ 39 #[π g 0,π g o] w (jK g (o+3) v (l ++ tl st) w)
theorem Gf (g:Nat) (k:Nat) (w:World) (b:k<8) :
 ψ 15 #[π g 0,(k:Int)] w fun e a=>e = .returned (π g (1+k*4))/\Below w w a:=by
 go_enter Tryz.func15,Tryz.ntmps15;go_wp2;go_ret;exact⟨rfl,θ⟩
theorem Ne (g:Nat) (k:Int) (w:World) (a:k<0\/7<k) :
 ψ 15 #[π g 0,k] w fun e b=>e = .returned (.pointer none)/\Below w w b:=by
 rcases a with a | a
 · go_enter Tryz.func15,Tryz.ntmps15;go_wp2;go_ret;exact⟨rfl,θ⟩
 · have c:¬ k<0:=by omega
   go_enter Tryz.func15,Tryz.ntmps15;go_wp2;go_ret;exact⟨rfl,θ⟩
theorem cK.set0 {w:World} {g V k:Nat} {d:Nat->Nat} {a:Nat->Value} {cs:Nat->bE} {st:ah} {x:StA} {now:Int} {c0:bE} (h:cK w g V d a (upd cs k c0) st x now) (f:k<8) (b:Bool) :
 cK (sQ w g (1+k*4+1) (.bool b)) g V d a (upd cs k { c0 with closed:=b }) st x now/\Gr (sZ g V d a) w (sQ w g (1+k*4+1) (.bool b)):=by
 have e:=h.cell f (j:=1+k*4+1) (u:=.bool b) (c:={ c0 with closed:=b }) (v:=a k) (by rw [qM]; exact AQ f { c0 with closed:=b } (by rw [bI])) (by rw [bI]) (by rw [bI]) (by rw [bI]) (.inl ⟨rfl,by rw [bI]⟩);rw [qM,nM] at e;exact e
theorem cK.set1 {w:World} {g V k:Nat} {d:Nat->Nat} {a:Nat->Value} {cs:Nat->bE} {st:ah} {x:StA} {now:Int} {c0:bE} (h:cK w g V d a (upd cs k c0) st x now) (f:k<8) (b:Bool) :
 cK (sQ w g (1+k*4+2) (.bool b)) g V d a (upd cs k { c0 with aG:=b }) st x now/\Gr (sZ g V d a) w (sQ w g (1+k*4+2) (.bool b)):=by
 have e:=h.cell f (j:=1+k*4+2) (u:=.bool b) (c:={ c0 with aG:=b }) (v:=a k) (by rw [qM]; exact xZ f { c0 with aG:=b } (by rw [bI])) (by rw [bI]) (by rw [bI]) (by rw [bI]) (.inl ⟨rfl,by rw [bI]⟩);rw [qM,nM] at e;exact e
theorem dS.gr_ {g V:Nat} {a:Nat->Nat} {d b:Nat->Value} {w c w':World} (h:dS g V a d b w c) (e:Gr (sZ g V a b) c w'):dS g V a d b w w':=h.trans ⟨e,fun _ _=>.inr (.inl rfl)⟩
theorem xY {g V k:Nat} {i:Nat->Nat} {d:Nat->Value} {H:cX} {x:StA} (w:World) (h:cK w g V i d H.cs H.st x H.now) (c:k<8) (E:Int) (p:(H.cs k).waits.length<=35184372088832) :
 ψ 18 #[π g 0,π g (1+k*4),E] w (kX g V i d (jQ H k E) (.tuple #[]) w):=by
 have m:=ω (ze H.st x H.now V w h.srv);have c0:ζ w g 0 (π V 0):=by rw [h.blk.cell]; exact AO
 have hlt:=h.blk.lt;have D:=ω h;have F:=ω p;obtain⟨rev,r⟩:∃ I,H.st.rev=I:=⟨_,rfl⟩;have l:=ω r;clear h p r;go_enter Tryz.func18,Tryz.ntmps18
 go_wp2_with fail
 refine m.mono ?_;rintro G J ⟨y,rfl,_,j⟩;have a:=D.below j;have e:=ω (vw g (1+k*4) 61 _ (d k) _ E H.st.rev J a.blk (by decide) (jy c) (a.wait k c) F.z);rw [l.z] at e;have v:=ω a;have C:=ω j;have M:=a.blk.lt;unfold stC;rw [l.z];clear a j m c0;have L:∀ W,(Instr.field 26 (.agg #[rev,.slice y.aj y.nj y.cj,.slice y.an y.nn y.cn,.slice y.al y.nl y.cl]) 0).run Tryz.prog W = .ok (.int .i64 rev) W:=fun _=>by kernel_rfl
 go_wp2_with fail
 refine e.mono ?_;rintro G u q;obtain⟨rfl,K,b,s⟩:=q.hub v.z c;obtain⟨n,o⟩:=b.set0 c true;have O:ζ u g (1+k*4+1) (.bool (H.cs k).closed):=by rw [b.blk.cell,lX c,bI]
 have P:κ u g (1+k*4+1):=b.blk.thaw _;have N:=b.blk.lt;have z:=ω n;have B:=ω (((dS.refl g V i d w).below_ C.z).trans s |>.gr_ o);clear q b s n o e;go_wp2;go_end0;refine⟨rfl,K,x,?_,B⟩;have:=z.z;rw [<- l.z] at this;exact this
def kZ (w:World) (g:Nat) (s:ByteArray):Prop:=Blk w g 164 #[s]/\s.size<=9223372036854775807
def thrown (x:Nat):Ending:=.panicked [{ v:=.iface 120 (.agg #[(x:Int)]),recovered:=false }]
def eB {α:Type} (g:Nat) (res:RR α) (enc:α->Value) (w:World) (e:Ending) (w':World):Prop:=
 w.grownBy w' (some g)/\match res with
 | .ok a r=>e = .returned (enc a)/\kZ w' g r
 | .bad x=>e=thrown x
theorem eB.ok {α:Type} {g:Nat} {res:RR α} {enc:α->Value} {w w':World} {e:Ending} {a:α} {r:ByteArray} (h:eB g res enc w e w') (b:res = .ok a r):e = .returned (enc a)/\kZ w' g r/\w.grownBy w' (some g):=by
 subst b; exact⟨h.2.1,h.2.2,h.1⟩
theorem eB.bad {α:Type} {g:Nat} {res:RR α} {enc:α->Value} {w w':World} {e:Ending} {x:Nat} (h:eB g res enc w e w') (a:res = .bad x):e=thrown x/\w.grownBy w' (some g):=by
 subst a; exact⟨h.2,h.1⟩
theorem eB.Mj {α:Type} {g:Nat} {res:RR α} {enc:α->Value} {w w':World} {a:α} {r:ByteArray} (c:res = .ok a r) (d:kZ w' g r) (b:w.grownBy w' (some g)):eB g res enc w (.returned (enc a)) w':=by
 subst c; exact⟨b,rfl,d⟩
theorem eB.rY {α:Type} {g:Nat} {res:RR α} {enc:α->Value} {w w':World} {x:Nat} (b:res = .bad x) (a:w.grownBy w' (some g)):eB g res enc w (thrown x) w':=by
 subst b; exact⟨a,rfl⟩
theorem kZ.set {w:World} {g:Nat} {s:ByteArray} (h:kZ w g s) (a:ByteArray) (b:a.size<=9223372036854775807):kZ (sQ w g 0 (.string a)) g a:=⟨Blk.eq (Blk.set h.1 0 _) (by simp),b⟩
theorem kZ.grow {w w':World} {g b:Nat} {s:ByteArray} (h:kZ w g s) (a:w.grownBy w' (some b)) (c:g≠b):kZ w' g s:=⟨ay a h.1 c,h.2⟩
theorem kZ.below {w w':World} {g:Nat} {s:ByteArray} (h:kZ w g s) (a:Below w w w'):kZ w' g s:=⟨h.1.below a h.1.lt,h.2⟩
theorem Oo (g:Nat) (s:ByteArray) (w:World) (h:kZ w g s) :
 ψ 90 #[π g 0] w (eB g (dJ s) (fun r:Nat=>.int .u64 r) w):=by
 have z:ζ w g 0 (.string s):=h.1.cell 0;have B:κ w g 0:=h.1.thaw 0;have u:=h.1.lt;have l:=h.2;have n:=ω h;rcases a:rdNum s with ⟨d,k,e⟩;have p:=gX a;have c:=ω (Bi a w l);by_cases i:e=0
 · subst i;have v:=(p.2.2.2 rfl).2;by_cases j:4611686018427387904<d
   · have b:=ω (vK a j);have o:decide ((4611686018427387904:Int)<(d:Int))=true:=t7 (by omega);clear h a;go_enter Tryz.func90,Tryz.ntmps90
     go_wp2_with fail
     refine c.mono ?_;rintro e m ⟨rfl,rfl⟩;go_wp2;exact⟨rfl,eB.rY b.z (bP _ _)⟩
   · have b:=ω (Dp a j);have o:decide ((4611686018427387904:Int)<(d:Int))=false:=fQ (by omega);have q:=ω (nO (k:=k) l);clear h a;go_enter Tryz.func90,Tryz.ntmps90
     go_wp2_with fail
     refine c.mono ?_;rintro e m ⟨rfl,rfl⟩;go_wp2;go_ret;exact eB.Mj b.z (n.set _ q.z) (aQ _ _ _ _)
 · have b:=ω (Bs a i);have x:((e:Int) == 0)=false:=by rw [beq_eq_false_iff_ne]; omega
   have y:((e:Int) != 0)=true:=by rw [bne_iff_ne]; omega
   clear h a;go_enter Tryz.func90,Tryz.ntmps90
   go_wp2_with fail
   refine c.mono ?_;rintro t m ⟨rfl,rfl⟩;go_wp2;exact⟨rfl,eB.rY b.z (bP _ _)⟩
theorem Ct (g:Nat) (s:ByteArray) (w:World) (i:kZ w g s) :
 ψ 47 #[π g 0] w (eB g (dJ s) (fun n:Nat=>.int .i64 n) w):=by
 have h:=ω (Oo g s w i);clear i;rcases b:dJ s with ⟨l,r⟩ | x
 · have m:=uj b;have d:=ω b;clear b;go_enter Tryz.func47,Tryz.ntmps47
   go_wp2_with fail
   refine h.mono ?_;intro j k c;obtain⟨rfl,e,a⟩:=c.ok d.z;have e:=ω e;have a:=ω a;clear c;go_wp2;go_ret;exact eB.Mj rfl e.z a.z
 · have d:=ω b;clear b;go_enter Tryz.func47,Tryz.ntmps47
   go_wp2_with fail
   refine h.mono ?_;intro j k c;obtain⟨rfl,a⟩:=c.bad d.z;unfold thrown;go_wp2;exact⟨rfl,eB.rY rfl a⟩
theorem yF (g:Nat) (s:ByteArray) (w:World) (h:kZ w g s) :
 ψ 50 #[π g 0] w (eB g (cH s) (fun t=>.string t) w):=by
 have v:ζ w g 0 (.string s):=h.1.cell 0;have y:=h.1.lt;have o:=h.2;have p:=ω h;rcases a:oI s with ⟨t,k,e⟩;have i:=rQ a;have d:=BO s w o;unfold iQ at d;rw [a] at d;have m:=ω d;clear d h;by_cases n:e=0
 · subst n;have B:=i.2.2 rfl;have j:=ω (wX a);have u:=ω (nO (k:=k) o);clear a i;go_enter Tryz.func50,Tryz.ntmps50
   go_wp2_with fail
   refine m.mono ?_;rintro e l ⟨rfl,c⟩;have b:=p.below c;have D:ζ l g 0 (.string s):=b.1.cell 0;have E:κ l g 0:=b.1.thaw 0;have z:=b.1.lt;have q:=ω b;have r:=ω c;clear b c v;go_wp2;go_ret;exact eB.Mj j.z (q.set _ u.z) (aP (fU g r.z) (aQ _ _ _ _))
 · have j:=ω (um a n);have C:((e:Int) != 0)=true:=by rw [bne_iff_ne]; omega
   clear a i;go_enter Tryz.func50,Tryz.ntmps50
   go_wp2_with fail
   refine m.mono ?_;rintro x l ⟨rfl,c⟩;go_wp2;exact⟨rfl,eB.rY j.z (fU g c)⟩
structure SGo (w0 w:World) (g:Nat) (s:ByteArray) (R:Nat) (t:TypeId) (cs:Array Value):Prop where
 at_:kZ w g s
 keep:w0.grownBy w (some g)
 blk:Blk w R t cs
 gt:g<R
 new:w0.heap.size<=R
theorem kZ.alloc {w:World} {g:Nat} {s:ByteArray} (h:kZ w g s) (o:Obj):kZ (w.alloc o) g s:=h.below ((θ).alloc lQ _)
theorem SGo.start {w:World} {g:Nat} {s:ByteArray} (h:kZ w g s) (t:TypeId) (cs:Array Value):SGo w (χ w cs t) g s w t cs:=
 ⟨h.alloc _,fU _ ((θ).alloc lQ _),n5 w _,h.1.lt,lQ⟩
theorem SGo.next {w0 w w':World} {g R:Nat} {s b:ByteArray} {t:TypeId} {cs:Array Value} (h:SGo w0 w g s R t cs) (c:kZ w' g b) (a:w.grownBy w' (some g)):SGo w0 w' g b R t cs:=
 ⟨c,aP h.keep a,ay a h.blk (Nat.ne_of_gt h.gt),h.gt,h.new⟩
theorem SGo.alloc {w0 w:World} {g R:Nat} {s:ByteArray} {t:TypeId} {cs:Array Value} (h:SGo w0 w g s R t cs) (o:Obj):SGo w0 (w.alloc o) g s R t cs:=
 ⟨h.at_.alloc _,aP h.keep (fU _ ((θ).alloc lQ _)),h.blk.alloc _,h.gt,h.new⟩
theorem SGo.set {w0 w:World} {g R:Nat} {s:ByteArray} {t:TypeId} {cs:Array Value} (h:SGo w0 w g s R t cs) (i:Nat) (v:Value):SGo w0 (sQ w R i v) g s R t (cs.setIfInBounds i v):=
 ⟨h.at_.grow (aQ w R i v) (Nat.ne_of_lt h.gt),vM h.keep (aQ _ _ _ _) h.new,h.blk.set i v,h.gt,h.new⟩
theorem SGo.put {w0 w:World} {g R:Nat} {s:ByteArray} {t:TypeId} {cs:Array Value} (h:SGo w0 w g s R t cs) (i:Nat) (v:Value) (a:Array Value) (e:cs.setIfInBounds i v=a):SGo w0 (sQ w R i v) g s R t a:=e ▸ h.set i v
theorem Cu :
 (∀ (g:Nat) (s:ByteArray) (v:Int) (w:World) (E:1<v) (N:2<v) (D:kZ w g s),ψ 48 #[π g 0,v] w (eB g (pK v s) (fun x:aC=>.agg (aS x).toArray) w)) /\
 (∀ (g:Nat) (s:ByteArray) (v:Int) (w:World) (E:1<v) (D:kZ w g s),ψ 49 #[π g 0,v] w (eB g (lH v s) (fun x:av=>.agg (aH x).toArray) w)):=by
 refine⟨@fun g s v w E N D=>(fun(c:Unit)=>?_) (),@fun g s v w E D=>(fun(C:Unit)=>?_) ()⟩<;>(
 first|(guard_hyp c;have Z:=@Oo)|(have Z:=@Ct)
 have d1:decide (1<v)=true:=t7 E
 first
  |(
   guard_hyp c
   have d2:decide (2<v)=true:=t7 N;have J:=ω (SGo.start D 86 #[.string ⟨#[]⟩,(0:Int),(0:Int),(0:Int),.string ⟨#[]⟩]))
  |(
   guard_hyp C
   have J:=ω (SGo.start D 81 #[.string ⟨#[]⟩,(0:Int),.string ⟨#[]⟩]))
 have ae:=D.1.lt
 first
  |(
   guard_hyp c
   have r:=ω (fun s:ByteArray=>(show pK v s=(cH s).bind fun (d:ByteArray) s=>(dJ s).bind fun (k:Nat) s=>(dJ s).bind fun (m:Nat) s=>(dJ s).bind fun (n:Nat) s=>(cH s).bind fun (o:ByteArray) s=>RR.ok ⟨d,lA k,m,n,o⟩ s by unfold pK; simp only [if_pos E,if_pos N]));clear D E N)
  |(
   guard_hyp C
   have r:=ω (fun s:ByteArray=>(show lH v s=(cH s).bind fun (d:ByteArray) s=>(dJ s).bind fun (p:Nat) s=>(cH s).bind fun (u:ByteArray) s=>RR.ok ⟨d,p,u⟩ s by unfold lH; simp only [if_pos E]));clear D E)
 first|(guard_hyp c;go_enter Tryz.func48,Tryz.ntmps48)|go_enter Tryz.func49,Tryz.ntmps49
 go_wp2_with fail
 refine Calls.mono (yF g s _ J.at_) ?_;intro I S e;rcases a:cH s with ⟨d,R⟩ | x;rotate_left
 · obtain⟨rfl,h⟩:=e.bad a;have q:=ω a
   first|(guard_hyp c;have l:=ω (show pK v s = .bad x by rw [r.z]; rw [q.z]; rw [RR.fR]))|have l:=ω (show lH v s = .bad x by rw [r.z]; rw [q.z]; rw [RR.fR])
   have h:=ω (aP J.keep h);clear a e;unfold thrown;go_wp2;exact⟨rfl,eB.rY l.z h.z⟩
 obtain⟨rfl,j,i⟩:=e.ok a;have q:=ω a;have b:=J.next j i;have u0:κ S w 0:=b.blk.thaw 0;have x0:ζ S w 0 (.string ⟨#[]⟩):=b.blk.cell 0;have W:w.heap.size<S.heap.size:=b.blk.lt
 first
  |(
   guard_hyp c
   have G:=ω (b.put 0 (.string d) #[d,(0:Int),(0:Int),(0:Int),.string ⟨#[]⟩] rfl))
  |(
   guard_hyp C
   have G:=ω (b.put 0 (.string d) #[d,(0:Int),.string ⟨#[]⟩] rfl))
 clear a e j i b J
 go_wp2_with fail
 refine Calls.mono (Z g R _ G.at_) ?_;intro I T e
 first|(guard_hyp c;rcases a:dJ R with ⟨k,K⟩ | x)|rcases a:dJ R with ⟨p,K⟩ | x
 rotate_left
 · obtain⟨rfl,h⟩:=e.bad a;have y:=ω a
   first|(guard_hyp c;have l:=ω (show pK v s = .bad x by rw [r.z]; rw [q.z]; rw [RR.bind_ok]; rw [y.z]; rw [RR.fR]))|have l:=ω (show lH v s = .bad x by rw [r.z]; rw [q.z]; rw [RR.bind_ok]; rw [y.z]; rw [RR.fR])
   have h:=ω (aP G.keep h);clear a e;unfold thrown;go_wp2;exact⟨rfl,eB.rY l.z h.z⟩
 obtain⟨rfl,j,i⟩:=e.ok a;have y:=ω a;have af:=uj a;have b:=G.next j i;have u1:κ T w 1:=b.blk.thaw 1;have x1:ζ T w 1 (.int .i64 0):=b.blk.cell 1;have X:w.heap.size<T.heap.size:=b.blk.lt
 first
  |(
   guard_hyp c
   have B:=ω (b.put 1 (.int .i64 (lA ((k:Nat):Int))) #[d,(lA ((k:Nat):Int)),(0:Int),(0:Int),.string ⟨#[]⟩] rfl);clear a e j i b G u0 x0 W
   go_wp2_with fail
   refine Calls.mono (Mk (k:Int) (by omega) (by omega) _) ?_;rintro I wz ⟨rfl,rfl⟩
   go_wp2_with fail
   refine Calls.mono (Ct g K _ B.at_) ?_;intro I F e;rcases a:dJ K with ⟨m,O⟩ | x;rotate_left
   · obtain⟨rfl,h⟩:=e.bad a;have z:=ω a;have l:=ω (show pK v s = .bad x by rw [r.z]; rw [q.z]; rw [RR.bind_ok]; rw [y.z]; rw [RR.bind_ok]; rw [z.z]; rw [RR.fR]);have h:=ω (aP B.keep h);clear a e;unfold thrown;go_wp2;exact⟨rfl,eB.rY l.z h.z⟩
   obtain⟨rfl,j,i⟩:=e.ok a;have z:=ω a;have ag:=uj a;have b:=B.next j i;have u2:κ F w 2:=b.blk.thaw 2;have x2:ζ F w 2 (.int .i64 0):=b.blk.cell 2;have Y:w.heap.size<F.heap.size:=b.blk.lt;have H:=ω (b.put 2 (.int .i64 ((m:Nat):Int)) #[d,(lA ((k:Nat):Int)),((m:Nat):Int),(0:Int),.string ⟨#[]⟩] rfl);clear a e j i b B u1 x1 X
   go_wp2_with fail
   refine Calls.mono (Ct g O _ H.at_) ?_;intro I U e;rcases a:dJ O with ⟨n,s4⟩ | x;rotate_left
   · obtain⟨rfl,h⟩:=e.bad a;have L:=ω a;have l:=ω (show pK v s = .bad x by rw [r.z]; rw [q.z]; rw [RR.bind_ok]; rw [y.z]; rw [RR.bind_ok]; rw [z.z]; rw [RR.bind_ok]; rw [L.z]; rw [RR.fR]);have h:=ω (aP H.keep h);clear a e;unfold thrown;go_wp2;exact⟨rfl,eB.rY l.z h.z⟩
   obtain⟨rfl,j,i⟩:=e.ok a;have L:=ω a;have ah:=uj a;have b:=H.next j i;have u3:κ U w 3:=b.blk.thaw 3;have x3:ζ U w 3 (.int .i64 0):=b.blk.cell 3;have ac:w.heap.size<U.heap.size:=b.blk.lt;have M:=ω (b.put 3 (.int .i64 ((n:Nat):Int)) #[d,(lA ((k:Nat):Int)),((m:Nat):Int),((n:Nat):Int),.string ⟨#[]⟩] rfl))
  |(
   guard_hyp C
   have B:=ω (b.put 1 (.int .i64 ((p:Nat):Int)) #[d,((p:Nat):Int),.string ⟨#[]⟩] rfl))
 first|(guard_hyp c;clear a e j i b H u2 x2 Y)|clear a e j i b G u0 x0 W
 go_wp2_with fail
 first|(guard_hyp c;refine Calls.mono (yF g s4 _ M.at_) ?_)|refine Calls.mono (yF g K _ B.at_) ?_
 first|(guard_hyp c;intro I V e)|intro I F e
 first|(guard_hyp c;rcases a:cH s4 with ⟨o,s5⟩ | x)|rcases a:cH K with ⟨u,O⟩ | x
 rotate_left
 · obtain⟨rfl,h⟩:=e.bad a
   first|(guard_hyp c;have P:=ω a)|have z:=ω a
   first
    |(
     guard_hyp c
     have l:=ω (show pK v s = .bad x by rw [r.z]; rw [q.z]; rw [RR.bind_ok]; rw [y.z]; rw [RR.bind_ok]; rw [z.z]; rw [RR.bind_ok]; rw [L.z]; rw [RR.bind_ok]; rw [P.z]; rw [RR.fR]))
    |(
     guard_hyp C
     have l:=ω (show lH v s = .bad x by rw [r.z]; rw [q.z]; rw [RR.bind_ok]; rw [y.z]; rw [RR.bind_ok]; rw [z.z]; rw [RR.fR]))
   first|(guard_hyp c;have h:=ω (aP M.keep h))|have h:=ω (aP B.keep h)
   clear a e;unfold thrown;go_wp2;exact⟨rfl,eB.rY l.z h.z⟩
 obtain⟨rfl,j,i⟩:=e.ok a
 first|(guard_hyp c;have P:=ω a)|have z:=ω a
 first|(guard_hyp c;have b:=M.next j i)|have b:=B.next j i
 first|(guard_hyp c;have u4:κ V w 4:=b.blk.thaw 4)|have u2:κ F w 2:=b.blk.thaw 2
 first|(guard_hyp c;have x4:ζ V w 4 (.string ⟨#[]⟩):=b.blk.cell 4)|have x2:ζ F w 2 (.string ⟨#[]⟩):=b.blk.cell 2
 first|(guard_hyp c;have ad:w.heap.size<V.heap.size:=b.blk.lt)|have Y:w.heap.size<F.heap.size:=b.blk.lt
 first
  |(
   guard_hyp c
   have H5:=ω (b.put 4 (.string o) #[d,(lA ((k:Nat):Int)),((m:Nat):Int),((n:Nat):Int),o] rfl);obtain⟨y0,y1,y2,y3⟩:=Blk.c4 (b.blk);obtain⟨z0,z1,z2,z3⟩:=Blk.z4 (b.blk))
  |(
   guard_hyp C
   have H:=ω (b.put 2 (.string u) #[d,((p:Nat):Int),u] rfl);obtain⟨y0,y1⟩:=Blk.c2 (b.blk);obtain⟨z0,z1⟩:=Blk.z2 (b.blk))
 first|(guard_hyp c;clear a e j i b M u3 x3 ac)|clear a e j i b B u1 x1 X
 first
  |(
   guard_hyp c
   have Q:=(((((H5.put 0 (.string d) #[d,(lA ((k:Nat):Int)),((m:Nat):Int),((n:Nat):Int),o] rfl).put 1 (.int .i64 (lA ((k:Nat):Int))) #[d,(lA ((k:Nat):Int)),((m:Nat):Int),((n:Nat):Int),o] rfl).put 2 (.int .i64 ((m:Nat):Int)) #[d,(lA ((k:Nat):Int)),((m:Nat):Int),((n:Nat):Int),o] rfl).put 3 (.int .i64 ((n:Nat):Int)) #[d,(lA ((k:Nat):Int)),((m:Nat):Int),((n:Nat):Int),o] rfl).put 4 (.string o) #[d,(lA ((k:Nat):Int)),((m:Nat):Int),((n:Nat):Int),o] rfl))
  |(
   guard_hyp C
   have Q:=(((H.put 0 (.string d) #[d,((p:Nat):Int),u] rfl).put 1 (.int .i64 ((p:Nat):Int)) #[d,((p:Nat):Int),u] rfl).put 2 (.string u) #[d,((p:Nat):Int),u] rfl))
 have q0:=(show _=(some (.string d):Option Value) from Q.blk.cell 0)
 first
  |(
   guard_hyp c
   have q1:=(show _=(some (.int .i64 (lA ((k:Nat):Int))):Option Value) from Q.blk.cell 1);have q2:=(show _=(some (.int .i64 ((m:Nat):Int)):Option Value) from Q.blk.cell 2))
  |skip
 first|(guard_hyp c;have q3:=(show _=(some (.int .i64 ((n:Nat):Int)):Option Value) from Q.blk.cell 3))|have q1:=(show _=(some (.int .i64 ((p:Nat):Int)):Option Value) from Q.blk.cell 1)
 first|(guard_hyp c;have q4:=(show _=(some (.string o):Option Value) from Q.blk.cell 4))|have q2:=(show _=(some (.string u):Option Value) from Q.blk.cell 2)
 have ab:=ω Q.at_;have aa:=ω Q.keep
 first
  |(
   guard_hyp c
   have l:=ω (show pK v s = .ok ⟨d,lA ((k:Nat):Int),((m:Nat):Int),((n:Nat):Int),o⟩ s5 by rw [r.z]; rw [q.z]; rw [RR.bind_ok]; rw [y.z]; rw [RR.bind_ok]; rw [z.z]; rw [RR.bind_ok]; rw [L.z]; rw [RR.bind_ok]; rw [P.z]; rw [RR.bind_ok]; try rfl))
  |(
   guard_hyp C
   have l:=ω (show lH v s = .ok ⟨d,((p:Nat):Int),u⟩ O by rw [r.z]; rw [q.z]; rw [RR.bind_ok]; rw [y.z]; rw [RR.bind_ok]; rw [z.z]; rw [RR.bind_ok]; try rfl))
 clear Q;go_wp2
 first
  |(
   guard_hyp c
   refine bodyPost_ret (v:=.agg #[.string d,.int .i64 (lA ((k:Nat):Int)),.int .i64 ((m:Nat):Int),.int .i64 ((n:Nat):Int),.string o]) (by simp [results,Tryz.results48,go_sem, *]) rfl ?_)
  |(
   guard_hyp C
   refine bodyPost_ret (v:=.agg #[.string d,.int .i64 ((p:Nat):Int),.string u]) (by simp [results,Tryz.results49,go_sem, *]) rfl ?_)
 exact eB.Mj l.z ab.z aa.z)
theorem NA (g:Nat) (s:ByteArray) (w:World) (r:kZ w g s) :
 ψ 51 #[π g 0] w (eB g (iL s) (fun x:ak=>.agg (aB x).toArray) w):=by
 have m:=ω (SGo.start r 77 #[.string ⟨#[]⟩,.string ⟨#[]⟩,(0:Int)]);have N:=r.1.lt;have p:=ω (fun s:ByteArray=>(show iL s=(cH s).bind fun (job:ByteArray) s=>(cH s).bind fun (node:ByteArray) s=>(dJ s).bind fun (e:Nat) s=>RR.ok ⟨job,node,e⟩ s by unfold iL; try rfl));clear r;go_enter Tryz.func51,Tryz.ntmps51
 go_wp2_with fail
 refine Calls.mono (yF g s _ m.at_) ?_;intro B u c;rcases a:cH s with ⟨job,C⟩ | x;rotate_left
 · obtain⟨rfl,d⟩:=c.bad a;have k:=ω a;have j:=ω (show iL s = .bad x by rw [p.z]; rw [k.z]; rw [RR.fR]);have d:=ω (aP m.keep d);clear a c;unfold thrown;go_wp2;exact⟨rfl,eB.rY j.z d.z⟩
 obtain⟨rfl,i,h⟩:=c.ok a;have k:=ω a;have b:=m.next i h;have u0:κ u w 0:=b.blk.thaw 0;have K:ζ u w 0 (.string ⟨#[]⟩):=b.blk.cell 0;have H:w.heap.size<u.heap.size:=b.blk.lt;have n:=ω (b.put 0 (.string job) #[job,.string ⟨#[]⟩,(0:Int)] rfl);clear a c i h b m
 go_wp2_with fail
 refine Calls.mono (yF g C _ n.at_) ?_;intro B y c;rcases a:cH C with ⟨node,D⟩ | x;rotate_left
 · obtain⟨rfl,d⟩:=c.bad a;have l:=ω a;have j:=ω (show iL s = .bad x by rw [p.z]; rw [k.z]; rw [RR.bind_ok]; rw [l.z]; rw [RR.fR]);have d:=ω (aP n.keep d);clear a c;unfold thrown;go_wp2;exact⟨rfl,eB.rY j.z d.z⟩
 obtain⟨rfl,i,h⟩:=c.ok a;have l:=ω a;have b:=n.next i h;have u1:κ y w 1:=b.blk.thaw 1;have L:ζ y w 1 (.string ⟨#[]⟩):=b.blk.cell 1;have I:w.heap.size<y.heap.size:=b.blk.lt;have o:=ω (b.put 1 (.string node) #[job,node,(0:Int)] rfl);clear a c i h b n u0 K H
 go_wp2_with fail
 refine Calls.mono (Ct g D _ o.at_) ?_;intro B z c;rcases a:dJ D with ⟨e,J⟩ | x;rotate_left
 · obtain⟨rfl,d⟩:=c.bad a;have q:=ω a;have j:=ω (show iL s = .bad x by rw [p.z]; rw [k.z]; rw [RR.bind_ok]; rw [l.z]; rw [RR.bind_ok]; rw [q.z]; rw [RR.fR]);have d:=ω (aP o.keep d);clear a c;unfold thrown;go_wp2;exact⟨rfl,eB.rY j.z d.z⟩
 obtain⟨rfl,i,h⟩:=c.ok a;have q:=ω a;have O:=uj a;have b:=o.next i h;have u2:κ z w 2:=b.blk.thaw 2;have T:ζ z w 2 (.int .i64 0):=b.blk.cell 2;have M:w.heap.size<z.heap.size:=b.blk.lt;have E:=ω (b.put 2 (.int .i64 ((e:Nat):Int)) #[job,node,((e:Nat):Int)] rfl);obtain⟨U,V⟩:=Blk.c2 (b.blk);obtain⟨W,X⟩:=Blk.z2 (b.blk);clear a c i h b o u1 L I;have Q:=(((E.put 0 (.string job) #[job,node,((e:Nat):Int)] rfl).put 1 (.string node) #[job,node,((e:Nat):Int)] rfl).put 2 (.int .i64 ((e:Nat):Int)) #[job,node,((e:Nat):Int)] rfl);have P:=(show _=(some (.string job):Option Value) from Q.blk.cell 0);have R:=(show _=(some (.string node):Option Value) from Q.blk.cell 1);have S:=(show _=(some (.int .i64 ((e:Nat):Int)):Option Value) from Q.blk.cell 2);have G:=ω Q.at_;have F:=ω Q.keep;have j:=ω (show iL s = .ok ⟨job,node,((e:Nat):Int)⟩ J by rw [p.z]; rw [k.z]; rw [RR.bind_ok]; rw [l.z]; rw [RR.bind_ok]; rw [q.z]; rw [RR.bind_ok]; try rfl);clear Q;go_wp2;refine bodyPost_ret (v:=.agg #[.string job,.string node,.int .i64 ((e:Nat):Int)]) (by simp [results,Tryz.results51,go_sem, *]) rfl ?_;exact eB.Mj j.z G.z F.z
structure EGo (w0 w:World) (base g p D:Nat) (l:List UInt8) (cs:Array Value) (N:Nat):Prop where
 ok:gA w base g l
 keep:dF base g w0 w
 bD:Blk w D 95 cs
 bp:Blk w p 237 #[π g 0]
 nD:D≠g
 np:p≠g
 len:l.length<=N
theorem EGo.next {w0 w w':World} {base g p D N:Nat} {l k:List UInt8} {cs:Array Value} (h:EGo w0 w base g p D l cs N) (ha:gA w' base g (l ++ k)) (a:dF base g w w') (b:k.length<=4000):EGo w0 w' base g p D (l ++ k) cs (N+4000):=
 ⟨ha,h.keep.trans a,a.blk h.bD (by decide) h.nD,a.blk h.bp (by decide) h.np,h.nD,h.np,by have:=h.len; rw [List.length_append]; omega⟩
theorem EGo.alloc {w0 w:World} {base g p D N:Nat} {l:List UInt8} {cs:Array Value} (h:EGo w0 w base g p D l cs N) (o:Obj):EGo w0 (w.alloc o) base g p D l cs N:=
 have a:Below w w (w.alloc o):=(θ).alloc lQ _
 ⟨h.ok.below a,h.keep.trans (dF.of_below a),h.bD.alloc _,h.bp.alloc _,h.nD,h.np,h.len⟩
def Qk (w0:World) (base g p S:Nat) (a:List UInt8) (cs c:Array Value) (b:List (List ByteArray)) (i:Value) (wr:World):Prop:=
 ∃ k:Nat,k<=3/\i = .int .i64 k/\EGo w0 wr base g p base (a ++ (b.take k).flatMap (fY dU)) cs (20000+4000*k)/\Blk wr S 28 c
theorem Fb (d:aY) (x:eG) (w:World) (hD:dB w w d x) (hT:Tabs w) (a3 : -9223372036854775808<=d.from_) (a4:d.from_<=9223372036854775807) :
 ψ 83 #[.agg (dC d x)] w (lq d w):=by
 have ad:Below w w (χ w (dC d x) 95):=(θ).alloc lQ _;have ay:Blk (χ w (dC d x) 95) w 95 (dC d x):=n5 w _;have hC:=GJ d x _ (hD.up ad) (hT.below ad) a3 a4;obtain⟨E,U⟩:∃ E,gD d=E:=⟨_,rfl⟩;unfold sN at hC;rw [U] at hC;have HC:=ω hC;have HE:=ω U;have c:=ω hD;have HT:=ω hT;have ab:=ω ad;have aw:=ω ay;have Oy:=ω (fun (T:E≠0) w'=>lq.bad (w:=w) (w':=w') U T);have FB:=ω (fun (T:E=0) w'=>lq.large (w:=w) (w':=w') (U.trans T));have aD:=ω (fun (T:E=0) w' s=>lq.ok (w:=w) (w':=w') (s:=s) (U.trans T));have Kp:=ω (fun (T:E=0)=>N6 (U.trans T));clear hC U hD hT ad ay a3 a4;obtain⟨X,aj,jobs,nodes,leases,gj,gn,gl⟩:=d;obtain⟨ax,nj,cj,an,nn,cn,al,nl,cl,v,I,B,z,K,D,y,J,C⟩:=x;unfold dC at *;dsimp only at *;go_enter Tryz.func83,Tryz.ntmps83
 go_wp2_with fail
 refine HC.mono ?_;rintro Q a ⟨rfl,ae⟩;by_cases h0:E=0;rotate_left
 · have aM:(E != 0)=true:=bne_iff_ne.2 h0;have aW:=ω (Oy.z h0 a (ab.trans (ae.mono ab.size)));go_wp2;go_ret2;exact aW
 subst h0;have G:=ω (Kp.z rfl);have aF:=G.t0;have aG:=G.t1;have aH:=G.t2;dsimp only at aF aG aH;have ao:=ab.trans (ae.mono ab.size);have ac:Blk a w 95 _:=aw.below ae aw.lt;have L:w.heap.size<a.heap.size:=ac.lt;have am:=HT.lt;have a6:=gA.new (HT.below ao) am.1 am.2 (Nat.le_of_lt L);have a1:Below a a (χ a #[.slice none 0 0] 239):=(θ).alloc lQ _;have a5:(a.alloc (.cells #[.slice none 0 0] 239)).heap.size=a.heap.size+1:=by simp
 have ap:Below (a.alloc (.cells #[.slice none 0 0] 239)).heap.size (χ a #[.slice none 0 0] 239) ((a.alloc (.cells #[.slice none 0 0] 239)).alloc (.cells #[π a 0] 237)):=(θ).alloc lQ _
 have a2:Blk ((a.alloc (.cells #[.slice none 0 0] 239)).alloc (.cells #[π a 0] 237)) (a.heap.size+1) 237 #[π a 0]:=by
  have:=n5 (χ a #[.slice none 0 0] 239) (.cells #[π a 0] 237);rw [a5] at this;exact this
 have H0:=ω (EGo.mk (w0:=w) (N:=0) (a6.below ap) (((dF.of_below ao).trans (dF.of_below a1)).trans (dF.of_below ap)) ((ac.alloc _).alloc _) a2 (Nat.ne_of_lt L) (by omega) (by simp));have HY:=ω ac;clear ae ao ac am a6 a1 a5 ap a2;obtain⟨y0,y1,y2,W,O,q,r,u⟩:=Blk.c8 (HY.z)
 go_wp2_with fail
 refine Calls.mono (p8 w a _ (X) _ (by omega) H0.ok (by have:=H0.len; omega)) ?_;rintro Q aB ⟨rfl,ok1,k1⟩;have S:=ω (H0.next ok1 k1 (xR _));clear y0 y1 y2 W O q r u;have i:ζ aB (a.heap.size+1) 0 (π a 0):=S.bp.cell 0;have H:a.heap.size+1<aB.heap.size:=S.bp.lt;obtain⟨y0,y1,y2,W,O,q,r,u⟩:=Blk.c8 (S.bD);clear ok1 k1 H0
 go_wp2_with fail
 refine Calls.mono (p8 w a _ (aj - X) _ (by omega) S.ok (by have:=S.len; omega)) ?_;rintro Q R ⟨rfl,a7,k2⟩;have e:=ω (S.next a7 k2 (xR _));clear i H y0 y1 y2 W O q r u;have i:ζ R (a.heap.size+1) 0 (π a 0):=e.bp.cell 0;have H:a.heap.size+1<R.heap.size:=e.bp.lt;have y2:ζ R w 2 (.slice ax nj cj):=e.bD.cell 2;have W:ζ R w 3 (.slice an nn cn):=e.bD.cell 3;have O:ζ R w 4 (.slice al nl cl):=e.bD.cell 4;have q:ζ R w 5 (.slice v I B):=e.bD.cell 5;have r:ζ R w 6 (.slice z K D):=e.bD.cell 6;have u:ζ R w 7 (.slice y J C):=e.bD.cell 7;clear a7 k2 S
 go_wp2_with fail
 refine Calls.mono (qU.1 w.heap.size a (a.heap.size+1) _ jobs _ _ _ _ (c.j.below (e.keep.below (Nat.le_of_lt L) lQ)) c.lj (by have o:=c.lj; have b:=G.nj; dsimp only at o b; omega) G.jobs e.ok (by have:=e.len; omega) e.bp e.np) ?_;rintro Q V ⟨rfl,a8,k3⟩;have g:=ω (e.next a8 k3 (gU (fun x=>mH x 3) (by have b:=G.nj; dsimp only at b; omega)));clear i H y2 W O q r u;have i:ζ V (a.heap.size+1) 0 (π a 0):=g.bp.cell 0;have H:a.heap.size+1<V.heap.size:=g.bp.lt;have W:ζ V w 3 (.slice an nn cn):=g.bD.cell 3;have O:ζ V w 4 (.slice al nl cl):=g.bD.cell 4;have q:ζ V w 5 (.slice v I B):=g.bD.cell 5;have r:ζ V w 6 (.slice z K D):=g.bD.cell 6;have u:ζ V w 7 (.slice y J C):=g.bD.cell 7;clear a8 k3 e
 go_wp2_with fail
 refine Calls.mono (qU.2.1 w.heap.size a (a.heap.size+1) _ nodes _ _ _ _ (c.n.below (g.keep.below (Nat.le_of_lt L) lQ)) c.ln (by have o:=c.ln; have b:=G.nn; dsimp only at o b; omega) G.nodes g.ok (by have:=g.len; omega) g.bp g.np) ?_;rintro Q Y ⟨rfl,a9,k4⟩;have m:=ω (g.next a9 k4 (gU (fun x=>kS x 3) (by have b:=G.nn; dsimp only at b; omega)));clear i H W O q r u;have i:ζ Y (a.heap.size+1) 0 (π a 0):=m.bp.cell 0;have H:a.heap.size+1<Y.heap.size:=m.bp.lt;have O:ζ Y w 4 (.slice al nl cl):=m.bD.cell 4;have q:ζ Y w 5 (.slice v I B):=m.bD.cell 5;have r:ζ Y w 6 (.slice z K D):=m.bD.cell 6;have u:ζ Y w 7 (.slice y J C):=m.bD.cell 7;clear a9 k4 g
 go_wp2_with fail
 refine Calls.mono (xQ w a (a.heap.size+1) _ leases _ _ _ _ (c.l.below (m.keep.below (Nat.le_of_lt L) lQ)) c.ll (by have o:=c.ll; have b:=G.nl; dsimp only at o b; omega) G.leases m.ok (by have:=m.len; omega)) ?_;rintro Q M ⟨rfl,aA,k5⟩;have P:=ω (m.next aA k5 (gU (fun x=>ku x) (by have b:=G.nl; dsimp only at b; omega)));clear i H O q r u;have i:ζ M (a.heap.size+1) 0 (π a 0):=P.bp.cell 0;have H:a.heap.size+1<M.heap.size:=P.bp.lt;have q:ζ M w 5 (.slice v I B):=P.bD.cell 5;have r:ζ M w 6 (.slice z K D):=P.bD.cell 6;have u:ζ M w 7 (.slice y J C):=P.bD.cell 7;clear aA k5 m;have F:Blk (χ M #[.slice v I B,.slice z K D,.slice y J C] 28) M 28 #[.slice v I B,.slice z K D,.slice y J C]:=n5 M _;have HS:=ω F;have HA:=ω (P.alloc (.cells #[.slice v I B,.slice z K D,.slice y J C] 28));have ag:=ω P.ok.at_.lt;clear F P;go_wp2;generalize az:[] ++ bf X.toNat ++ bf (aj - X).toNat ++ fY (fun x=>eP x 3) jobs ++ fY (fun x=>cW x 3) nodes ++ fY eH leases=L5 at HA;have aC:=ω az;generalize aI:(#[X,aj,.slice ax nj cj,.slice an nn cn,.slice al nl cl,.slice v I B,.slice z K D,.slice y J C]:Array Value)=CS at HA;generalize F:M.heap.size=aa at HS ag;clear az aI i H q r u
 go_loopw [7,50] (fun _ aq wr=>Qk w w a (a.heap.size+1) aa L5 CS #[.slice v I B,.slice z K D,.slice y J C] [gj,gn,gl] aq wr) (fun _ aq _=>3 - (intOf aq).toNat)
 case atStart=>exact⟨0,by omega,rfl,by simpa using HA.z,HS⟩
 case round=>
  obtain⟨k,hk,rfl,ah,F⟩:=hrel;have h:=ω ah;have ak:=ω F;have i:ζ wr (a.heap.size+1) 0 (π a 0):=ah.bp.cell 0;have H:a.heap.size+1<wr.heap.size:=ah.bp.lt;have aK:aa<wr.heap.size:=F.lt;have ar:ζ wr aa 0 (.slice v I B):=F.cell 0;have au:ζ wr aa 1 (.slice z K D):=F.cell 1;have av:ζ wr aa 2 (.slice y J C):=F.cell 2;clear ah F;rcases (show k=0\/k=1\/k=2\/k=3 by omega) with rfl | rfl | rfl | rfl
  · go_wp2_with fail
    refine Calls.mono (qU.2.2 w.heap.size a 0 _ gj _ _ _ _ (c.gj.below (h.keep.below (Nat.le_of_lt L) lQ)) c.lgj (by have o:=c.lgj; have b:=G.ngj; dsimp only at o b; omega) c.ogj h.ok (by have:=h.len; omega)) ?_;rintro Q w2 ⟨rfl,ok,p⟩;have Ml:=ω (h.next ok p (gU Go.Proofs.YtimglglgcgpjgabGreatDoor.u7 (by have b:=G.ngj; dsimp only at b; omega)));have Z:=ω (p.blk ak.z (by decide) (Nat.ne_of_gt ag.z));clear ok p ar au av i;go_wp2
    go_roundw
    case rel=>exact⟨1,by omega,by go_num,by simpa [List.append_assoc] using Ml.z,Z⟩
    case measure=>simp [intOf]
  · go_wp2_with fail
    refine Calls.mono (qU.2.2 w.heap.size a 0 _ gn _ _ _ _ (c.gn.below (h.keep.below (Nat.le_of_lt L) lQ)) c.lgn (by have o:=c.lgn; have b:=G.ngn; dsimp only at o b; omega) c.ogn h.ok (by have:=h.len; omega)) ?_;rintro Q w2 ⟨rfl,ok,p⟩;have Ml:=ω (h.next ok p (gU Go.Proofs.YtimglglgcgpjgabGreatDoor.u7 (by have b:=G.ngn; dsimp only at b; omega)));have Z:=ω (p.blk ak.z (by decide) (Nat.ne_of_gt ag.z));clear ok p ar au av i;go_wp2
    go_roundw
    case rel=>exact⟨2,by omega,by go_num,by simpa [List.append_assoc] using Ml.z,Z⟩
    case measure=>simp [intOf]
  · go_wp2_with fail
    refine Calls.mono (qU.2.2 w.heap.size a 0 _ gl _ _ _ _ (c.gl.below (h.keep.below (Nat.le_of_lt L) lQ)) c.lgl (by have o:=c.lgl; have b:=G.ngl; dsimp only at o b; omega) c.ogl h.ok (by have:=h.len; omega)) ?_;rintro Q w2 ⟨rfl,ok,p⟩;have Ml:=ω (h.next ok p (gU Go.Proofs.YtimglglgcgpjgabGreatDoor.u7 (by have b:=G.ngl; dsimp only at b; omega)));have Z:=ω (p.blk ak.z (by decide) (Nat.ne_of_gt ag.z));clear ok p ar au av i;go_wp2
    go_roundw
    case rel=>exact⟨3,by omega,by go_num,by simpa [List.append_assoc] using Ml.z,Z⟩
    case measure=>simp [intOf]
  · have hL:L5 ++ ([gj,gn,gl].take 3).flatMap (fY dU)=oD ⟨X,aj,jobs,nodes,leases,gj,gn,gl⟩:=by rw [<- aC.z]; simp [oD]
    have af:=h.keep.below (Nat.le_of_lt L) lQ;have a0:=h.ok.at_;rw [hL] at a0;obtain⟨_,A,ai,aE,hB,ho⟩:=a0;have hm:=uo ho;have z0:ζ wr a 0 (.slice A ai aE):=hB.cell 0;have aJ:=iX Tryz.underlying56 Tryz.underlying5 Tryz.underlying9 ho;by_cases aL:6000<ai
    · have aW:=ω (FB.z trivial wr (by omega) af);have hd:decide ((6000:Int)<(ai:Int))=true:=t7 (by omega);clear af hm aJ ho hB;go_wp2;go_ret2;exact aW
    · have aW:=ω (aD.z trivial wr _ (by omega) rfl af);have hd:decide ((6000:Int)<(ai:Int))=false:=fQ (by omega);clear af hm ho hB;go_wp2;go_ret2;exact aW
def Mm (w:World) (P i:Nat):List Value->World
 | []=>w
 | v :: r=>Mm (sQ w P i v) P (i+1) r
theorem Fc {P:Nat} {t:TypeId}:∀ (l:List Value) (i:Nat) (w:World) (a b:List Value),a.length=i->b.length=l.length->Blk w P t (a ++ b).toArray->Blk (Mm w P i l) P t (a ++ l).toArray
 | [],i,w,a,b,d,c,h=>by
  have:b=[]:=List.eq_nil_of_length_eq_zero c;subst this; exact h
 | v :: r,i,w,a,[],d,c,h=>by cases c
 | v :: r,i,w,a,u :: b,d,c,h=>by
  have e:=Fc r (i+1) (sQ w P i v) (a ++ [v]) b (by rw [List.length_append,d]; rfl) (by simpa using c) (Blk.eq (h.set i v) (by subst d; simp));rw [List.append_assoc] at e;exact e
theorem Iy {g P:Nat} {σ:RR Unit} (a:g<P):∀ (l:List Value) (i:Nat) (w:World),j5 w g σ->j5 (Mm w P i l) g σ
 | [],_,_,h=>h
 | v :: r,i,w,h=>Iy a r (i+1) _ (h.set P i v a)
theorem Bw {B P:Nat} (a:B<=P):∀ (l:List Value) (i:Nat) (w w':World),Below B w w'->Below B w (Mm w' P i l)
 | [],_,_,_,h=>h
 | v :: r,i,w,w',h=>Bw a r (i+1) w _ (aZ h a)
def nI {α:Type} (g P:Nat) (t:TypeId) (cs:α->List Value) (R:RR α) (w:World) (e:Ending) (w':World):Prop:=
 e = .returned (.tuple #[])/\(∃ x,(∀ y s,R = .ok y s->x=y)/\Blk w' P t (cs x).toArray)/\j5 w' g R.st/\Below g w w'
theorem nI.of {α:Type} {g P:Nat} {t:TypeId} {cs:α->List Value} {R:RR α} {w d:World} {Z:α->Prop} {a:α} {z:List Value} (i:Blk w P t z.toArray) (l:z.length=(cs a).length) (c:g<P) (f:g<w.heap.size) (b:w.grownBy d (some g)) (j:mV R Z a) (h:j5 d g R.st) :
 nI g P t cs R w (.returned (.tuple #[])) (Mm d P 0 (cs a)):=
 ⟨rfl,⟨a,by rintro y s rfl; exact j,Fc _ 0 _ [] z rfl l (ay b i (Nat.ne_of_gt c))⟩,Iy c _ _ _ h,Bw (Nat.le_of_lt c) _ _ _ _ ⟨b.os,b.tape,b.output,b.size,fun k e=>b.block k (Nat.lt_trans e f) (by simp; omega)⟩⟩
theorem JV (g P:Nat) (s:ByteArray) (w:World) (i:Blk w P 208 #[.string ⟨#[]⟩,(0:Int),(0:Int),(0:Int),.string ⟨#[]⟩]) (h:j5 w g (.ok () s)) (j:g<P) :
 ψ 267 #[π P 0,π g 0] w (nI g P 208 aS (pK 3 s) w):=by
 have c:=NF g (.ok () s) 3 w (by decide) (by decide) h;change Calls _ _ _ _ (oH _ (pK 3 s) _ _ _) at c;generalize pK 3 s=R at c |-;have c:=ω c;have d:=ω i;have r:=i.lt;have m:=h.at_.lt;clear i h;go_enter Tryz.func267,Tryz.ntmps267
 go_wp2_with fail
 refine c.mono ?_;rintro q u ⟨x,rfl,l,k,e⟩;have F:=ω (nI.of (a:=x) (cs:=aS) d.z rfl j m e l k);have b:=ay e d.z (Nat.ne_of_gt j);have v:=b.thaw 0;have c0:=b.cell 0;have y:=b.thaw 1;have o:=b.cell 1;have z2:=b.thaw 2;have c2:=b.cell 2;have z:=b.thaw 3;have p:=b.cell 3;have z4:=b.thaw 4;have c4:=b.cell 4;have n:=b.lt;clear k b e c d l;simp only [aS];go_wp2;go_end0;exact F
theorem GK (g P:Nat) (s:ByteArray) (w:World) (i:Blk w P 211 #[.string ⟨#[]⟩,(0:Int),.string ⟨#[]⟩]) (h:j5 w g (.ok () s)) (j:g<P) :
 ψ 276 #[π P 0,π g 0] w (nI g P 211 aH (lH 3 s) w):=by
 have c:=Md g (.ok () s) 3 w (by decide) h;change Calls _ _ _ _ (oH _ (lH 3 s) _ _ _) at c;generalize lH 3 s=R at c |-;have c:=ω c;have d:=ω i;have q:=i.lt;have m:=h.at_.lt;clear i h;go_enter Tryz.func276,Tryz.ntmps276
 go_wp2_with fail
 refine c.mono ?_;rintro p r ⟨x,rfl,l,k,e⟩;have F:=ω (nI.of (a:=x) (cs:=aH) d.z rfl j m e l k);have b:=ay e d.z (Nat.ne_of_gt j);have u:=b.thaw 0;have c0:=b.cell 0;have v:=b.thaw 1;have o:=b.cell 1;have z2:=b.thaw 2;have c2:=b.cell 2;have n:=b.lt;clear k b e c d l;simp only [aH];go_wp2;go_end0;exact F
theorem Fd (g P:Nat) (s:ByteArray) (w:World) (i:Blk w P 214 #[.string ⟨#[]⟩,.string ⟨#[]⟩,(0:Int)]) (h:j5 w g (.ok () s)) (j:g<P) :
 ψ 281 #[π P 0,π g 0] w (nI g P 214 aB (iL s) w):=by
 have c:=NG g (.ok () s) w h;change Calls _ _ _ _ (oH _ (iL s) _ _ _) at c;generalize iL s=R at c |-;have c:=ω c;have d:=ω i;have q:=i.lt;have m:=h.at_.lt;clear i h;go_enter Tryz.func281,Tryz.ntmps281
 go_wp2_with fail
 refine c.mono ?_;rintro p r ⟨x,rfl,l,k,e⟩;have F:=ω (nI.of (a:=x) (cs:=aB) d.z rfl j m e l k);have b:=ay e d.z (Nat.ne_of_gt j);have u:=b.thaw 0;have c0:=b.cell 0;have v:=b.thaw 1;have o:=b.cell 1;have z2:=b.thaw 2;have c2:=b.cell 2;have n:=b.lt;clear k b e c d l;simp only [aB];go_wp2;go_end0;exact F
theorem GM (g P:Nat) (s:ByteArray) (w:World) (i:Blk w P 215 #[.string ⟨#[]⟩]) (h:j5 w g (.ok () s)) (j:g<P) :
 ψ 286 #[π P 0,π g 0] w (nI g P 215 (fun x:ByteArray=>[.string x]) (cH s) w):=by
 have b:=vL g (.ok () s) w h;change Calls _ _ _ _ (oH _ (cH s) _ _ _) at b;generalize cH s=R at b |-;have b:=ω b;have d:=ω i;have p:=i.lt;have m:=h.at_.lt;clear i h;go_enter Tryz.func286,Tryz.ntmps286
 go_wp2_with fail
 refine b.mono ?_;rintro o q ⟨x,rfl,l,k,e⟩;have F:=ω (nI.of (a:=x) (cs:=(fun x:ByteArray=>[.string x])) d.z rfl j m e l k);have c:=ay e d.z (Nat.ne_of_gt j);have r:=c.thaw 0;have c0:=c.cell 0;have n:=c.lt;clear k c e b d l;go_wp2;go_end0;exact F
theorem Fe (g P:Nat) (s:ByteArray) (w:World) (i:Blk w P 217 #[(0:Int)]) (h:j5 w g (.ok () s)) (j:g<P) :
 ψ 290 #[π P 0,π g 0] w (nI g P 217 (fun x:Nat=>[.int .i64 (x:Int)]) (dJ s) w):=by
 have b:=qR g (.ok () s) w h;change Calls _ _ _ _ (oH _ (dJ s) _ _ _) at b;generalize dJ s=R at b |-;have b:=ω b;have d:=ω i;have p:=i.lt;have m:=h.at_.lt;clear i h;go_enter Tryz.func290,Tryz.ntmps290
 go_wp2_with fail
 refine b.mono ?_;rintro o q ⟨x,rfl,l,k,e⟩;have F:=ω (nI.of (a:=x) (cs:=(fun x:Nat=>[.int .i64 (x:Int)])) d.z rfl j m e l k);have c:=ay e d.z (Nat.ne_of_gt j);have r:=c.thaw 0;have c0:=c.cell 0;have n:=c.lt;clear k c e b d l;go_wp2;go_end0;exact F
theorem GN (p:Value) (w:World):ψ 294 #[.agg #[],p] w fun e a=>e = .returned (.tuple #[])/\Below w w a:=by
 go_enter Tryz.func294,Tryz.ntmps294;go_wp2;go_end0;exact⟨rfl,(θ).alloc lQ _⟩
structure Mn (k:Nat) (s:ByteArray) (T:TypeId) (F:FuncId) (J0:Nat->Value->World->Prop) (J1:aL->Nat->Value->World->Prop):Prop where
 hn:∀ v (w:World),(binOp .eql 151 (.iface T v) .nilIface).run Tryz.prog w = .ok (.bool false) w
 hc:∀ a (w:World),(callFunc F a).run Tryz.prog w = .ok (.enter F a) w
 pt:∀ w,ψ 73 #[bO (dI k)] w fun e w'=>∃ v,e = .returned (.iface T v)/\J0 w v w'/\Below w w w'
 hm : ∀ B v w, J0 B v w -> ∀ w', (method 417 T v "bracken/req.take").run Tryz.prog w' = .ok (F, v) w'
 tk:∀ B v w g,J0 B v w->g<B->j5 w g (.ok () s)->ψ F #[v,π g 0] w fun e w'=>e = .returned (.tuple #[])/\(∃ q,(∀ q' t,jJ k s = .ok q' t->q=q')/\J1 q g v w')/\j5 w' g (jJ k s).st/\Below g w w'
 kp:∀ q g v w w',J1 q g v w->w.grownBy w' (some g)->J1 q g v w'
 wh:∀ q g v w,J1 q g v w->ψ 75 #[(k:Int),.iface T v] w fun e w'=>e = .returned (bO q)/\Below w w w'
theorem Ff {α a:Type} (r:RR α) (f:α->a):(r.bind fun x t=>.ok (f x) t).st=r.st:=by cases r <;> rfl
theorem qV {α:Type} {k:Nat} {s:ByteArray} (T t:TypeId) (F:FuncId) {z:Array Value} (cs:α->List Value) {R:RR α} (f:α->aL) (D:jJ k s=R.bind fun x t=>.ok (f x) t)
 (C:∀ v (w:World),(binOp .eql 151 (.iface T v) .nilIface).run Tryz.prog w = .ok (.bool false) w) (r:∀ a (w:World),(callFunc F a).run Tryz.prog w = .ok (.enter F a) w)
 (y : ∀ P (w' : World), (method 417 T (π P 0) "bracken/req.take").run Tryz.prog w' = .ok (F, π P 0) w')
 (G:∀ w,ψ 73 #[bO (dI k)] w (oB T t z w))
 (I:∀ g P w,Blk w P t z->j5 w g (.ok () s)->g<P->ψ F #[π P 0,π g 0] w (nI g P t cs R w))
 (J:∀ x P w,Blk w P t (cs x).toArray->ψ 75 #[(k:Int),.iface T (π P 0)] w fun e w'=>e = .returned (bO (f x))/\Below w w w') :
 ∃ T F m n,Mn k s T F m n:=
 ⟨T,F,fun B v w=>∃ P,v = .pointer (some ⟨P,0,none⟩)/\B<=P/\Blk w P t z,fun q g v w=>∃ P x,q=f x/\v = .pointer (some ⟨P,0,none⟩)/\g<P/\Blk w P t (cs x).toArray,C,r,
  fun w=>(G w).mono fun e w' ⟨P,d,i,j,l⟩=>⟨_,d,⟨P,rfl,i,j⟩,l⟩,
  by rintro B v w ⟨P,rfl,_,_⟩ w'; exact y P w',
  by
   rintro B v w g ⟨P,rfl,K,h⟩ b E;refine (I g P w h E (by omega)).mono ?_;rintro e w' ⟨d,⟨x,i,j⟩,l,p⟩;rw [D];refine⟨d,⟨f x,fun L t e=>?_,P,x,rfl,rfl,by omega,j⟩,by rw [Ff]; exact l,p⟩;obtain⟨a,H,o,c⟩:=pL e;injection c with c;rw [i a H o]; exact c,
  by rintro q g v w w' ⟨P,x,rfl,rfl,b,h⟩ u; exact⟨P,x,rfl,rfl,b,ay u h (Nat.ne_of_gt b)⟩,
  by rintro q g v w ⟨P,x,rfl,rfl,b,h⟩; exact J x P w h⟩
theorem GO (k:Nat) (s:ByteArray) (d:k=8\/k=9):∃ T F i j,Mn k s T F i j:=by
 have m:jJ k s = .ok (dI k) s:=by rcases d with rfl | rfl <;> rfl
 refine⟨220,294,fun _ v _=>v = .agg #[],fun q _ v _=>q=dI k/\v = .agg #[],fun _ _=>rfl,fun _ _=>by kernel_rfl,fun w=>?_,?_,?_,fun _ _ _ _ _ h _=>h,?_⟩
 · rcases d with rfl | rfl
   · exact (wF.1 (dI 8) w rfl).mono fun e c h=>⟨_,h.1,rfl,h.2⟩
   · exact (wF.2 (dI 9) w rfl).mono fun e c h=>⟨_,h.1,rfl,h.2⟩
 · rintro B v w rfl c;kernel_rfl
 · rintro B v w g rfl n a;refine (GN _ w).mono ?_;rintro e c ⟨l,b⟩;rw [m];exact⟨l,⟨_,fun o t e=>by injection e,rfl,rfl⟩,a.next (a.at_.grow (fU _ b) (Nat.ne_of_lt a.at_.lt)) a.good (fU _ b),b.mono (Nat.le_of_lt a.at_.lt)⟩
 · rintro q g v w ⟨rfl,rfl⟩;exact AH (dI k) w
theorem JD (k:Nat) (s:ByteArray) (h:ranged (k:Int) 1 9=true):∃ T F b c,Mn k s T F b c:=by
 have d:=aM.1 h;have a:k=1\/k=2\/k=5\/(k=3\/k=4\/k=6)\/k=7\/k=8\/k=9:=by omega
 rcases a with rfl | rfl | rfl | a | rfl | a
 · exact qV _ _ 267 aS (fun x=>⟨(1:Nat),x,aV,aN,⟨#[]⟩,0⟩) rfl (fun _ _=>rfl) (fun _ _=>by kernel_rfl) (fun _ _=>by kernel_rfl) (fun w=>gZ.1 (dI 1) w rfl) (fun g P w=>JV g P s w) (fun x P w h=>B4 ⟨(1:Nat),x,aV,aN,⟨#[]⟩,0⟩ P w h)
 · exact qV _ _ 276 aH (fun x=>⟨(2:Nat),bK,x,aN,⟨#[]⟩,0⟩) rfl (fun _ _=>rfl) (fun _ _=>by kernel_rfl) (fun _ _=>by kernel_rfl) (fun w=>gZ.2.1 (dI 2) w rfl) (fun g P w=>GK g P s w) (fun x P w h=>AF ⟨(2:Nat),bK,x,aN,⟨#[]⟩,0⟩ P w h)
 · exact qV _ _ 281 aB (fun x=>⟨(5:Nat),bK,aV,x,⟨#[]⟩,0⟩) rfl (fun _ _=>rfl) (fun _ _=>by kernel_rfl) (fun _ _=>by kernel_rfl) (fun w=>gZ.2.2.1 (dI 5) w rfl) (fun g P w=>Fd g P s w) (fun x P w h=>yY ⟨(5:Nat),bK,aV,x,⟨#[]⟩,0⟩ P w h)
 · refine qV 216 215 286 (fun x=>[.string x]) (R:=cH s) (z:=#[.string ⟨#[]⟩]) (fun x=>⟨k,bK,aV,aN,x,0⟩) (by rcases a with rfl | rfl | rfl <;> rfl) (fun _ _=>rfl) (fun _ _=>by kernel_rfl) (fun _ _=>by kernel_rfl) (fun w=>?_) (fun g P w=>GM g P s w) (fun x P w h=>AG ⟨k,bK,aV,aN,x,0⟩ P w h);rcases a with rfl | rfl | rfl
   · exact gZ.2.2.2.1 (dI 3) w rfl
   · exact gZ.2.2.2.2.1 (dI 4) w rfl
   · exact gZ.2.2.2.2.2.1 (dI 6) w rfl
 · exact qV _ _ 290 (fun x:Nat=>[.int .i64 (x:Int)]) (fun x=>⟨(7:Nat),bK,aV,aN,⟨#[]⟩,x⟩) rfl (fun _ _=>rfl) (fun _ _=>by kernel_rfl) (fun _ _=>by kernel_rfl) (fun w=>gZ.2.2.2.2.2.2 (dI 7) w rfl) (fun g P w=>Fe g P s w) (fun x P w h=>yZ ⟨(7:Nat),bK,aV,aN,⟨#[]⟩,x⟩ P w h)
 · exact GO k s a
end Go.Proofs.YtimglglgcgpjgabGreatDoor
