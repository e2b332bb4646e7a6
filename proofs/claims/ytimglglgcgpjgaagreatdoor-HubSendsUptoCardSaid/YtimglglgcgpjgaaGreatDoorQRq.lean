/- Of the proof of a statement: Rq, FrmEncP, SlEq, RRows. -/
import Derived.Lib.QuietBelow
import Derived.Deep.DeepCutAuto
import Derived.Test.YtimglglgcgpjgaaGreatDoorQSvOwn
set_option linter.unusedVariables false
set_option linter.unusedSimpArgs false
set_option maxRecDepth 100000
set_option maxHeartbeats 8000000
namespace Go.Proofs.YtimglglgcgpjgaaGreatDoor
open Go.RowKit
def j6 (c r:Int):Bool:=ranged c 0 10 && ranged r 0 1099511627776
def qY (c r:Int):List UInt8:=bg c.toNat ++ bg r.toNat
def gS (c r:Int):ByteArray × Int:=if j6 c r=true then (⟨(qY c r).toArray⟩,0) else (⟨#[]⟩,1)
theorem yK {c r:Int} (h:j6 c r=false):gS c r=(⟨#[]⟩,1):=by unfold gS; rw [if_neg (by rw [h]; decide)]
theorem Bl {c r:Int} (h:j6 c r=true):gS c r=(⟨(qY c r).toArray⟩,0):=by unfold gS; rw [if_pos h]
theorem E9 {c r:Int}:j6 c r=true↔(0<=c/\c<=10)/\(0<=r/\r<=1099511627776):=by unfold j6; rw [Bool.and_eq_true,aM,aM]
theorem Fa (n:Int) (w:World):ψ 199 #[n] w fun e d=>e = .returned (.bool (ranged n 0 1099511627776))/\w=d:=by
 cases h:ranged n 0 1099511627776
 · have a:=fT.1 h;by_cases g:n<0
   · have b:decide (0<=n)=false:=fK (by omega);clear h a;go_enter Tryz.func199,Tryz.ntmps199;go_wp2;go_ret;exact⟨rfl,rfl⟩
   · have b:decide (0<=n)=true:=t8 (by omega);have c:decide (n<=1099511627776)=false:=fK (by omega);clear h a;go_enter Tryz.func199,Tryz.ntmps199;go_wp2;go_ret;exact⟨rfl,rfl⟩
 · have a:=aM.1 h;have b:decide (0<=n)=true:=t8 a.1;have c:decide (n<=1099511627776)=true:=t8 a.2;clear h a;go_enter Tryz.func199,Tryz.ntmps199;go_wp2;go_ret;exact⟨rfl,rfl⟩
theorem zw (c r:Int) (w:World):ψ 158 #[.agg #[c,r]] w fun e j=>e = .returned (.bool (j6 c r))/\Below w w j:=by
 have g:=(Below.refl w w).alloc lJ (.cells #[c,r] 92);have b:=ω g;clear g;unfold j6;cases h:ranged c 0 10
 · have a:=fT.1 h;by_cases k:c<0
   · have d:decide (0<=c)=false:=fK (by omega);clear h a;go_enter Tryz.func158,Tryz.ntmps158;go_wp2;go_ret;exact⟨rfl,b⟩
   · have d:decide (0<=c)=true:=t8 (by omega);have i:decide (c<=10)=false:=fK (by omega);clear h a;go_enter Tryz.func158,Tryz.ntmps158;go_wp2;go_ret;exact⟨rfl,b⟩
 · have a:=aM.1 h;have d:decide (0<=c)=true:=t8 a.1;have i:decide (c<=10)=true:=t8 a.2;clear h a;go_enter Tryz.func158,Tryz.ntmps158
   go_wp2_with fail
   refine Calls.mono (Fa r _) ?_;rintro e l ⟨rfl,rfl⟩;go_wp2;go_ret;exact⟨rfl,b⟩
theorem tL (n lo hi:Int) (w:World):ψ 15 #[n,lo,hi] w fun e a=>e = .returned (.bool (!ranged n lo hi))/\w=a:=by
 cases h:ranged n lo hi
 · exact eE n lo hi (fT.1 h) w
 · exact dh n lo hi (aM.1 h).1 (aM.1 h).2 w
def A4 (c r:Int) (w:World) (e:Ending) (w':World):Prop:=e = .returned (.tuple #[.string (gS c r).1,.int .i64 (gS c r).2])/\Below w w w'
theorem N7 (n:Int) (w:World) (a:0<=n) (c:n<=9223372036854775807):ψ 61 #[n] w (vW n.toNat w):=by
 have H:=ω (qd 10 n w a (by omega) (by have:=(by decide:(128:Nat) ^ 10=1180591620717411303424); omega) (by decide));unfold vW at H |-;go_enter Tryz.func61,Tryz.ntmps61
 go_wp2_with fail
 refine H.mono ?_;rintro e d ⟨rfl,b⟩;go_wp2;go_ret;exact⟨rfl,b⟩
theorem IE (c r:Int) (w:World):ψ 84 #[.agg #[c,r]] w (A4 c r w):=by
 have D:=(Below.refl w w).alloc lJ (.cells #[c,r] 92);have y:Blk (χ w #[c,r] 92) w 92 #[c,r]:=n5 w _;have d:=ω D;have i:=ω y;clear D y;unfold A4;cases h:j6 c r
 · rw [yK h];have l:=ω h;clear h;go_enter Tryz.func84,Tryz.ntmps84
   go_wp2_with fail
   refine Calls.mono (zw c r _) ?_;rintro m a ⟨rfl,e⟩;rw [l.z];go_wp2;exact bodyPost_ret (v:=.tuple #[.string ⟨#[]⟩,.int .i64 1]) (by simp [results,Tryz.results84,go_sem]) rfl ⟨rfl,d.trans (e.mono d.size)⟩
 · rw [Bl h];have H:=E9.1 h;have l:=ω h;clear h;go_enter Tryz.func84,Tryz.ntmps84
   go_wp2_with fail
   refine Calls.mono (zw c r _) ?_;rintro m a ⟨rfl,e⟩;rw [l.z];have j:=ω (i.below e i.lt);have k:=ω (d.trans (e.mono d.size));have E:=j.lt;clear e i d;have n:=(Below.refl a a).alloc lJ (.cells #[.slice none 0 0] 238);have C:tN (χ a #[.slice none 0 0] 238) a a []:=⟨lJ,none,0,0,n5 a _,World.ownsRow_nil _ _ _ _⟩;have s:=ω (Bm a a [] c _ H.1.1 (by omega) C (by simp));have q:=ω (j.below n E);have g:=ω n;have c0:ζ a w 0 (.int .i64 c):=j.cell 0;clear n C
   go_wp2_with fail
   refine s.mono ?_;rintro m p ⟨rfl,I,F⟩;have o:=g.size;have b:=F.below lJ o;have z:Blk p w 92 #[c,r]:=(b.block w E).trans q.z;have M:ζ p w 1 (.int .i64 r):=z.cell 1;have u:=ω (Bm a a _ r p H.2.1 (by omega) I (by have:=dO c.toNat; simp; omega));have x:=ω (k.trans ((g.trans b).mono k.size));have O:=v6 o b.size;clear I F b z s q g o c0
   go_wp2_with fail
   refine u.mono ?_;rintro m Q ⟨rfl,J,b⟩;have L:=ω (x.trans ((b.below lJ O).mono k.size));rw [show [] ++ bg c.toNat ++ bg r.toNat=qY c r by simp [qY]] at J;obtain⟨_,K,P,N,B,G⟩:=J;have S:ζ Q a 0 (.slice K P N):=B.cell 0;have R:=iS Tryz.underlying55 Tryz.underlying5 Tryz.underlying9 G;clear b B G u x M;go_wp2;exact bodyPost_ret (v:=.tuple #[.string ⟨(qY c r).toArray⟩,.int .i64 0]) (by simp [results,Tryz.results84,go_sem]) rfl ⟨rfl,L⟩
theorem Gt (c r:Int) (w:World):ψ 56 #[.agg #[c,r]] w (A4 c r w):=by
 have y:=(Below.refl w w).alloc lJ (.cells #[c,r] 92);have x:Blk (χ w #[c,r] 92) w 92 #[c,r]:=n5 w _;have e:=ω y;have g:=ω x;clear y x;unfold A4;have d:=ω (tL c 0 10);have l:=ω (tL r 0 1099511627776);cases h:ranged c 0 10
 · rw [yK (show j6 c r=false by unfold j6; rw [h]; rfl)];rw [h] at d;clear h;go_enter Tryz.func56,Tryz.ntmps56
   go_wp2_with fail
   refine Calls.mono (d.z _) ?_;rintro m a ⟨rfl,rfl⟩;go_wp2;exact bodyPost_ret (v:=.tuple #[.string ⟨#[]⟩,.int .i64 1]) (by simp [results,Tryz.results56,go_sem]) rfl ⟨rfl,e⟩
 · cases b:ranged r 0 1099511627776
   · rw [yK (show j6 c r=false by unfold j6; rw [h,b]; rfl)];rw [h] at d;rw [b] at l;clear h b;go_enter Tryz.func56,Tryz.ntmps56
     go_wp2_with fail
     refine Calls.mono (d.z _) ?_;rintro m a ⟨rfl,rfl⟩
     go_wp2_with fail
     refine Calls.mono (l.z _) ?_;rintro m a ⟨rfl,rfl⟩;go_wp2;exact bodyPost_ret (v:=.tuple #[.string ⟨#[]⟩,.int .i64 1]) (by simp [results,Tryz.results56,go_sem]) rfl ⟨rfl,e⟩
   · rw [Bl (show j6 c r=true by unfold j6; rw [h,b]; rfl)];have H:=aM.1 h;have I:=aM.1 b;rw [h] at d;rw [b] at l;have i:=fun W=>(N7 c W H.1 (by omega));have j:=fun W=>(N7 r W I.1 (by omega));unfold vW at i j;have K:(⟨(bg c.toNat).toArray⟩:ByteArray).size<=17:=by have:=dO c.toNat; show (bg c.toNat).toArray.size<=17; simp; omega
     have L:(⟨(bg r.toNat).toArray⟩:ByteArray).size<=17:=by have:=dO r.toNat; show (bg r.toNat).toArray.size<=17; simp; omega
     have k:(⟨(bg c.toNat).toArray⟩:ByteArray) ++ ⟨(bg r.toNat).toArray⟩=⟨(qY c r).toArray⟩:=by unfold qY; rw [ByteArray.mk_append_mk]; try simp
     generalize (⟨(bg c.toNat).toArray⟩:ByteArray)=D at i K k;generalize (⟨(bg r.toNat).toArray⟩:ByteArray)=E at j L k;have q:=ω i;have s:=ω j;obtain⟨a,o⟩:∃ a,w.alloc (.cells #[c,r] 92)=a:=⟨_,rfl⟩;rw [o] at g e;have u:=ω o;have F:=fun n p=>cell_regrown (show ζ a w 0 (.int .i64 c) from g.cell 0) n p;have G:=fun n p=>cell_regrown (show ζ a w 1 (.int .i64 r) from g.cell 1) n p;have C:=ω k;clear h b i j o g k;go_enter Tryz.func56,Tryz.ntmps56
     go_wp2_with fail
     refine Calls.mono (d.z _) ?_;rintro m B ⟨rfl,rfl⟩
     go_wp2_with fail
     refine Calls.mono (l.z _) ?_;rintro m B ⟨rfl,rfl⟩
     go_wp2_with fail
     rw [u.z];refine wp_region_quiet_below (by kernel_rfl) (by kernel_rfl) ?_
     go_big_quiet_step ((fail))
     go_big_quiet_step ((fail))
     go_big_quiet_step ((go_at_call 61; exact Calls.regrown_of (q.z _)))
     go_big_quiet_step ((fail))
     go_big_quiet_step ((fail))
     go_big_quiet_step ((go_at_call 61; exact Calls.regrown_of (s.z _)))
     repeat (go_big_quiet_step ((fail)))
     refine wpQuiet_nil ?_;intro _ J;obtain⟨⟨nq,osq⟩,hw''⟩:=J;subst hw'';have z:=ω (e.trans ((below_regrown a nq osq).mono e.size));clear u F G q s;dsimp only;generalize Sort.grow (redrawn a nq) osq=B at z |-;go_wp2;refine bodyPost_ret (v:=.tuple #[.string (D ++ E),.int .i64 0]) (by simp [results,Tryz.results56,go_sem]) rfl ?_;rw [C.z];exact⟨rfl,z⟩
def NE (g:Nat) (v k:Int) (p:ByteArray):Nat->Value->World->Prop
 | 0,u,_=>u = π g 0
 | 1,u,_=>u = .int .i64 v
 | 2,u,_=>u = .int .u8 v
 | 3,u,_=>u = π g 1
 | 4,u,_=>u = .int .i64 k
 | 5,u,_=>u = .int .u8 k
 | 6,u,w=>∃ b,u = .slice (some ⟨b,0,none⟩) 2 2/\ζ w b 0 (.int .u8 v)/\ζ w b 1 (.int .u8 k)
 | 7,u,_=>u = .string ⟨#[UInt8.ofNat v.toNat,UInt8.ofNat k.toNat]⟩
 | 8,u,_=>u = .string (⟨#[66,75]⟩ ++ ⟨#[UInt8.ofNat v.toNat,UInt8.ofNat k.toNat]⟩)
 | 9,u,_=>u = π g 2
 | 10,u,_=>u = .string p
 | 11,u,_=>u = .int .i64 p.size
 | 12,u,_=>u = .int .u64 p.size
 | 13,u,_=>u = .string ⟨(bg p.size).toArray⟩
 | 14,u,_=>u = .string (⟨#[66,75]⟩ ++ ⟨#[UInt8.ofNat v.toNat,UInt8.ofNat k.toNat]⟩ ++ ⟨(bg p.size).toArray⟩)
 | 15,u,_=>u = π g 2
 | 16,u,_=>u = .string p
 | _,u,_=>u = .string (⟨#[66,75]⟩ ++ ⟨#[UInt8.ofNat v.toNat,UInt8.ofNat k.toNat]⟩ ++ ⟨(bg p.size).toArray⟩ ++ p)
theorem Fb (g:Nat) (v k:Int) (p:ByteArray) (i:Nat) (u:Value) (w w':World) (h:NE g v k p i u w) (a:Ext w w'):NE g v k p i u w':=by
 unfold NE at *
 split at h
 case h_7=>obtain⟨b,e,c,d⟩:=h; exact⟨b,e,gF c a,gF d a⟩
 all_goals exact h
theorem G3 (v k:Int) (p:ByteArray) (w:World) :
 ψ 160 #[.agg #[v,k,p]] w (iq v k p w):=by
 by_cases C:v<1\/3<v
 · have i:=ω (fun (d:World)=>iq.arg (v:=v) (k:=k) (p:=p) (w:=w) (w':=d) (by omega));have T:=ω C;clear C;go_enter Tryz.func160,Tryz.ntmps160
   go_wp2_with (go_at_call 72; refine (wJ _ T.z _).mono ?_; rintro e d ⟨rfl,rfl⟩)
   go_ret2;exact i.z _ ((θ).alloc lJ _)
 have D:1<=v:=by omega
 have E:v<=3:=by omega
 clear C;by_cases B:k<1\/4<k
 · have i:=ω (fun (d:World)=>iq.arg (v:=v) (k:=k) (p:=p) (w:=w) (w':=d) (by omega));have R:=ω B;clear B;go_enter Tryz.func160,Tryz.ntmps160
   go_wp2_with (first | (go_at_call 72; refine (nN _ D E _).mono ?_; rintro e d ⟨rfl,rfl⟩) | (go_at_call 73; refine (Ca _ R.z _).mono ?_; rintro e d ⟨rfl,rfl⟩))
   go_ret2;exact i.z _ ((θ).alloc lJ _)
 have M:1<=k:=by omega
 have N:k<=4:=by omega
 clear B;by_cases P:6000<p.size
 · have i:=ω (fun (d:World)=>iq.large (v:=v) (k:=k) (p:=p) (w:=w) (w':=d) (by omega) P);go_enter Tryz.func160,Tryz.ntmps160
   go_wp2_with (first | (go_at_call 72; refine (nN _ D E _).mono ?_; rintro e d ⟨rfl,rfl⟩) | (go_at_call 73; refine (vA _ M N _).mono ?_; rintro e d ⟨rfl,rfl⟩))
   go_ret2;exact i.z _ ((θ).alloc lJ _)
 have Q:v=(((UInt8.ofNat v.toNat).toNat:Nat):Int):=by rw [UInt8.toNat_ofNat']; omega
 have O:k=(((UInt8.ofNat k.toNat).toNat:Nat):Int):=by rw [UInt8.toNat_ofNat']; omega
 have U:∀ (W:World) (g:Nat),ζ W g 0 (.int .u8 v)->ζ W g 1 (.int .u8 k)->(convert 55 9 (.slice (some ⟨g,0,none⟩) 2 2)).run Tryz.prog W = .ok (.string ⟨#[UInt8.ofNat v.toNat,UInt8.ofNat k.toNat]⟩) W:=by
  intro W g h0 b;exact Pv W g (by rw [<- Q]; exact h0) (by rw [<- O]; exact b)
 clear Q O;have wv:IntKind.u8.wrap v=v:=by rw [IntKind.wrap_u8']; omega
 have wk:IntKind.u8.wrap k=k:=by rw [IntKind.wrap_u8']; omega
 have wp:IntKind.u64.wrap (p.size:Int)=p.size:=by rw [IntKind.wrap_u64]; omega
 have hl:=(dO p.size).2;have Z:¬ 9223372036854775807<4+(bg p.size).length:=by omega
 have c2:¬ 9223372036854775807<4+(bg p.size).length+p.size:=by omega
 have G:=ω (Ep v.toNat k.toNat p.data.toList);have i:=ω (fun (s:ByteArray) (d:World)=>iq.ok (v:=v) (k:=k) (p:=p) (w:=w) (w':=d) (s:=s) (by omega) P);clear hl;go_enter Tryz.func160,Tryz.ntmps160
 go_upto_region 5 with (first | (go_at_call 72; refine (nN _ D E _).mono ?_; rintro e d ⟨rfl,rfl⟩) | (go_at_call 73; refine (vA _ M N _).mono ?_; rintro e d ⟨rfl,rfl⟩))
 go_cut [4] (fun s r=>∃ S:ByteArray,s = .string S/\S.data.toList=BJ v.toNat k.toNat p.data.toList/\Below w w r)
 case first=>
  generalize m:w.alloc (.cells #[v,k,p] 78)=q;have J:Below w w q:=by rw [<- m]; exact (θ).alloc lJ _
  have g0:ζ q w 0 (.int .i64 v):=by rw [<- m]; simp [go_sem]
  have g1:ζ q w 1 (.int .i64 k):=by rw [<- m]; simp [go_sem]
  have H:ζ q w 2 (.string p):=by rw [<- m]; simp [go_sem]
  have hg:w.heap.size<q.heap.size:=by rw [<- m]; simp
  clear m;refine oJ (n:=43) (by kernel_rfl) (NE w v k p) (by decide +kernel) rfl (Fb _ _ _ _) ?_ ?_
  · refine⟨?_,?_,?_,?_,?_,?_,?_,?_,?_,?_,?_,?_,?_,?_,?_,?_,?_,?_,?_,trivial⟩
    all_goals (intro V r l x c; refine⟨rfl,?_⟩)
    · have b:=x 1 _ rfl (by decide +kernel);simp [go_sem,Oper.wp,execOp,Act.eval,b];exact⟨_,rfl,θ,rfl⟩
    · obtain⟨u1,b,a⟩:=c 0 _ 21 rfl rfl (by decide +kernel);replace a:u1=_:=a;subst a;have j:=gF g0 l;simp [go_sem,Oper.wp,execOp,Act.eval,b,j];exact⟨_,rfl,θ,rfl⟩
    · obtain⟨u1,b,a⟩:=c 1 _ 22 rfl rfl (by decide +kernel);replace a:u1=_:=a;subst a;simp [go_sem,Oper.wp,execOp,Act.eval,b,wv];exact⟨_,rfl,θ,rfl⟩
    · have b:=x 1 _ rfl (by decide +kernel);simp [go_sem,Oper.wp,execOp,Act.eval,b];exact⟨_,rfl,θ,rfl⟩
    · obtain⟨u1,b,a⟩:=c 3 _ 24 rfl rfl (by decide +kernel);replace a:u1=_:=a;subst a;have j:=gF g1 l;simp [go_sem,Oper.wp,execOp,Act.eval,b,j];exact⟨_,rfl,θ,rfl⟩
    · obtain⟨u1,b,a⟩:=c 4 _ 25 rfl rfl (by decide +kernel);replace a:u1=_:=a;subst a;simp [go_sem,Oper.wp,execOp,Act.eval,b,wk];exact⟨_,rfl,θ,rfl⟩
    · obtain⟨u1,b,a⟩:=c 2 _ 23 rfl rfl (by decide +kernel);replace a:u1=_:=a;subst a;obtain⟨u2,o,h⟩:=c 5 _ 26 rfl rfl (by decide +kernel);replace h:u2=_:=h;subst h;simp [go_sem,Oper.wp,execOp,Act.eval,b,o];exact⟨_,rfl,(θ).alloc lJ _,r.heap.size,rfl,by simp [go_sem],by simp [go_sem]⟩
    · obtain⟨u1,b,Y,e1,x0,x1⟩:=c 6 _ 27 rfl rfl (by decide +kernel);subst e1;have hr:=U r Y x0 x1;simp [go_sem,Oper.wp,execOp,Act.eval,b,hr];exact⟨_,rfl,θ,rfl⟩
    · obtain⟨u1,b,a⟩:=c 7 _ 28 rfl rfl (by decide +kernel);replace a:u1=_:=a;subst a;simp [go_sem,Oper.wp,execOp,Act.eval,b];exact⟨_,rfl,θ,rfl⟩
    · have b:=x 1 _ rfl (by decide +kernel);simp [go_sem,Oper.wp,execOp,Act.eval,b];exact⟨_,rfl,θ,rfl⟩
    · obtain⟨u1,b,a⟩:=c 9 _ 30 rfl rfl (by decide +kernel);replace a:u1=_:=a;subst a;have j:=gF H l;simp [go_sem,Oper.wp,execOp,Act.eval,b,j];exact⟨_,rfl,θ,rfl⟩
    · obtain⟨u1,b,a⟩:=c 10 _ 31 rfl rfl (by decide +kernel);replace a:u1=_:=a;subst a;simp [go_sem,Oper.wp,execOp,Act.eval,b];exact⟨_,rfl,θ,rfl⟩
    · obtain⟨u1,b,a⟩:=c 11 _ 32 rfl rfl (by decide +kernel);replace a:u1=_:=a;subst a;simp [go_sem,Oper.wp,execOp,Act.eval,b,wp];exact⟨_,rfl,θ,rfl⟩
    · obtain⟨u1,b,a⟩:=c 12 _ 33 rfl rfl (by decide +kernel);replace a:u1=_:=a;subst a;simp [go_sem,Oper.wp,execOp,Act.eval,b];refine (zW _ _ (by omega) (by omega)).mono ?_;rintro e d ⟨rfl,u⟩;exact⟨_,rfl,u,rfl⟩
    · obtain⟨u1,b,a⟩:=c 8 _ 29 rfl rfl (by decide +kernel);replace a:u1=_:=a;subst a;obtain⟨u2,o,h⟩:=c 13 _ 34 rfl rfl (by decide +kernel);replace h:u2=_:=h;subst h;simp [go_sem,Oper.wp,execOp,Act.eval,b,o,Z];exact⟨_,rfl,θ,rfl⟩
    · have b:=x 1 _ rfl (by decide +kernel);simp [go_sem,Oper.wp,execOp,Act.eval,b];exact⟨_,rfl,θ,rfl⟩
    · obtain⟨u1,b,a⟩:=c 15 _ 36 rfl rfl (by decide +kernel);replace a:u1=_:=a;subst a;have j:=gF H l;simp [go_sem,Oper.wp,execOp,Act.eval,b,j];exact⟨_,rfl,θ,rfl⟩
    · obtain⟨u1,b,a⟩:=c 14 _ 35 rfl rfl (by decide +kernel);replace a:u1=_:=a;subst a;obtain⟨u2,o,h⟩:=c 16 _ 37 rfl rfl (by decide +kernel);replace h:u2=_:=h;subst h;simp [go_sem,Oper.wp,execOp,Act.eval,b,o,c2];exact⟨_,rfl,θ,rfl⟩
    · obtain⟨u1,b,a⟩:=c 17 _ 38 rfl rfl (by decide +kernel);replace a:u1=_:=a;subst a;simp [go_sem,Oper.wp,execOp,Act.eval,b];exact⟨_,rfl,θ,rfl⟩
  · intro V r z;obtain⟨f,aa,L⟩:=z.frame' [21,22,23,24,25,26,27,28,29,30,31,32,33,34,35,36,37,38,4] rfl;have r4:f 4=_:=L 18 _ 4 rfl rfl;have l:=z.le;clear z L;subst aa;simp only [List.foldl_cons,List.foldl_nil,List.setIfInBounds_toArray,List.set_cons_succ,List.set_cons_zero,r4];clear r4
    go_wp2_with fail
    go_meet
    exact⟨_,rfl,by
     simp only [ByteArray.toList_data_append,BJ];have e:p.data.toList.length=p.size:=by rw [Array.length_toList]; rfl
     rw [e]; simp,J.trans (l.mono J.size)⟩
 case rest=>
  obtain⟨S,rfl,I,y⟩:=hcut;have F:=ω I
  have ab:S.size<=6015:=by
   have b:=G.z;rw [<- F.z] at b;have e:p.data.toList.length=p.size:=by rw [Array.length_toList]; rfl
   have e2:S.data.toList.length=S.size:=by rw [Array.length_toList]; rfl
   omega
  clear I G
  go_wp2_with fail
  refine Calls.mono (D6 S _ (by omega)) ?_;rintro e w2 ⟨rfl,K⟩;have u:=y.trans (K.mono y.size);clear y K;have ac:(pC S.data.toList).length<=4:=Nat.le_refl 4;have X:=ω (i.z (S ++ ⟨(pC S.data.toList).toArray⟩) w2 (by rw [ByteArray.toList_data_append,F.z]; rfl) u);clear i u;go_wp2;go_ret2;exact X
def Bn (d:Type) (e:Nat) (f:d->List Value) (h:FuncId):Prop:=
 ∀ (xs a:List d) (A b:Option Addr) (n m c g:Nat) (w:World) (k:bC w w e A n (au f xs)) (l:bC w w e b m (au f a)) (o:xs.length=n) (p:a.length=m) (j:n<=9223372036854775807) (i:m<=9223372036854775807),ψ h #[.slice A n c,.slice b m g] w (Av xs a w)
theorem Bo:Bn aC 5 aS 152 /\ Bn av 3 aH 153:=by
 refine⟨@fun L M A A' n Y ab c' aa I J O P hn hm=>(fun(a:Unit)=>?_) (),@fun L M A A' n Y ab c' aa I J O P hn hm=>(fun(K:Unit)=>?_) ()⟩<;>(
 first|(guard_hyp a;have V:=@aT;have X:Tg 13:=⟨⟩)|(have V:=@aO;have X:Tg 15:=⟨⟩)
 by_cases h:n=Y
 · subst h;have h0:((n:Int) != n)=false:=by simp
   have R:=ω O;have S:=ω P;clear O P
   first|(guard_hyp a;go_enter Tryz.func152,Tryz.ntmps152)|go_enter Tryz.func153,Tryz.ntmps153
   go_wp2
   go_loopw [13] (fun U wr=>KG L M n aa U wr) (fun U _=>n - (intOf U).toNat)
   case atStart=>exact⟨0,Nat.zero_le _,rfl,rfl,θ⟩
   case round=>
    obtain⟨k,hk,rfl,he,j⟩:=hrel;have Q:=ω he;clear he;by_cases hlt:k<n
    · obtain⟨x,m⟩:∃ x,L[k]? = some x:=⟨_,gO (by rw [R.z]; exact hlt)⟩;obtain⟨y,o⟩:∃ y,M[k]? = some y:=⟨_,gO (by rw [S.z]; exact hlt)⟩;obtain⟨d,p,rfl,ag,g⟩:=(I.below j).eC V R.z m;obtain⟨e,q,rfl,Az,i⟩:=(J.below j).eC V S.z o
      first
       |(
        guard_hyp a
        obtain⟨c,C,D,s,H⟩:=x;obtain⟨b,u,v,r,G⟩:=y)
       |(
        guard_hyp K
        obtain⟨c,F,E⟩:=x;obtain⟨b,z,w⟩:=y)
      have c0:ζ wr d (p+k*X) (.string c):=g 0 _ rfl;have d0:ζ wr e (q+k*X) (.string b):=i 0 _ rfl
      first
       |(
        guard_hyp a
        have c1:ζ wr d (p+k*5+1) (.int .i64 C):=g 1 _ rfl;have d1:ζ wr e (q+k*5+1) (.int .i64 u):=i 1 _ rfl;have c2:ζ wr d (p+k*5+2) (.int .i64 D):=g 2 _ rfl;have d2:ζ wr e (q+k*5+2) (.int .i64 v):=i 2 _ rfl)
       |skip
      first|(guard_hyp a;have c3:ζ wr d (p+k*5+3) (.int .i64 s):=g 3 _ rfl)|have c1:ζ wr d (p+k*3+1) (.int .i64 F):=g 1 _ rfl
      first|(guard_hyp a;have d3:ζ wr e (q+k*5+3) (.int .i64 r):=i 3 _ rfl)|have d1:ζ wr e (q+k*3+1) (.int .i64 z):=i 1 _ rfl
      first|(guard_hyp a;have c4:ζ wr d (p+k*5+4) (.string H):=g 4 _ rfl)|have c2:ζ wr d (p+k*3+2) (.string E):=g 2 _ rfl
      first|(guard_hyp a;have d4:ζ wr e (q+k*5+4) (.string G):=i 4 _ rfl)|have d2:ζ wr e (q+k*3+2) (.string w):=i 2 _ rfl
      have aj:=j.size;have ah:d<wr.heap.size:=by omega
      have ai:e<wr.heap.size:=by omega
      have Hb:=ω j;have ae:=ω m;have af:=ω o;have B:=ω Hb.drew
      first
       |(
        guard_hyp a
        have step:=ω (fun (h:(⟨c,C,D,s,H⟩:aC)=⟨b,u,v,r,G⟩)=>jP (m.trans (congrArg some h)) o Q.z);have stop:=ω (fun (h:(⟨c,C,D,s,H⟩:aC)≠⟨b,u,v,r,G⟩)=>oV m o h))
       |(
        guard_hyp K
        have step:=ω (fun (h:(⟨c,F,E⟩:av)=⟨b,z,w⟩)=>jP (m.trans (congrArg some h)) o Q.z);have stop:=ω (fun (h:(⟨c,F,E⟩:av)≠⟨b,z,w⟩)=>oV m o h))
      clear g i I J m o j
      first
       |(
        guard_hyp a
        obtain⟨t,N,l,-⟩:=Aw c b H G C u D v s r)
       |(
        guard_hyp K
        obtain⟨t,N,l,-⟩:=xZ c b E w F z)
      have Z:=ω N;cases t
      · have D5:=ω (stop.z (fun h=>absurd (Z.z.2 h) (by decide)))
        first
         |(
          guard_hyp a
          have T:∀ W,(binOp .neq 85 (.agg #[c,C,D,s,H]) (.agg #[b,u,v,r,G])).run Tryz.prog W = .ok (.bool true) W:=l)
         |(
          guard_hyp K
          have T:∀ W,(binOp .neq 70 (.agg #[c,F,E]) (.agg #[b,z,w])).run Tryz.prog W = .ok (.bool true) W:=l)
        clear N l step;go_wp2
        go_region
        go_wp2;go_ret;exact⟨false,rfl,⟨fun h=>(by cases h),fun h=>absurd h D5.z⟩,B⟩
      · have ad:=ω (step.z (Z.z.1 rfl))
        first
         |(
          guard_hyp a
          have T:∀ W,(binOp .neq 85 (.agg #[c,C,D,s,H]) (.agg #[b,u,v,r,G])).run Tryz.prog W = .ok (.bool false) W:=l)
         |(
          guard_hyp K
          have T:∀ W,(binOp .neq 70 (.agg #[c,F,E]) (.agg #[b,z,w])).run Tryz.prog W = .ok (.bool false) W:=l)
        clear N l stop;go_wp2
        go_region
        go_wp2
        go_roundw
        case rel=>exact⟨k+1,by omega,by go_num,ad.z,B.z⟩
        case measure=>simp [intOf]; omega
    · have B:=ω j
      have same:=ω (show L=M by
       have ac:=Q.z;rwa [List.take_of_length_le (by rw [R.z]; omega),List.take_of_length_le (by rw [S.z]; omega)] at ac)
      clear j I J;go_wp2;go_ret;exact⟨true,rfl,⟨fun _=>same.z,fun _=>rfl⟩,B⟩
 · have h0:((n:Int) != Y)=true:=by simp; omega
   have B:=ω (show L≠M by rintro rfl; omega);clear O P I J
   first|(guard_hyp a;go_enter Tryz.func152,Tryz.ntmps152)|go_enter Tryz.func153,Tryz.ntmps153
   go_wp2;go_ret;exact⟨false,rfl,⟨fun h=>(by cases h),fun h=>absurd h B.z⟩,θ⟩)
def Ma {α:Type} (enc:α->List UInt8) (xs:List α) (n:Nat) (P:List UInt8) (w:World) (s i:Value) (wr:World):Prop:=
 ∃ (k:Nat) (S:ByteArray),k<=n/\i = .int .i64 k/\s = .string S/\S=bs (P ++ (xs.take k).flatMap enc)/\Below w w wr
theorem take_len {α:Type} {enc:α->List UInt8} (h:∀ x,(enc x).length<=85) {xs:List α} {n:Nat} (c:xs.length=n) (k:Nat):((xs.take k).flatMap enc).length<=85*n:=by
 have a:=iW h (xs.take k);have b:(xs.take k).length<=n:=by rw [List.length_take]; omega
 omega
def mL (jobs:List aC) (nodes:List av) (leases:List ak) (v:Int):List UInt8:=fZ (fun x=>eK x v) jobs ++ fZ (fun x=>cX x v) nodes ++ fZ eH leases
theorem B6 (jobs:List aC) (nodes:List av) (leases:List ak) (O:Option Addr) (a cj:Nat) (Q:Option Addr) (b cn:Nat) (P:Option Addr) (d cl:Nat) (v:Int) (w:World)
 (Y:bC w w 5 O a (au aS jobs)) (lj:jobs.length=a) (bj:a<=1000) (wj:∀ x ∈ jobs,uF x)
 (hn:bC w w 3 Q b (au aH nodes)) (ln:nodes.length=b) (bn:b<=1000) (wn:∀ x ∈ nodes,p8 x)
 (hl:bC w w 3 P d (au aB leases)) (ll:leases.length=d) (bl:d<=1000) (wl:∀ x ∈ leases,vB x)
 : ψ 62 #[.slice O a cj,.slice Q b cn,.slice P d cl,v] w (gq (mL jobs nodes leases v) w):=by
 have Hj:=ω Y;have L:=ω lj;have Wj:=ω wj;have Hn:=ω hn;have N:=ω ln;have Wn:=ω wn;have Hl:=ω hl;have M:=ω ll;have Wl:=ω wl;have bE:=ω (show mL jobs nodes leases v=bg a ++ (jobs.take a).flatMap (fun x=>eK x v) ++ bg b ++ (nodes.take b).flatMap (fun x=>cX x v) ++ bg d ++ (leases.take d).flatMap eH from by unfold mL fZ; rw [<- lj,<- ln,<- ll,List.take_length,List.take_length,List.take_length]; simp only [List.append_assoc]);have H:=ω (take_len (enc:=fun x=>eK x v) (fun x=>mH x v) lj);have J:=ω (take_len (enc:=fun x=>cX x v) (fun x=>kU x v) ln);have aw:=ω (take_len (enc:=eH) kC ll);have F:=ω (bT a);have al:=ω (fun W=>jJ (a:Int) W (by omega));have I:=ω (bT b);have ao:=ω (fun W=>jJ (b:Int) W (by omega));have K:=ω (bT d);have am:=ω (fun W=>jJ (d:Int) W (by omega));clear Y lj wj hn ln wn hl ll wl;go_enter Tryz.func62,Tryz.ntmps62
 go_wp2_with fail
 refine Calls.mono (al.z _) ?_;rintro B v0 ⟨rfl,U⟩;rw [show ((a:Int)).toNat=a from by omega];have ax:=ω U;clear U;have j:(bs (bg a)).size<=17:=by rw [dB]; exact F
 generalize c:bs (bg a)=T0 at j;have ap:=ω c;clear c;go_wp2
 go_loopw [9,11,21] (fun E _ m wr=>Ma (fun x=>eK x v) jobs a (bg a) w E m wr) (fun _ _ m _=>a - (intOf m).toNat)
 case atStart=>exact⟨0,_,Nat.zero_le _,rfl,rfl,by rw [<- ap.z]; simp,ax⟩
 case round=>
  obtain⟨k,S,Z,rfl,rfl,i,e⟩:=hrel;have G:S.size<=300000:=by rw [i,dB]; simp only [List.length_append]; have q1:=F.z; have q2:=H.z k; omega
  have n:=ω i;have g:=ω e;have ab:=e.size;clear i;by_cases hlt:k<a
  · obtain⟨x,h⟩:∃ x,jobs[k]? = some x:=⟨_,gO (by rw [L.z]; exact hlt)⟩;obtain⟨z,ad,rfl,X,q⟩:=(Hj.below e).eC aT L.z h;have C:=ω (Wj.z x (m8 h));have y:=ω (iX (fun x=>eK x v) h);have j:(bs ((fun x=>eK x v) x)).size<=85:=by rw [dB]; exact (fun x=>mH x v) x
    generalize c:bs ((fun x=>eK x v) x)=T at j;have o:=ω c;obtain⟨D,ae,ac,ai,ag⟩:=x;obtain⟨c0,R,c2,c3,c4⟩:=rc5 q;have aa:z<wr.heap.size:=by omega
    have p:=ω (g.alloc g.size (.cells #[D,ae,ac,ai,ag] 85));clear q h e c
    go_wp2_with fail
    refine Calls.mono (Mb ⟨D,ae,ac,ai,ag⟩ v _ C.z) ?_;rintro B w2 ⟨rfl,l⟩;have r:=o.z;rw [r];have s:=ω (p.trans (l.mono p.size));clear l r;go_wp2
    go_roundw
    case rel=>exact⟨k+1,S ++ T,by omega,by go_num,rfl,by rw [n.z,<- o.z,fA,y.z,List.append_assoc],s.z⟩
    case measure=>simp [intOf]; omega
  · obtain rfl:a=k:=by omega
    have u:=n
    go_wp2_with fail
    refine Calls.mono (ao.z _) ?_;rintro B v1 ⟨rfl,V⟩;rw [show ((b:Int)).toNat=b from by omega];have ay:=ω (g.trans (V.mono g.size));clear V;have j:(bs (bg b)).size<=17:=by rw [dB]; exact I
    generalize c:bs (bg b)=T1 at j;have aq:=ω c;clear c;go_wp2
    go_loopw [9,13,38] (fun E _ m wr=>Ma (fun x=>cX x v) nodes b (bg a ++ (jobs.take a).flatMap (fun x=>eK x v) ++ bg b) w E m wr) (fun _ _ m _=>b - (intOf m).toNat)
    case atStart=>exact⟨0,_,Nat.zero_le _,rfl,rfl,by rw [<- aq.z,u.z,fA]; simp,ay⟩
    case round=>
     clear e g u n G hlt;obtain⟨k,S,Z,rfl,rfl,i,e⟩:=hrel;have G:S.size<=300000:=by rw [i,dB]; simp only [List.length_append]; have q1:=F.z; have q2:=H.z a; have q3:=I.z; have q4:=J.z k; omega
     have n:=ω i;have g:=ω e;have ab:=e.size;clear i;by_cases hlt:k<b
     · obtain⟨x,h⟩:∃ x,nodes[k]? = some x:=⟨_,gO (by rw [N.z]; exact hlt)⟩;obtain⟨z,ad,rfl,X,q⟩:=(Hn.below e).eC aO N.z h;have C:=ω (Wn.z x (m8 h));have y:=ω (iX (fun x=>cX x v) h);have j:(bs ((fun x=>cX x v) x)).size<=85:=by rw [dB]; exact (fun x=>kU x v) x
       generalize c:bs ((fun x=>cX x v) x)=T at j;have o:=ω c;obtain⟨D,af,aj⟩:=x;obtain⟨c0,R,c2⟩:=rc3 q;have aa:z<wr.heap.size:=by omega
       have p:=ω (g.alloc g.size (.cells #[D,af,aj] 70));clear q h e c
       go_wp2_with fail
       refine Calls.mono (JI ⟨D,af,aj⟩ v _ C.z) ?_;rintro B w2 ⟨rfl,l⟩;have r:=o.z;rw [r];have s:=ω (p.trans (l.mono p.size));clear l r;go_wp2
       go_roundw
       case rel=>exact⟨k+1,S ++ T,by omega,by go_num,rfl,by rw [n.z,<- o.z,fA,y.z,List.append_assoc],s.z⟩
       case measure=>simp [intOf]; omega
     · obtain rfl:b=k:=by omega
       have u:=n
       go_wp2_with fail
       refine Calls.mono (am.z _) ?_;rintro B v2 ⟨rfl,l⟩;rw [show ((d:Int)).toNat=d from by omega];have az:=ω (g.trans (l.mono g.size));clear l;have j:(bs (bg d)).size<=17:=by rw [dB]; exact K
       generalize c:bs (bg d)=T2 at j;have ar:=ω c;clear c;go_wp2
       go_loopw [9,15,55] (fun E _ m wr=>Ma eH leases d (bg a ++ (jobs.take a).flatMap (fun x=>eK x v) ++ bg b ++ (nodes.take b).flatMap (fun x=>cX x v) ++ bg d) w E m wr) (fun _ _ m _=>d - (intOf m).toNat)
       case atStart=>exact⟨0,_,Nat.zero_le _,rfl,rfl,by rw [<- ar.z,u.z,fA]; simp,az⟩
       case round=>
        clear e g u n G hlt;obtain⟨k,S,Z,rfl,rfl,i,e⟩:=hrel;have G:S.size<=300000:=by rw [i,dB]; simp only [List.length_append]; have q1:=F.z; have q2:=H.z a; have q3:=I.z; have q4:=J.z b; have q5:=K.z; have q6:=aw.z k; omega
        have n:=ω i;have g:=ω e;have ab:=e.size;clear i;by_cases hlt:k<d
        · obtain⟨x,h⟩:∃ x,leases[k]? = some x:=⟨_,gO (by rw [M.z]; exact hlt)⟩;obtain⟨z,ad,rfl,X,q⟩:=(Hl.below e).eC aI M.z h;have C:=ω (Wl.z x (m8 h));have y:=ω (iX eH h);have j:(bs (eH x)).size<=85:=by rw [dB]; exact kC x
          generalize c:bs (eH x)=T at j;have o:=ω c;obtain⟨job,node,ah⟩:=x;obtain⟨c0,R,c2⟩:=rc3 q;have aa:z<wr.heap.size:=by omega
          have p:=ω (g.alloc g.size (.cells #[job,node,ah] 66));clear q h e c
          go_wp2_with fail
          refine Calls.mono (GE ⟨job,node,ah⟩ _ C.z) ?_;rintro B w2 ⟨rfl,l⟩;have r:=o.z;rw [r];have s:=ω (p.trans (l.mono p.size));clear l r;go_wp2
          go_roundw
          case rel=>exact⟨k+1,S ++ T,by omega,by go_num,rfl,by rw [n.z,<- o.z,fA,y.z,List.append_assoc],s.z⟩
          case measure=>simp [intOf]; omega
        · obtain rfl:d=k:=by omega
          go_wp2;go_ret;exact⟨kS (by rw [bE.z]; exact n),g⟩
end Go.Proofs.YtimglglgcgpjgaaGreatDoor
