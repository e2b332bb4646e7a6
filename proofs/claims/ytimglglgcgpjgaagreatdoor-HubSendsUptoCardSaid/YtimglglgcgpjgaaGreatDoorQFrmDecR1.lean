/- Of the proof of a statement: FrmDec, FrmDecR1, FrmDecR. -/
import Derived.Deep.DeepCutAuto
import Derived.Lib.QuietBelow
import Derived.Test.YtimglglgcgpjgaaGreatDoorQPlApply
set_option linter.unusedVariables false
set_option linter.unusedSimpArgs false
set_option maxRecDepth 100000
set_option maxHeartbeats 8000000
namespace Go.Proofs.YtimglglgcgpjgaaGreatDoor
open Go.RowKit
open Go.Sort (grow)
def Ot (f:cM):Value:=.agg #[f.ver,f.kind,f.pay]
def MT (s:ByteArray):Value:=.tuple #[Ot (jK s).1,((jK s).2.1:Int),((jK s).2.2:Int)]
def eP (s:ByteArray) (w:World) (e:Ending) (w':World):Prop:=e = .returned (MT s)/\Below w w w'
theorem eP.mk' {s:ByteArray} {w w':World} {f:cM} {n e:Nat} (h:jK s=(f,n,e)) (a:Below w w w'):eP s w (.returned (.tuple #[.agg #[f.ver,f.kind,f.pay],(n:Int),(e:Int)])) w':=⟨by unfold MT; rw [h]; rfl,a⟩
theorem mS (n:Int) (w:World):ψ 71 #[n] w fun e a=>e = .returned (.tuple #[.agg #[(0:Int),(0:Int),.string ⟨#[]⟩],(0:Int),n])/\w.alloc (.cells #[(0:Int),(0:Int),.string ⟨#[]⟩] 78)=a:=by
 go_enter Tryz.func71,Tryz.ntmps71;go_wp2;refine bodyPost_ret (v:=.tuple #[.agg #[.int .i64 0,.int .i64 0,.string ⟨#[]⟩],.int .i64 0,.int .i64 n]) (by simp [results,Tryz.results71,go_sem]) rfl ⟨rfl,rfl⟩
theorem fQ {s:ByteArray} {k:Nat} (h:k<s.size) (W:World):(Instr.index 9 (.string s) (.int .i64 (k:Int))).run Tryz.prog W = .ok (.int .u8 ((aD s k:Nat):Int)) W:=jq h (I0 h).symm W
theorem MU (W:World):(Instr.index 9 (.string ⟨#[66,75]⟩) (.int .i64 0)).run Tryz.prog W = .ok (.int .u8 66) W:=jq (s:=⟨#[66,75]⟩) (k:=0) (c:=66) (by decide) rfl W
theorem MV (W:World):(Instr.index 9 (.string ⟨#[66,75]⟩) (.int .i64 1)).run Tryz.prog W = .ok (.int .u8 75) W:=jq (s:=⟨#[66,75]⟩) (k:=1) (c:=75) (by decide) rfl W
def HInv (s:ByteArray) (m:Nat) (i:Value):Prop:=∃ k:Nat,k<=m/\k<=4/\k<=s.size/\i = .int .i64 k/\iZ s k
theorem MW (s:ByteArray) (w:World) (hs:s.size<=9223372036854775807) :
 ψ 41 #[s] w (eP s w):=by
 have B:=ω (fun (ag:Nat) (h:nE s=ag) (hc:ag≠0) (a:World)=>eP.mk' (w:=w) (w':=a) (B9 h hc));obtain⟨m,q⟩:∃ m:Nat,m=min s.size 4:=⟨_,rfl⟩;have X:m<=s.size:=by omega
 have au:m<=4:=by omega
 have L:=ω (show s.size<=4->m=s.size from by omega);have af:=ω (show 4<s.size->m=4 from by omega);clear q;go_enter Tryz.func41,Tryz.ntmps41
 go_upto_region 2 with fail
 go_cut [15,16] (fun x aq wx=>x = .int .i64 (m:Int)/\aq = .int .i64 0/\wx=w.alloc (.cells #[(0:Int),(0:Int),.string ⟨#[]⟩] 78))
 case first=>
  by_cases S:s.size<=4
  · have e:=ω (L.z S);go_wp2
    go_meet
    exact⟨by have:=e.z; first | (rw [this]; done) | (rw [this]; congr 1; omega),rfl,rfl⟩
  · have e:=ω (af.z (by omega));go_wp2
    go_meet
    exact⟨by have:=e.z; first | (rw [this]; done) | (rw [this]; rfl) | (rw [this]; congr 1; omega),rfl,rfl⟩
 case rest=>
  obtain⟨rfl,rfl,rfl⟩:=hcut
  go_wp2_with fail
  go_loop [3,4,6,7,16,22,36] (fun _ _ _ _ aa _ _=>HInv s m aa) (fun _ _ _ _ aa _ _=>4 - (intOf aa).toNat)
  case atStart=>exact⟨0,by omega,by omega,by omega,rfl,iZ.zero s⟩
  case round=>
   obtain⟨k,al,ak,am,rfl,ht⟩:=hrel;have d:=ω ht;clear ht;by_cases hlt:k<m
   · have g:k<s.size:=by omega
     have ar:=qN s k;have o:=fQ g;rcases (show k=0\/k=1\/k=2\/k=3 from by omega) with rfl | rfl | rfl | rfl
     · have K:∀ W:World,(Instr.index 9 (.string s) (.int .i64 0)).run Tryz.prog W = .ok (.int .u8 ((aD s 0:Nat):Int)) W:=o;clear o;have Hm:=MU;by_cases c:aD s 0=66
       · have C:((aD s 0:Int) != 66)=false:=by simp; omega
         have r:=ω (show iZ s 1 from ⟨fun _=>⟨g,c⟩,fun h=>absurd h (by omega),fun h=>absurd h (by omega),fun h=>absurd h (by omega)⟩);clear c;go_wp2
         go_round
         case rel=>exact⟨1,by omega,by omega,by omega,rfl,r.z⟩
         case measure=>simp [intOf]
       · have C:((aD s 0:Int) != 66)=true:=by simp; omega
         have b:=ω (B.z 4 (KH g c) (by omega));clear c
         go_wp2_with (go_at_call 71; refine (mS _ _).mono ?_; rintro e a ⟨rfl,rfl⟩)
         refine bodyPost_ret (v:=.tuple #[.agg #[.int .i64 0,.int .i64 0,.string ⟨#[]⟩],.int .i64 0,.int .i64 4]) (by simp [results,Tryz.results41,go_sem]) rfl ?_;exact b.z _ (((θ).alloc lJ _).alloc (by simp) _)
     · have K:∀ W:World,(Instr.index 9 (.string s) (.int .i64 1)).run Tryz.prog W = .ok (.int .u8 ((aD s 1:Nat):Int)) W:=o;clear o;have Hm:=MV;by_cases c:aD s 1=75
       · have C:((aD s 1:Int) != 75)=false:=by simp; omega
         have r:=ω (show iZ s 2 from ⟨fun _=>d.h0 (by omega),fun _=>⟨g,c⟩,fun h=>absurd h (by omega),fun h=>absurd h (by omega)⟩);clear c;go_wp2
         go_round
         case rel=>exact⟨2,by omega,by omega,by omega,rfl,r.z⟩
         case measure=>simp [intOf]
       · have C:((aD s 1:Int) != 75)=true:=by simp; omega
         have b:=ω (B.z 4 (KI d.z g c) (by omega));clear c
         go_wp2_with (go_at_call 71; refine (mS _ _).mono ?_; rintro e a ⟨rfl,rfl⟩)
         refine bodyPost_ret (v:=.tuple #[.agg #[.int .i64 0,.int .i64 0,.string ⟨#[]⟩],.int .i64 0,.int .i64 4]) (by simp [results,Tryz.results41,go_sem]) rfl ?_;exact b.z _ (((θ).alloc lJ _).alloc (by simp) _)
     · have K:∀ W:World,(Instr.index 9 (.string s) (.int .i64 2)).run Tryz.prog W = .ok (.int .u8 ((aD s 2:Nat):Int)) W:=o;clear o;by_cases c:1<=aD s 2/\aD s 2<=3
       · have r:=ω (show iZ s 3 from ⟨fun _=>d.h0 (by omega),fun _=>d.h1 (by omega),fun _=>⟨g,c.1,c.2⟩,fun h=>absurd h (by omega)⟩);have u:=ω (show (1:Int)<=(aD s 2:Int) from by omega);have M:=ω (show (aD s 2:Int)<=3 from by omega);clear c
         go_wp2_with (go_at_call 72; refine (nN _ u.z M.z _).mono ?_; rintro e a ⟨rfl,rfl⟩)
         go_round
         case rel=>exact⟨3,by omega,by omega,by omega,rfl,r.z⟩
         case measure=>simp [intOf]
       · have b:=ω (B.z 1 (KJ d.z g (by omega)) (by omega));have u:=ω (show (aD s 2:Int)<1\/3<(aD s 2:Int) from by omega);clear c
         go_wp2_with (first | (go_at_call 72; refine (wJ _ u.z _).mono ?_; rintro e a ⟨rfl,rfl⟩) | (go_at_call 71; refine (mS _ _).mono ?_; rintro e a ⟨rfl,rfl⟩))
         refine bodyPost_ret (v:=.tuple #[.agg #[.int .i64 0,.int .i64 0,.string ⟨#[]⟩],.int .i64 0,.int .i64 1]) (by simp [results,Tryz.results41,go_sem]) rfl ?_;exact b.z _ (((θ).alloc lJ _).alloc (by simp) _)
     · have K:∀ W:World,(Instr.index 9 (.string s) (.int .i64 3)).run Tryz.prog W = .ok (.int .u8 ((aD s 3:Nat):Int)) W:=o;clear o;by_cases c:1<=aD s 3/\aD s 3<=4
       · have r:=ω (show iZ s 4 from ⟨fun _=>d.h0 (by omega),fun _=>d.h1 (by omega),fun _=>d.h2 (by omega),fun _=>⟨g,c.1,c.2⟩⟩);have u:=ω (show (1:Int)<=(aD s 3:Int) from by omega);have M:=ω (show (aD s 3:Int)<=4 from by omega);clear c
         go_wp2_with (go_at_call 73; refine (vA _ u.z M.z _).mono ?_; rintro e a ⟨rfl,rfl⟩)
         go_round
         case rel=>exact⟨4,by omega,by omega,by omega,rfl,r.z⟩
         case measure=>simp [intOf]
       · have b:=ω (B.z 1 (KK d.z g (by omega)) (by omega));have u:=ω (show (aD s 3:Int)<1\/4<(aD s 3:Int) from by omega);clear c
         go_wp2_with (first | (go_at_call 73; refine (Ca _ u.z _).mono ?_; rintro e a ⟨rfl,rfl⟩) | (go_at_call 71; refine (mS _ _).mono ?_; rintro e a ⟨rfl,rfl⟩))
         refine bodyPost_ret (v:=.tuple #[.agg #[.int .i64 0,.int .i64 0,.string ⟨#[]⟩],.int .i64 0,.int .i64 1]) (by simp [results,Tryz.results41,go_sem]) rfl ?_;exact b.z _ (((θ).alloc lJ _).alloc (by simp) _)
   · by_cases S:s.size<4
     · have b:=ω (B.z 3 (pK d.z (by have:=L.z (by omega); omega) S) (by omega))
       go_wp2_with (go_at_call 71; refine (mS _ _).mono ?_; rintro e a ⟨rfl,rfl⟩)
       refine bodyPost_ret (v:=.tuple #[.agg #[.int .i64 0,.int .i64 0,.string ⟨#[]⟩],.int .i64 0,.int .i64 3]) (by simp [results,Tryz.results41,go_sem]) rfl ?_;exact b.z _ (((θ).alloc lJ _).alloc (by simp) _)
     · have hk:k=4:=by
        by_cases h:s.size<=4
        · have:=L.z h; omega
        · have:=af.z (by omega); omega
       subst hk;have z:=ω (zR d.z);have ah:=ω (d.h2 (by omega));have ai:=ω (d.h3 (by omega));have E:=ω (show (s.extract 4 s.size).size<=9223372036854775807 from by rw [ByteArray.size_extract]; omega);obtain⟨n,k,x,Y⟩:∃ n k x,rdNum (s.extract 4 s.size)=(n,k,x):=⟨_,_,_,rfl⟩;have l:=ω Y;obtain⟨D,f2,f3,Q⟩:=gW Y;clear Y hlt al ak am d;by_cases hx:x=0
       · subst hx;have R:=Q rfl;clear Q f3;have f6:k<=s.size - 4:=by have:=R.2; rw [ByteArray.size_extract] at this; omega
         have f7:=R.1;clear R;by_cases H:6000<n
         · have b:=ω (fun (a:World)=>eP.mk' (w:=w) (w':=a) (AB z.z.1 l.z H));clear D
           go_wp2_with (first | (go_at_call 74; refine (tY l.z _ E.z).mono ?_; rintro e a ⟨rfl,rfl⟩) | (go_at_call 71; refine (mS _ _).mono ?_; rintro e a ⟨rfl,rfl⟩))
           refine bodyPost_ret (v:=.tuple #[.agg #[.int .i64 0,.int .i64 0,.string ⟨#[]⟩],.int .i64 0,.int .i64 2]) (by simp [results,Tryz.results41,go_sem]) rfl ?_;exact b.z _ (((θ).alloc lJ _).alloc (by simp) _)
         · by_cases V:s.size<8+k+n
           · have b:=ω (fun (a:World)=>eP.mk' (w:=w) (w':=a) (AD z.z.1 l.z H V));clear D
             go_wp2_with (first | (go_at_call 74; refine (tY l.z _ E.z).mono ?_; rintro e a ⟨rfl,rfl⟩) | (go_at_call 71; refine (mS _ _).mono ?_; rintro e a ⟨rfl,rfl⟩))
             refine bodyPost_ret (v:=.tuple #[.agg #[.int .i64 0,.int .i64 0,.string ⟨#[]⟩],.int .i64 0,.int .i64 3]) (by simp [results,Tryz.results41,go_sem]) rfl ?_;exact b.z _ (((θ).alloc lJ _).alloc (by simp) _)
           · clear D
             go_wp2_with (go_at_call 74; refine (tY l.z _ E.z).mono ?_; rintro e a ⟨rfl,rfl⟩)
             have ap:=run_slice_string_to_if (P:=Tryz.prog) (w:=w) 9 s .i64 (4+(k:Int)+n) Tryz.underlying9
             have q1:∀ W:World,(Instr.slice 9 (.string s) none (some (.int .i64 (4+(k:Int)+n))) none).run Tryz.prog W = .ok (.string (s.extract 0 (4+k+n))) W:=fun W=>by
              rw [run_slice_string_to_if (P:=Tryz.prog) (w:=W) 9 s .i64 (4+(k:Int)+n) Tryz.underlying9,if_pos ⟨by omega,by omega⟩,show (4+(k:Int)+n).toNat=4+k+n from by omega]
             have q2:∀ W:World,(Instr.slice 9 (.string s) (some (.int .i64 (4+(k:Int)+n))) (some (.int .i64 (4+(k:Int)+n+4))) none).run Tryz.prog W = .ok (.string (s.extract (4+k+n) (8+k+n))) W:=fun W=>by
              rw [run_slice_string W 9 s .i64 .i64 (4+(k:Int)+n) (4+(k:Int)+n+4) Tryz.underlying9 (by omega) (by omega) (by omega),show (4+(k:Int)+n).toNat=4+k+n from by omega,show (4+(k:Int)+n+4).toNat=8+k+n from by omega]
             have q3:IntKind.i64.wrap (4+(k:Int)+n+4)=4+(k:Int)+n+4:=by rw [IntKind.wrap_i64]; omega
             have q4:=ω (show (s.extract 0 (4+k+n)).size<=9223372036854775807 from by rw [ByteArray.size_extract]; omega);generalize Z:w.alloc (.cells #[(0:Int),(0:Int),.string ⟨#[]⟩] 78)=J;have U:=ω (show Below w w J from by rw [<- Z]; exact (θ).alloc lJ _);have T:=ω (show Blk J w 78 #[(0:Int),(0:Int),.string ⟨#[]⟩] from by rw [<- Z]; exact n5 _ _);clear Z ap;refine wp_region_quiet_below (by kernel_rfl) (by kernel_rfl) ?_
             repeat (quiet_step ((go_at_call 75; exact Calls.regrown_of (D6 _ _ q4.z))))
             refine wpQuiet_nil ?_;intro _ ao;obtain⟨⟨nq,osq⟩,hw''⟩:=ao;subst hw'';have I:=below_regrown J nq osq;dsimp only;generalize grow (redrawn J nq) osq=y at I;have F:=ω (U.trans (I.mono U.size));have i:Blk y w 78 #[(0:Int),(0:Int),.string ⟨#[]⟩]:=T.below I T.lt;have z0:ζ y w 0 (.int .i64 0):=i.cell 0;have z1:ζ y w 1 (.int .i64 0):=i.cell 1;have z2:ζ y w 2 (.string ⟨#[]⟩):=i.cell 2;have t0:=i.thaw 0;have t1:=i.thaw 1;have t2:=i.thaw 2;have hlt:=i.lt;have aj:(s.extract 0 (4+k+n)).data.toList=List.take (4+k+n) s.data.toList:=by rw [Lib.extract_data]; simp
             have X:=ByteArray.toList_eq (s.extract (4+k+n) (8+k+n));have ad:=ω aj;have ae:=ω X;have ac:=ω i;clear i I aj X U T q1 q2;by_cases q:(s.extract (4+k+n) (8+k+n)).data.toList=pC (s.extract 0 (4+k+n)).data.toList
             · have b:=ω (fun (a:World)=>eP.mk' (w:=w) (w':=a) (D7 z.z.1 l.z H V q));have N:(pC (List.take (4+k+n) s.data.toList) == (s.extract (4+k+n) (8+k+n)).toList)=true:=by rw [beq_iff_eq,ae.z,q,ad.z]
               have i2:∀ W:World,(Instr.index 9 (.string s) (.int .i64 2)).run Tryz.prog W = .ok (.int .u8 ((aD s 2:Nat):Int)) W:=fQ ah.z.1;have i3:∀ W:World,(Instr.index 9 (.string s) (.int .i64 3)).run Tryz.prog W = .ok (.int .u8 ((aD s 3:Nat):Int)) W:=fQ ai.z.1
               have q5:∀ W:World,(Instr.slice 9 (.string s) (some (.int .i64 (4+(k:Int)))) (some (.int .i64 (4+(k:Int)+n))) none).run Tryz.prog W = .ok (.string (s.extract (4+k) (4+k+n))) W:=fun W=>by
                rw [run_slice_string W 9 s .i64 .i64 (4+(k:Int)) (4+(k:Int)+n) Tryz.underlying9 (by omega) (by omega) (by omega),show (4+(k:Int)).toNat=4+k from by omega,show (4+(k:Int)+n).toNat=4+k+n from by omega]
               have v2:IntKind.i64.wrap (aD s 2:Int)=aD s 2:=by rw [IntKind.wrap_i64]; have:=ah.z; omega
               have v3:IntKind.i64.wrap (aD s 3:Int)=aD s 3:=by rw [IntKind.wrap_i64]; have:=ai.z; omega
               have O:(!(pC (List.take (4+k+n) s.data.toList) == (s.extract (4+k+n) (8+k+n)).toList))=false:=by rw [N]; rfl
               have j:Blk ((((y.setCell ⟨w,0,none⟩ (.int .i64 (aD s 2))).setCell ⟨w,1,none⟩ (.int .i64 (aD s 3))).setCell ⟨w,2,none⟩ (.string (s.extract (4+k) (4+k+n)))).drew) w 78 #[(aD s 2),(aD s 3),.string (s.extract (4+k) (4+k+n))]:=(((ac.set 0 _).set 1 _).set 2 _).below (θ).drew (by have:=hlt; simp [World.setCell]; omega);have G:=ω (((F.setCell (p:=⟨w,0,none⟩) lJ (.int .i64 (aD s 2))).setCell (p:=⟨w,1,none⟩) lJ (.int .i64 (aD s 3))).setCell (p:=⟨w,2,none⟩) lJ (.string (s.extract (4+k) (4+k+n)))).drew;have y0:=j.cell 0;have y1:=j.cell 1;have y2:=j.cell 2;clear q j;rw [O];go_wp2
               go_region
               go_wp2;refine bodyPost_ret (v:=.tuple #[.agg #[.int .i64 (aD s 2),.int .i64 (aD s 3),.string (s.extract (4+k) (4+k+n))],.int .i64 (4+(k:Int)+n+4),.int .i64 0]) (by simp [results,Tryz.results41,go_sem,y0,y1,y2]) rfl ?_;rw [show (4+(k:Int)+n+4)=((8+k+n:Nat):Int) from by omega];exact b.z _ G.z
             · have b:=ω (fun (a:World)=>eP.mk' (w:=w) (w':=a) (D8 z.z.1 l.z H V q))
               have N:(pC (List.take (4+k+n) s.data.toList) == (s.extract (4+k+n) (8+k+n)).toList)=false:=by
                rw [beq_eq_false_iff_ne,ae.z]; intro h; exact q (by rw [<- h,ad.z])
               have O:(!(pC (List.take (4+k+n) s.data.toList) == (s.extract (4+k+n) (8+k+n)).toList))=true:=by rw [N]; rfl
               have G:∀ (ab:Obj),Below w w (y.alloc ab):=fun ab=>F.alloc (F.size) ab;have j:Blk ((((y.setCell ⟨w,0,none⟩ (.int .i64 0)).setCell ⟨w,1,none⟩ (.int .i64 0)).setCell ⟨w,2,none⟩ (.string ⟨#[]⟩)).alloc (.cells #[(0:Int),(0:Int),.string ⟨#[]⟩] 78)) w 78 #[(0:Int),(0:Int),.string ⟨#[]⟩]:=(((ac.set 0 _).set 1 _).set 2 _).alloc _;have G:=ω ((((F.setCell (p:=⟨w,0,none⟩) lJ (.int .i64 0)).setCell (p:=⟨w,1,none⟩) lJ (.int .i64 0)).setCell (p:=⟨w,2,none⟩) lJ (.string ⟨#[]⟩)).alloc (by have:=hlt; simp [World.setCell]; omega) (.cells #[(0:Int),(0:Int),.string ⟨#[]⟩] 78));have y0:=j.cell 0;have y1:=j.cell 1;have y2:=j.cell 2;clear q j;rw [O]
               go_wp2_with (go_at_call 71; refine (mS _ _).mono ?_; rintro e a ⟨rfl,rfl⟩)
               refine bodyPost_ret (v:=.tuple #[.agg #[.int .i64 0,.int .i64 0,.string ⟨#[]⟩],.int .i64 0,.int .i64 5]) (by simp [results,Tryz.results41,go_sem,y0,y1,y2]) rfl ?_;exact b.z _ G.z
       · have b:=ω (fun (a:World)=>eP.mk' (w:=w) (w':=a) (D9 z.z.1 l.z hx));have C:((x:Int) != 0)=true:=by simp; omega
         clear hx Q D
         go_wp2_with (first | (go_at_call 74; refine (tY l.z _ E.z).mono ?_; rintro e a ⟨rfl,rfl⟩) | (go_at_call 71; refine (mS _ _).mono ?_; rintro e a ⟨rfl,rfl⟩))
         refine bodyPost_ret (v:=.tuple #[.agg #[.int .i64 0,.int .i64 0,.string ⟨#[]⟩],.int .i64 0,.int .i64 x]) (by simp [results,Tryz.results41,go_sem]) rfl ?_;exact b.z _ (((θ).alloc lJ _).alloc (by simp) _)
theorem gV (n:Int) (w:World):ψ 88 #[n] w fun e a=>e = .returned (.tuple #[.agg #[(0:Int),(0:Int),.string ⟨#[]⟩],(0:Int),n])/\w.alloc (.cells #[(0:Int),(0:Int),.string ⟨#[]⟩] 78)=a:=by
 go_enter Tryz.func88,Tryz.ntmps88;go_wp2;refine bodyPost_ret (v:=.tuple #[.agg #[.int .i64 0,.int .i64 0,.string ⟨#[]⟩],.int .i64 0,.int .i64 n]) (by simp [results,Tryz.results88,go_sem]) rfl ⟨rfl,rfl⟩
theorem I1 (s:ByteArray) (w:World) (K:s.size<=9223372036854775807) (G:nE s≠0) :
 ψ 47 #[s] w (eP s w):=by
 have l:=ω (fun (D:Nat) (h:nE s=D) (J:D≠0) (d:World)=>eP.mk' (w:=w) (w':=d) (B9 h J));have I:=ω G;clear G;by_cases e:0<s.size/\aD s 0≠66
 · have b:=ω (l.z 4 (KH e.1 e.2) (by omega));have g:=e.1;have o:((aD s 0:Int) != 66)=true:=by have:=e.2; simp; omega
   have p:∀ W:World,(Instr.index 9 (.string s) (.int .i64 0)).run Tryz.prog W = .ok (.int .u8 ((aD s 0:Nat):Int)) W:=fQ (k:=0) (by omega);have n:decide ((0:Int)<(s.size:Int))=true:=t8 (by omega);clear e;go_enter Tryz.func47,Tryz.ntmps47
   go_wp2_with fail
   refine Calls.mono (gV _ _) ?_;rintro i d ⟨rfl,rfl⟩;go_wp2;refine bodyPost_ret (v:=.tuple #[.agg #[.int .i64 0,.int .i64 0,.string ⟨#[]⟩],.int .i64 0,.int .i64 4]) (by simp [results,Tryz.results47,go_sem]) rfl ?_;exact b.z _ (by repeat (first | exact θ | refine Below.alloc ?_ (by first | (simp; done) | (simp; omega)) _ | refine Below.setCell ?_ (by first | (simp; done) | (simp; omega)) _))
 by_cases g:1<s.size/\aD s 1≠75
 · have c:aD s 0=66:=by omega
   have a:iZ s 1:=⟨fun _=>⟨by omega,c⟩,fun h=>absurd h (by omega),fun h=>absurd h (by omega),fun h=>absurd h (by omega)⟩;have b:=ω (l.z 4 (KI a g.1 g.2) (by omega));have m:=g.1;have E:((aD s 1:Int) != 75)=true:=by have:=g.2; simp; omega
   have o:((aD s 0:Int) != 66)=false:=by simp; omega
   have x:((aD s 0:Int) == 66)=true:=by simp; omega
   have p:∀ W:World,(Instr.index 9 (.string s) (.int .i64 0)).run Tryz.prog W = .ok (.int .u8 ((aD s 0:Nat):Int)) W:=fQ (k:=0) (by omega);have H:∀ W:World,(Instr.index 9 (.string s) (.int .i64 1)).run Tryz.prog W = .ok (.int .u8 ((aD s 1:Nat):Int)) W:=fQ (k:=1) (by omega);have n:decide ((0:Int)<(s.size:Int))=true:=t8 (by omega);have q:decide ((1:Int)<(s.size:Int))=true:=t8 (by omega);clear e g a c;go_enter Tryz.func47,Tryz.ntmps47
   go_wp2_with fail
   refine Calls.mono (gV _ _) ?_;rintro i d ⟨rfl,rfl⟩;go_wp2;refine bodyPost_ret (v:=.tuple #[.agg #[.int .i64 0,.int .i64 0,.string ⟨#[]⟩],.int .i64 0,.int .i64 4]) (by simp [results,Tryz.results47,go_sem]) rfl ?_;exact b.z _ (by repeat (first | exact θ | refine Below.alloc ?_ (by first | (simp; done) | (simp; omega)) _ | refine Below.setCell ?_ (by first | (simp; done) | (simp; omega)) _))
 by_cases P:s.size=0
 · have a:iZ s 0:=⟨fun h=>absurd h (by omega),fun h=>absurd h (by omega),fun h=>absurd h (by omega),fun h=>absurd h (by omega)⟩;have b:=ω (l.z 3 (pK a (by omega) (by omega)) (by omega));have n:decide ((0:Int)<(s.size:Int))=false:=fK (by omega);have q:decide ((1:Int)<(s.size:Int))=false:=fK (by omega);have y:decide ((2:Int)<(s.size:Int))=false:=fK (by omega);have r:decide ((3:Int)<(s.size:Int))=false:=fK (by omega);have z:decide ((s.size:Int)<4)=true:=t8 (by omega);clear a e g;go_enter Tryz.func47,Tryz.ntmps47
   go_wp2_with fail
   refine Calls.mono (gV _ _) ?_;rintro i d ⟨rfl,rfl⟩;go_wp2;refine bodyPost_ret (v:=.tuple #[.agg #[.int .i64 0,.int .i64 0,.string ⟨#[]⟩],.int .i64 0,.int .i64 3]) (by simp [results,Tryz.results47,go_sem]) rfl ?_;exact b.z _ (by repeat (first | exact θ | refine Below.alloc ?_ (by first | (simp; done) | (simp; omega)) _ | refine Below.setCell ?_ (by first | (simp; done) | (simp; omega)) _))
 by_cases Q:s.size=1
 · have c:aD s 0=66:=by omega
   have a:iZ s 1:=⟨fun _=>⟨by omega,c⟩,fun h=>absurd h (by omega),fun h=>absurd h (by omega),fun h=>absurd h (by omega)⟩;have b:=ω (l.z 3 (pK a (by omega) (by omega)) (by omega));have o:((aD s 0:Int) != 66)=false:=by simp; omega
   have x:((aD s 0:Int) == 66)=true:=by simp; omega
   have p:∀ W:World,(Instr.index 9 (.string s) (.int .i64 0)).run Tryz.prog W = .ok (.int .u8 ((aD s 0:Nat):Int)) W:=fQ (k:=0) (by omega);have n:decide ((0:Int)<(s.size:Int))=true:=t8 (by omega);have q:decide ((1:Int)<(s.size:Int))=false:=fK (by omega);have y:decide ((2:Int)<(s.size:Int))=false:=fK (by omega);have r:decide ((3:Int)<(s.size:Int))=false:=fK (by omega);have z:decide ((s.size:Int)<4)=true:=t8 (by omega);clear a e g c;go_enter Tryz.func47,Tryz.ntmps47
   go_wp2_with fail
   refine Calls.mono (gV _ _) ?_;rintro i d ⟨rfl,rfl⟩;go_wp2;refine bodyPost_ret (v:=.tuple #[.agg #[.int .i64 0,.int .i64 0,.string ⟨#[]⟩],.int .i64 0,.int .i64 3]) (by simp [results,Tryz.results47,go_sem]) rfl ?_;exact b.z _ (by repeat (first | exact θ | refine Below.alloc ?_ (by first | (simp; done) | (simp; omega)) _ | refine Below.setCell ?_ (by first | (simp; done) | (simp; omega)) _))
 by_cases z2:s.size=2
 · have c:aD s 0=66:=by omega
   have j:aD s 1=75:=by omega
   have a:iZ s 2:=⟨fun _=>⟨by omega,c⟩,fun _=>⟨by omega,j⟩,fun h=>absurd h (by omega),fun h=>absurd h (by omega)⟩;have b:=ω (l.z 3 (pK a (by omega) (by omega)) (by omega));have o:((aD s 0:Int) != 66)=false:=by simp; omega
   have x:((aD s 0:Int) == 66)=true:=by simp; omega
   have p:∀ W:World,(Instr.index 9 (.string s) (.int .i64 0)).run Tryz.prog W = .ok (.int .u8 ((aD s 0:Nat):Int)) W:=fQ (k:=0) (by omega);have E:((aD s 1:Int) != 75)=false:=by simp; omega
   have H:∀ W:World,(Instr.index 9 (.string s) (.int .i64 1)).run Tryz.prog W = .ok (.int .u8 ((aD s 1:Nat):Int)) W:=fQ (k:=1) (by omega);have n:decide ((0:Int)<(s.size:Int))=true:=t8 (by omega);have q:decide ((1:Int)<(s.size:Int))=true:=t8 (by omega);have y:decide ((2:Int)<(s.size:Int))=false:=fK (by omega);have r:decide ((3:Int)<(s.size:Int))=false:=fK (by omega);have z:decide ((s.size:Int)<4)=true:=t8 (by omega);clear a e g c j;go_enter Tryz.func47,Tryz.ntmps47
   go_wp2_with fail
   refine Calls.mono (gV _ _) ?_;rintro i d ⟨rfl,rfl⟩;go_wp2;refine bodyPost_ret (v:=.tuple #[.agg #[.int .i64 0,.int .i64 0,.string ⟨#[]⟩],.int .i64 0,.int .i64 3]) (by simp [results,Tryz.results47,go_sem]) rfl ?_;exact b.z _ (by repeat (first | exact θ | refine Below.alloc ?_ (by first | (simp; done) | (simp; omega)) _ | refine Below.setCell ?_ (by first | (simp; done) | (simp; omega)) _))
 have c:aD s 0=66:=by omega
 have j:aD s 1=75:=by omega
 have o:((aD s 0:Int) != 66)=false:=by simp; omega
 have x:((aD s 0:Int) == 66)=true:=by simp; omega
 have E:((aD s 1:Int) != 75)=false:=by simp; omega
 have p:∀ W:World,(Instr.index 9 (.string s) (.int .i64 0)).run Tryz.prog W = .ok (.int .u8 ((aD s 0:Nat):Int)) W:=fQ (k:=0) (by omega);have H:∀ W:World,(Instr.index 9 (.string s) (.int .i64 1)).run Tryz.prog W = .ok (.int .u8 ((aD s 1:Nat):Int)) W:=fQ (k:=1) (by omega);have L:∀ W:World,(Instr.index 9 (.string s) (.int .i64 2)).run Tryz.prog W = .ok (.int .u8 ((aD s 2:Nat):Int)) W:=fQ (k:=2) (by omega);have N:IntKind.i64.wrap (aD s 2:Int)=aD s 2:=by rw [IntKind.wrap_i64]; have:=qN s 2; omega
 have n:decide ((0:Int)<(s.size:Int))=true:=t8 (by omega);have q:decide ((1:Int)<(s.size:Int))=true:=t8 (by omega);have y:decide ((2:Int)<(s.size:Int))=true:=t8 (by omega);by_cases m:aD s 2<1\/3<aD s 2
 · have a:iZ s 2:=⟨fun _=>⟨by omega,c⟩,fun _=>⟨by omega,j⟩,fun h=>absurd h (by omega),fun h=>absurd h (by omega)⟩;have b:=ω (l.z 1 (KJ a (by omega) m) (by omega));have u:=ω (show (aD s 2:Int)<1\/3<(aD s 2:Int) from by omega);clear a e g m c j;go_enter Tryz.func47,Tryz.ntmps47
   go_wp2_with fail
   refine Calls.mono (eE _ _ _ u.z _) ?_;rintro i d ⟨rfl,rfl⟩
   go_wp2_with fail
   refine Calls.mono (gV _ _) ?_;rintro i d ⟨rfl,rfl⟩;go_wp2;refine bodyPost_ret (v:=.tuple #[.agg #[.int .i64 0,.int .i64 0,.string ⟨#[]⟩],.int .i64 0,.int .i64 1]) (by simp [results,Tryz.results47,go_sem]) rfl ?_;exact b.z _ (by repeat (first | exact θ | refine Below.alloc ?_ (by first | (simp; done) | (simp; omega)) _ | refine Below.setCell ?_ (by first | (simp; done) | (simp; omega)) _))
 have a:iZ s 3:=⟨fun _=>⟨by omega,c⟩,fun _=>⟨by omega,j⟩,fun _=>⟨by omega,by omega,by omega⟩,fun h=>absurd h (by omega)⟩;have B:=ω (show (1:Int)<=(aD s 2:Int) from by omega);have C:=ω (show (aD s 2:Int)<=3 from by omega);by_cases R:s.size=3
 · have b:=ω (l.z 3 (pK a (by omega) (by omega)) (by omega));have r:decide ((3:Int)<(s.size:Int))=false:=fK (by omega);have z:decide ((s.size:Int)<4)=true:=t8 (by omega);clear a e g m c j;go_enter Tryz.func47,Tryz.ntmps47
   go_wp2_with fail
   refine Calls.mono (dh _ _ _ B.z C.z _) ?_;rintro i d ⟨rfl,rfl⟩
   go_wp2_with fail
   refine Calls.mono (gV _ _) ?_;rintro i d ⟨rfl,rfl⟩;go_wp2;refine bodyPost_ret (v:=.tuple #[.agg #[.int .i64 0,.int .i64 0,.string ⟨#[]⟩],.int .i64 0,.int .i64 3]) (by simp [results,Tryz.results47,go_sem]) rfl ?_;exact b.z _ (by repeat (first | exact θ | refine Below.alloc ?_ (by first | (simp; done) | (simp; omega)) _ | refine Below.setCell ?_ (by first | (simp; done) | (simp; omega)) _))
 have M:∀ W:World,(Instr.index 9 (.string s) (.int .i64 3)).run Tryz.prog W = .ok (.int .u8 ((aD s 3:Nat):Int)) W:=fQ (k:=3) (by omega);have O:IntKind.i64.wrap (aD s 3:Int)=aD s 3:=by rw [IntKind.wrap_i64]; have:=qN s 3; omega
 have r:decide ((3:Int)<(s.size:Int))=true:=t8 (by omega);by_cases F:aD s 3<1\/4<aD s 3
 · have b:=ω (l.z 1 (KK a (by omega) F) (by omega));have u:=ω (show (aD s 3:Int)<1\/4<(aD s 3:Int) from by omega);clear a e g m F c j;go_enter Tryz.func47,Tryz.ntmps47
   go_wp2_with fail
   refine Calls.mono (dh _ _ _ B.z C.z _) ?_;rintro i d ⟨rfl,rfl⟩
   go_wp2_with fail
   refine Calls.mono (eE _ _ _ u.z _) ?_;rintro i d ⟨rfl,rfl⟩
   go_wp2_with fail
   refine Calls.mono (gV _ _) ?_;rintro i d ⟨rfl,rfl⟩;go_wp2;refine bodyPost_ret (v:=.tuple #[.agg #[.int .i64 0,.int .i64 0,.string ⟨#[]⟩],.int .i64 0,.int .i64 1]) (by simp [results,Tryz.results47,go_sem]) rfl ?_;exact b.z _ (by repeat (first | exact θ | refine Below.alloc ?_ (by first | (simp; done) | (simp; omega)) _ | refine Below.setCell ?_ (by first | (simp; done) | (simp; omega)) _))
 exact absurd (zR ⟨fun _=>⟨by omega,c⟩,fun _=>⟨by omega,j⟩,fun _=>⟨by omega,by omega,by omega⟩,fun _=>⟨by omega,by omega,by omega⟩⟩).1 I.z
theorem KL (s:ByteArray) (w:World) (hs:s.size<=9223372036854775807) :
 ψ 47 #[s] w (eP s w):=by
 by_cases I:nE s=0
 case neg=>exact I1 s w hs I
 have h:=I2 I;clear I;have o:=(h.h0 (by omega)).2;have y:=(h.h1 (by omega)).2;have ab:=(h.h2 (by omega)).2;have ac:=(h.h3 (by omega)).2;have ae:=(zR h).2;have m:=ω (zR h);clear h;have X:((aD s 0:Int) != 66)=false:=by simp; omega
 have Y:((aD s 0:Int) == 66)=true:=by simp; omega
 have Z:((aD s 1:Int) != 75)=false:=by simp; omega
 have i0:∀ W:World,(Instr.index 9 (.string s) (.int .i64 0)).run Tryz.prog W = .ok (.int .u8 ((aD s 0:Nat):Int)) W:=fQ (k:=0) (by omega);have i1:∀ W:World,(Instr.index 9 (.string s) (.int .i64 1)).run Tryz.prog W = .ok (.int .u8 ((aD s 1:Nat):Int)) W:=fQ (k:=1) (by omega);have i2:∀ W:World,(Instr.index 9 (.string s) (.int .i64 2)).run Tryz.prog W = .ok (.int .u8 ((aD s 2:Nat):Int)) W:=fQ (k:=2) (by omega);have i3:∀ W:World,(Instr.index 9 (.string s) (.int .i64 3)).run Tryz.prog W = .ok (.int .u8 ((aD s 3:Nat):Int)) W:=fQ (k:=3) (by omega);have v2:IntKind.i64.wrap (aD s 2:Int)=aD s 2:=by rw [IntKind.wrap_i64]; have:=qN s 2; omega
 have v3:IntKind.i64.wrap (aD s 3:Int)=aD s 3:=by rw [IntKind.wrap_i64]; have:=qN s 3; omega
 have l0:decide ((0:Int)<(s.size:Int))=true:=t8 (by omega);have l1:decide ((1:Int)<(s.size:Int))=true:=t8 (by omega);have l2:decide ((2:Int)<(s.size:Int))=true:=t8 (by omega);have l3:decide ((3:Int)<(s.size:Int))=true:=t8 (by omega);have T:=ω (show (1:Int)<=(aD s 2:Int) from by omega);have U:=ω (show (aD s 2:Int)<=3 from by omega);have V:=ω (show (1:Int)<=(aD s 3:Int) from by omega);have c2:=ω (show (aD s 3:Int)<=4 from by omega);have l4:decide ((s.size:Int)<4)=false:=fK (by omega);have hT:=ω (show (s.extract 4 s.size).size<=9223372036854775807 from by rw [ByteArray.size_extract]; omega);clear o y ab ac;obtain⟨n,k,x,K⟩:∃ n k x,rdNum (s.extract 4 s.size)=(n,k,x):=⟨_,_,_,rfl⟩;have l:=ω K;obtain⟨u,f2,f3,D⟩:=gW K;clear K;go_enter Tryz.func47,Tryz.ntmps47
 go_wp2_with fail
 refine Calls.mono (dh _ _ _ T.z U.z _) ?_;rintro i a ⟨rfl,rfl⟩
 go_wp2_with fail
 refine Calls.mono (dh _ _ _ V.z c2.z _) ?_;rintro i a ⟨rfl,rfl⟩
 go_wp2_with fail
 refine Calls.mono (AE l.z _ hT.z) ?_;rintro i a ⟨rfl,rfl⟩;clear T U V c2 i0 i1 i2 i3 v2 v3 l0 l1 l2 l3 l4 X Y Z;by_cases L:x=0
 · subst L;have E:=D rfl;clear D f3;have f6:k<=s.size - 4:=by have:=E.2; rw [ByteArray.size_extract] at this; omega
   have f7:=E.1;clear E;by_cases z:6000<n
   · have c:=ω (fun (a:World)=>eP.mk' (w:=w) (w':=a) (AB m.z.1 l.z z));clear u
     go_wp2_with fail
     refine Calls.mono (gV _ _) ?_;rintro i a ⟨rfl,rfl⟩;go_wp2;refine bodyPost_ret (v:=.tuple #[.agg #[.int .i64 0,.int .i64 0,.string ⟨#[]⟩],.int .i64 0,.int .i64 2]) (by simp [results,Tryz.results47,go_sem]) rfl ?_;exact c.z _ (by repeat (first | exact θ | refine Below.alloc ?_ (by first | (simp; done) | (simp; omega)) _ | refine Below.setCell ?_ (by first | (simp; done) | (simp; omega)) _))
   by_cases J:s.size<8+k+n
   · have c:=ω (fun (a:World)=>eP.mk' (w:=w) (w':=a) (AD m.z.1 l.z z J));clear u
     go_wp2_with fail
     refine Calls.mono (gV _ _) ?_;rintro i a ⟨rfl,rfl⟩;go_wp2;refine bodyPost_ret (v:=.tuple #[.agg #[.int .i64 0,.int .i64 0,.string ⟨#[]⟩],.int .i64 0,.int .i64 3]) (by simp [results,Tryz.results47,go_sem]) rfl ?_;exact c.z _ (by repeat (first | exact θ | refine Below.alloc ?_ (by first | (simp; done) | (simp; omega)) _ | refine Below.setCell ?_ (by first | (simp; done) | (simp; omega)) _))
   clear u
   have q1:∀ W:World,(Instr.slice 9 (.string s) none (some (.int .i64 (4+(k:Int)+n))) none).run Tryz.prog W = .ok (.string (s.extract 0 (4+k+n))) W:=fun W=>by
    rw [run_slice_string_to_if (P:=Tryz.prog) (w:=W) 9 s .i64 (4+(k:Int)+n) Tryz.underlying9,if_pos ⟨by omega,by omega⟩,show (4+(k:Int)+n).toNat=4+k+n from by omega]
   have q2:∀ W:World,(Instr.slice 9 (.string s) (some (.int .i64 (4+(k:Int)+n))) (some (.int .i64 (4+(k:Int)+n+4))) none).run Tryz.prog W = .ok (.string (s.extract (4+k+n) (8+k+n))) W:=fun W=>by
    rw [run_slice_string W 9 s .i64 .i64 (4+(k:Int)+n) (4+(k:Int)+n+4) Tryz.underlying9 (by omega) (by omega) (by omega),show (4+(k:Int)+n).toNat=4+k+n from by omega,show (4+(k:Int)+n+4).toNat=8+k+n from by omega]
   have q3:IntKind.i64.wrap (4+(k:Int)+n+4 - 4)=4+(k:Int)+n:=by rw [IntKind.wrap_i64]; omega
   have ag:IntKind.i64.wrap (4+(k:Int)+n)=4+(k:Int)+n:=by rw [IntKind.wrap_i64]; omega
   have q4:=ω (show (s.extract 0 (4+k+n)).size<=9223372036854775807 from by rw [ByteArray.size_extract]; omega)
   go_wp2_with fail
   generalize B:(w.alloc (.cells #[(0:Int),(0:Int),.string ⟨#[]⟩] 78)).alloc (.cells #[(aD s 2),(aD s 3),.string ⟨#[]⟩] 78)=r;have o:=ω (show Below w w r from by rw [<- B]; exact ((θ).alloc lJ _).alloc (by simp) _);have F:=ω (show Blk r w 78 #[(0:Int),(0:Int),.string ⟨#[]⟩] from by rw [<- B]; exact Blk.alloc (n5 w _) _)
   have G:=ω (show Blk r (w.heap.size+1) 78 #[(aD s 2),(aD s 3),.string ⟨#[]⟩] from by
    rw [<- B];have:=n5 (χ w #[(0:Int),(0:Int),.string ⟨#[]⟩] 78) (.cells #[(aD s 2),(aD s 3),.string ⟨#[]⟩] 78);simpa [Blk] using this)
   clear B;refine wp_region_quiet_below (by kernel_rfl) (by kernel_rfl) ?_
   repeat (quiet_step ((go_at_call 90; exact Calls.regrown_of (Cb _ _ q4.z))))
   refine wpQuiet_nil ?_;intro _ ad;obtain⟨⟨nq,osq⟩,hw''⟩:=ad;subst hw'';have q:=below_regrown r nq osq;dsimp only;generalize grow (redrawn r nq) osq=b at q;have y:=ω (o.trans (q.mono o.size));have d:Blk b w 78 #[(0:Int),(0:Int),.string ⟨#[]⟩]:=F.below q F.lt;have g:Blk b (w.heap.size+1) 78 #[(aD s 2),(aD s 3),.string ⟨#[]⟩]:=G.below q G.lt;have z0:ζ b w 0 (.int .i64 0):=d.cell 0;have z1:ζ b w 1 (.int .i64 0):=d.cell 1;have z2:ζ b w 2 (.string ⟨#[]⟩):=d.cell 2;have t0:=d.thaw 0;have t1:=d.thaw 1;have t2:=d.thaw 2;have x0:ζ b (w.heap.size+1) 0 (.int .i64 (aD s 2)):=g.cell 0;have x1:ζ b (w.heap.size+1) 1 (.int .i64 (aD s 3)):=g.cell 1;have x2:ζ b (w.heap.size+1) 2 (.string ⟨#[]⟩):=g.cell 2;have r0:=g.thaw 0;have r1:=g.thaw 1;have r2:=g.thaw 2;have hlt:=d.lt;have af:=g.lt;have Q:=ω d;have R:=ω (show (s.extract 0 (4+k+n)).data.toList=List.take (4+k+n) s.data.toList from by rw [Lib.extract_data]; simp);have S:=ω (ByteArray.toList_eq (s.extract (4+k+n) (8+k+n)));clear d g q o F G q1 q2;by_cases j:(s.extract (4+k+n) (8+k+n)).data.toList=pC (s.extract 0 (4+k+n)).data.toList
   · have c:=ω (fun (a:World)=>eP.mk' (w:=w) (w':=a) (D7 m.z.1 l.z z J j))
     have C:(!(pC (List.take (4+k+n) s.data.toList) == (s.extract (4+k+n) (8+k+n)).toList))=false:=by
      have:(pC (List.take (4+k+n) s.data.toList) == (s.extract (4+k+n) (8+k+n)).toList)=true:=by rw [beq_iff_eq,S.z,j,R.z]
      rw [this]; rfl
     have q5:∀ W:World,(Instr.slice 9 (.string s) (some (.int .i64 (4+(k:Int)))) (some (.int .i64 (4+(k:Int)+n))) none).run Tryz.prog W = .ok (.string (s.extract (4+k) (4+k+n))) W:=fun W=>by
      rw [run_slice_string W 9 s .i64 .i64 (4+(k:Int)) (4+(k:Int)+n) Tryz.underlying9 (by omega) (by omega) (by omega),show (4+(k:Int)).toNat=4+k from by omega,show (4+(k:Int)+n).toNat=4+k+n from by omega]
     have e:Blk (sX (sX (sX (sX b (w.heap.size+1) 2 (.string (s.extract (4+k) (4+k+n)))) w 0 (.int .i64 (aD s 2))) w 1 (.int .i64 (aD s 3))) w 2 (.string (s.extract (4+k) (4+k+n)))) w 78 #[(aD s 2),(aD s 3),.string (s.extract (4+k) (4+k+n))]:=(((Q.below (Below.setCell (p:=⟨w.heap.size+1,2,none⟩) (Below.refl (w.heap.size+1) b) lJ (.string (s.extract (4+k) (4+k+n)))) (Nat.lt_succ_self _)).set 0 _).set 1 _).set 2 _;have H:=ω ((((y.setCell (p:=⟨w.heap.size+1,2,none⟩) (Nat.le_succ _) (.string (s.extract (4+k) (4+k+n)))).setCell (p:=⟨w,0,none⟩) lJ (.int .i64 (aD s 2))).setCell (p:=⟨w,1,none⟩) lJ (.int .i64 (aD s 3))).setCell (p:=⟨w,2,none⟩) lJ (.string (s.extract (4+k) (4+k+n))));have M:=e.cell 0;have N:=e.cell 1;have O:=e.cell 2;clear j e;rw [C];go_wp2;refine bodyPost_ret (v:=.tuple #[.agg #[.int .i64 (aD s 2),.int .i64 (aD s 3),.string (s.extract (4+k) (4+k+n))],.int .i64 (4+(k:Int)+n+4),.int .i64 0]) (by simp [results,Tryz.results47,go_sem,M,N,O]) rfl ?_;rw [show (4+(k:Int)+n+4)=((8+k+n:Nat):Int) from by omega];exact c.z _ H.z
   · have c:=ω (fun (a:World)=>eP.mk' (w:=w) (w':=a) (D8 m.z.1 l.z z J j))
     have C:(!(pC (List.take (4+k+n) s.data.toList) == (s.extract (4+k+n) (8+k+n)).toList))=true:=by
      have:(pC (List.take (4+k+n) s.data.toList) == (s.extract (4+k+n) (8+k+n)).toList)=false:=by
       rw [beq_eq_false_iff_ne,S.z]; intro aa; exact j (by rw [<- aa,R.z])
      rw [this]; rfl
     have e:Blk ((((b.setCell ⟨w,0,none⟩ (.int .i64 0)).setCell ⟨w,1,none⟩ (.int .i64 0)).setCell ⟨w,2,none⟩ (.string ⟨#[]⟩)).alloc (.cells #[(0:Int),(0:Int),.string ⟨#[]⟩] 78)) w 78 #[(0:Int),(0:Int),.string ⟨#[]⟩]:=(((Q.set 0 _).set 1 _).set 2 _).alloc _;have H:=ω ((((y.setCell (p:=⟨w,0,none⟩) lJ (.int .i64 0)).setCell (p:=⟨w,1,none⟩) lJ (.int .i64 0)).setCell (p:=⟨w,2,none⟩) lJ (.string ⟨#[]⟩)).alloc (by have:=hlt; simp [World.setCell]; omega) (.cells #[(0:Int),(0:Int),.string ⟨#[]⟩] 78));have M:=e.cell 0;have N:=e.cell 1;have O:=e.cell 2;clear j e;rw [C]
     go_wp2_with fail
     refine Calls.mono (gV _ _) ?_;rintro i a ⟨rfl,rfl⟩;go_wp2;refine bodyPost_ret (v:=.tuple #[.agg #[.int .i64 0,.int .i64 0,.string ⟨#[]⟩],.int .i64 0,.int .i64 5]) (by simp [results,Tryz.results47,go_sem,M,N,O]) rfl ?_;exact c.z _ H.z
 · have c:=ω (fun (a:World)=>eP.mk' (w:=w) (w':=a) (D9 m.z.1 l.z L));have e9:((x:Int) != 0)=true:=by simp; omega
   clear L D u
   go_wp2_with fail
   refine Calls.mono (gV _ _) ?_;rintro i a ⟨rfl,rfl⟩;go_wp2;refine bodyPost_ret (v:=.tuple #[.agg #[.int .i64 0,.int .i64 0,.string ⟨#[]⟩],.int .i64 0,.int .i64 x]) (by simp [results,Tryz.results47,go_sem]) rfl ?_;exact c.z _ (by repeat (first | exact θ | refine Below.alloc ?_ (by first | (simp; done) | (simp; omega)) _ | refine Below.setCell ?_ (by first | (simp; done) | (simp; omega)) _))
end Go.Proofs.YtimglglgcgpjgaaGreatDoor
