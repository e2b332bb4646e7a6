/- Of the proof of a statement: RdAll, RRqD, RRqE, HubN. -/
import Derived.Recover
import Derived.Laws.Pointers
import Derived.Test.YtimglglgcgpjgabGreatDoorPRRc
import Derived.Test.YtimglglgcgpjgabGreatDoorPSvDo
set_option linter.unusedVariables false
set_option linter.unusedSimpArgs false
set_option maxRecDepth 100000
set_option maxHeartbeats 8000000
namespace Go.Proofs.YtimglglgcgpjgabGreatDoor
open Go.RowKit
theorem Dj (W:World) (y:Int):(Instr.typeAssert (.iface 120 (.agg #[y])) 20 120 true).run Tryz.prog W = .ok (.tuple #[.agg #[y],.bool true]) W:=by kernel_rfl
theorem Dk (E:Nat) (n:Int) (y:Nat) (w:World) (a:Blk w E 29 #[n]) :
 CallsD Tryz.prog 89 #[π E 0] (.panicking [{ v:=.iface 120 (.agg #[(y:Int)]),recovered:=false }]) w fun e h b=>
  e = .returned (.tuple #[])/\h = .panicking [{ v:=.iface 120 (.agg #[(y:Int)]),recovered:=true }]/\w.grownBy b (some E)/\Blk b E 29 #[(y:Int)]:=by
 have k:ζ w E 0 (.int .i64 n):=a.cell 0;have o:κ w E 0:=a.thaw 0;have l:=a.lt;have c:=ω a;have m:=Dj;clear a;refine callsD_of_wpS Tryz.func89 rfl fun j i g=>?_;rw [show (#[Value.pointer (some ⟨E,0,none⟩)] ++ Array.replicate (Tryz.f89.ntmps - (#[Value.pointer (some ⟨E,0,none⟩)]:Array Value).size) undef)=#[.pointer (some ⟨E,0,none⟩),undef,undef,undef,undef,undef,undef,undef,undef,undef,undef,undef,undef,undef,undef,undef,undef] from by rw [Tryz.ntmps89]; rfl]
 apply wpS_seq
 apply wpS_region
 simp [wpOpsS,go_sem,recoverD,g,Tryz.ntmps89,Exit.thenS];refine wpS_of_wp ?_
 have d:=ω (show w.grownBy ((w.setCell ⟨E,0,none⟩ (.int .i64 (y:Int))).alloc (.cells #[(y:Int)] 120)) (some E)/\Blk ((w.setCell ⟨E,0,none⟩ (.int .i64 (y:Int))).alloc (.cells #[(y:Int)] 120)) E 29 #[(y:Int)] from
  ⟨iW (aQ w E 0 _) ((θ).alloc lQ _),(Blk.eq (c.set 0 _) rfl).alloc _⟩)
 go_wp2;exact⟨rfl,_,rfl,_,by simp [results,Tryz.results89,go_sem],rfl,rfl,d⟩
theorem Bn (E:Nat) (w:World) :
 CallsD Tryz.prog 89 #[π E 0] .returning w fun e c d=>e = .returned (.tuple #[])/\c = .returning/\d=w:=by
 refine callsD_of_wpS Tryz.func89 rfl fun a g b=>?_;rw [show (#[Value.pointer (some ⟨E,0,none⟩)] ++ Array.replicate (Tryz.f89.ntmps - (#[Value.pointer (some ⟨E,0,none⟩)]:Array Value).size) undef)=#[.pointer (some ⟨E,0,none⟩),undef,undef,undef,undef,undef,undef,undef,undef,undef,undef,undef,undef,undef,undef,undef,undef] from by rw [Tryz.ntmps89]; rfl]
 apply wpS_seq
 apply wpS_region
 simp [wpOpsS,go_sem,recoverD,b,Tryz.ntmps89,Exit.thenS];refine wpS_of_wp ?_;go_wp2;exact⟨rfl,.returning,by cases a; simp_all,_,by simp [results,Tryz.results89,go_sem],rfl,rfl,rfl⟩
def zO (R:RR Unit) (a:World->Prop) (e:Ending) (w':World):Prop:=e = .returned (.int .i64 (Ay R:Int))/\a w'
theorem readAll (F:FuncId) (z:Array Value) (b:ByteArray) (w:World) (V:b.size<=9223372036854775807) (T:∀ args w,(callFunc F args).run Tryz.prog w = .ok (.enter F args) w) (R:RR Unit) (a:World->Prop)
 (E:∀ W v,a W->a (sQ W w 0 v)) (G:∀ W g,a W->w.heap.size<W.heap.size->W.grownBy g (some w)->a g)
 (I:∀ W,Below w w W->W.heap.size=w.heap.size+2->kZ W (w.heap.size+1) b->ψ F (#[.pointer (some ⟨w.heap.size+1,0,none⟩)] ++ z) W fun e g=>
  (match R with | .ok _ s=>e = .returned (.tuple #[])/\kZ g (w.heap.size+1) s | .bad x=>e=thrown x)/\g.heap[w.heap.size]? = W.heap[w.heap.size]? /\ a g) :
 ψ 45 #[b,.func (.func F) #[] z] w (zO R a):=by
 have aa:∀ (B:Fn) (first y:Array Value) (w:World),(Instr.makeFunc B first y).run Tryz.prog w = .ok (.func B first y) w:=fun _ _ _ _=>rfl;have n:Below w w (χ w #[(0:Int)] 29):=(θ).alloc lQ _;have H:=n.alloc n.size (.cells #[b] 164);have N:=ω (show Blk ((w.alloc (.cells #[(0:Int)] 29)).alloc (.cells #[b] 164)) w 29 #[(0:Int)] from Blk.alloc (show Blk _ _ _ _ from n5 w _) _);have D:((w.alloc (.cells #[(0:Int)] 29)).alloc (.cells #[b] 164)).heap.size=w.heap.size+2:=by simp
 have r:=ω (I _ H D ⟨by
  have C:=n5 (χ w #[(0:Int)] 29) (.cells #[b] 164);rw [show (w.alloc (.cells #[(0:Int)] 29)).heap.size=w.heap.size+1 by simp] at C;exact C,V⟩)
 have O:=ω G;have u:=ω E;have X:=T;clear I n H D E G
 go_enter_defers Tryz.func45,Tryz.ntmps45
 go_wp2_with fail
 refine r.mono ?_;rintro e c ⟨j,J,K⟩;have h:Blk c w 29 #[(0:Int)]:=J.trans N.z;have l:=ω K;have x0:ζ c w 0 (.int .i64 0):=h.cell 0;have z0:κ c w 0:=h.thaw 0;have Z:=h.lt;have i:=ω h;clear J K r h
 cases R with
 | bad x=>
  have j:e=thrown x:=j;subst j;unfold thrown;go_wp2;refine leaves_cons (f:=89) (args:=#[.pointer (some ⟨w,0,none⟩)]) (by simp) (by simp [go_sem]) ?_;refine (Dk w 0 x c i.z).mono ?_;rintro e M k ⟨rfl,rfl,U,P⟩;have Q:=P.cell 0;have d:zO (.bad x) a (.returned (.int .i64 (x:Int))) k:=⟨rfl,O.z _ _ l.z i.lt U⟩;have S:ζ k w 0 (.int .i64 (x:Int)):=Q;simp [Leaves,settle,results,Tryz.results45,go_sem,S,d]
 | ok L s=>
  obtain⟨rfl,p⟩:e = .returned (.tuple #[])/\kZ c (w.heap.size+1) s:=j;have y0:ζ c (w.heap.size+1) 0 (.string s):=p.1.cell 0;have hlt:=p.1.lt;clear p;by_cases q:s.size=0
  · obtain rfl:=og q;have o:=(show _=(some (.int .i64 0):Option Value) from (i.set 0 (.int .i64 0)).cell 0);have d:zO (.ok L ⟨#[]⟩) a (.returned (.int .i64 0)) (sQ c w 0 (.int .i64 0)):=⟨rfl,u.z _ _ l.z⟩;have m:=ω d;clear d;go_wp2;refine leaves_cons (f:=89) (args:=#[.pointer (some ⟨w,0,none⟩)]) (by simp) (by simp [go_sem]) ?_;refine (Bn w _).mono ?_;rintro e M k ⟨rfl,rfl,rfl⟩;simp [Leaves,settle,results,Tryz.results45,go_sem,o,m.z]
  · have Y:=Az q;have o:=(show _=(some (.int .i64 4):Option Value) from (i.set 0 (.int .i64 4)).cell 0);have d:zO (.ok L s) a (.returned (.int .i64 4)) (sQ c w 0 (.int .i64 4)):=⟨by rw [Ek q]; rfl,u.z _ _ l.z⟩;have m:=ω d;clear d;go_wp2;refine leaves_cons (f:=89) (args:=#[.pointer (some ⟨w,0,none⟩)]) (by simp) (by simp [go_sem]) ?_;refine (Bn w _).mono ?_;rintro e M k ⟨rfl,rfl,rfl⟩;simp [Leaves,settle,results,Tryz.results45,go_sem,o,m.z]
def gI (g S:Nat) (b:ByteArray) (w:World) (e:Ending) (w':World):Prop:=
 TwoW w w' g S/\(match (rqP b).st with | .ok _ s=>e = .returned (.tuple #[])/\kZ w' g s | .bad x=>e=thrown x) /\
  ∃ q,Blk w' S 88 (aT q)/\∀ a t,rqP b = .ok a t->q=a
theorem gI.bad {g S x:Nat} {b:ByteArray} {w w':World} (h:rqP b = .bad x) (c:TwoW w w' g S) (q:aL) (d:Blk w' S 88 (aT q)):gI g S b w (thrown x) w':=⟨c,by rw [h]; rfl,q,d,fun e t a=>by rw [h] at a; cases a⟩
theorem gI.ok {g S:Nat} {b s:ByteArray} {q:aL} {w w':World} (h:rqP b = .ok q s) (c:TwoW w w' g S) (e:kZ w' g s) (d:Blk w' S 88 (aT q)):gI g S b w (.returned (.tuple #[])) w':=⟨c,by rw [h]; exact⟨rfl,e⟩,q,d,fun f t a=>by rw [h] at a; injection a⟩
theorem LZ (g S:Nat) (b:ByteArray) (w:World) (hx:kZ w g b) (hS:Blk w S 88 (aT gF)) (ae:S<g) :
 ψ 46 #[π g 0,π S 0] w (gI g S b w):=by
 have H1:=ω (Ct g b w hx);have HS:=ω hS;clear hx hS;go_enter Tryz.func46,Tryz.ntmps46
 go_wp2_with fail
 refine H1.mono ?_;rintro v G ⟨h,c⟩;have M:=ay h HS.z (by omega);have T1:=ω ((TwoW.refl w g S).fst h)
 cases X:dJ b with
 | bad x=>
  rw [X] at c;have c:v=thrown x:=c;subst c;have j:=ω (gI.bad (show rqP b = .bad x by unfold rqP; rw [X]; rfl) T1.z gF M);clear h X M;unfold thrown;go_wp2;exact⟨rfl,j⟩
 | ok k s=>
  rw [X] at c;obtain⟨rfl,ad⟩:=c;have af:=M.lt;have E:=M.thaw 0;have C:=(show _=(some (.int .i64 0):Option Value) from M.cell 0);obtain⟨p,aa⟩:∃ p,G.setCell ⟨S,0,none⟩ (.int .i64 (k:Int))=p:=⟨_,rfl⟩;have z:kZ p g s:=by rw [<- aa]; exact ad.grow (aQ G S 0 (.int .i64 (k:Int))) (by omega)
  have ab:Blk p S 88 (aT ⟨k,bK,aV,aN,⟨#[]⟩,0⟩):=by rw [<- aa]; exact Blk.eq (M.set 0 (.int .i64 (k:Int))) rfl
  have K:=ω (show TwoW w p g S by rw [<- aa]; exact T1.snd (aQ G S 0 (.int .i64 (k:Int))));have D:ζ p S 0 (.int .i64 (k:Int)):=ab.cell 0;have ag:=ab.lt;have B:=ω (show rqP b=jJ k s by unfold rqP; rw [X]; rfl);have H:=ω aa;have J:=ω ab;clear h X M ad aa ab H1 T1 HS;by_cases L:k=1
  · have F:=ω (Cu.1 g s 3 p (by decide) (by decide) z);have q:=ω (show jJ k s=(pK 3 s).bind fun i t=>.ok ⟨k,i,aV,aN,⟨#[]⟩,0⟩ t by unfold jJ; rw [ if_pos L]);have Q:((k:Int) == 1)=true:=by rw [beq_iff_eq]; omega
    have R:((k:Int) == 2)=false:=eY (by omega);have T:((k:Int) == 3)=false:=eY (by omega);have U:((k:Int) == 4)=false:=eY (by omega);have Y:((k:Int) == 5)=false:=eY (by omega);have V:((k:Int) == 6)=false:=eY (by omega);have Z:((k:Int) == 7)=false:=eY (by omega);have W:((k:Int) == 8)=false:=eY (by omega);have e9:((k:Int) == 9)=false:=eY (by omega);have I:=ω (show G.setCell ⟨S,0,none⟩ (.int .i64 1)=p from by rw [<- show (k:Int)=1 by omega]; exact H);clear z
    go_wp2_with fail
    rw [I.z];refine F.mono ?_;rintro v e ⟨h,c⟩;have a:=ay h J.z (by omega);have u:=ω (K.fst h)
    cases d:pK 3 s with
    | bad x=>
     rw [d] at c;have c:v=thrown x:=c;subst c;have j:=ω (gI.bad (show rqP b = .bad x by rw [B.z,q.z,d]; rfl) u.z _ a);clear h d a D C E;unfold thrown;go_wp2;exact⟨rfl,j⟩
    | ok i t=>
     rw [d] at c;obtain⟨l,m,n,N,O⟩:=i;have c:v = .returned (.agg #[l,m,n,N,O])/\kZ e g t:=c;obtain⟨rfl,y⟩:=c;have L0:=a.lt;have r:=ω (show Blk (sQ (sQ (sQ (sQ (sQ e S 1 (.string l)) S 2 (.int .i64 m)) S 3 (.int .i64 n)) S 4 (.int .i64 N)) S 5 (.string O)) S 88 (aT ⟨k,⟨l,m,n,N,O⟩,aV,aN,⟨#[]⟩,0⟩) from Blk.eq (((((a.set 1 (.string l)).set 2 (.int .i64 m)).set 3 (.int .i64 n)).set 4 (.int .i64 N)).set 5 (.string O)) rfl);have o:=aK (aK (aK (aK (aK (bP e S) 1 (.string l)) 2 (.int .i64 m)) 3 (.int .i64 n)) 4 (.int .i64 N)) 5 (.string O);have j:=ω (gI.ok (show rqP b = .ok ⟨k,⟨l,m,n,N,O⟩,aV,aN,⟨#[]⟩,0⟩ t by rw [B.z,q.z,d]; rfl) (u.snd o) (y.grow o (by omega)) r.z);have u0:=a.thaw 1;have f0:ζ e S 1 (.string ⟨#[]⟩):=a.cell 1;have u1:=a.thaw 2;have f1:ζ e S 2 (.int .i64 0):=a.cell 2;have u2:=a.thaw 3;have f2:ζ e S 3 (.int .i64 0):=a.cell 3;have u3:=a.thaw 4;have f3:ζ e S 4 (.int .i64 0):=a.cell 4;have u4:=a.thaw 5;have f4:ζ e S 5 (.string ⟨#[]⟩):=a.cell 5;clear h d a y o r D C E;go_wp2;go_end0;exact j
  by_cases c2:k=2
  · have F:=ω (Cu.2 g s 3 p (by decide) z);have q:=ω (show jJ k s=(lH 3 s).bind fun i t=>.ok ⟨k,bK,i,aN,⟨#[]⟩,0⟩ t by unfold jJ; rw [if_neg L,if_pos c2]);have Q:((k:Int) == 1)=false:=eY (by omega);have R:((k:Int) == 2)=true:=by rw [beq_iff_eq]; omega
    have T:((k:Int) == 3)=false:=eY (by omega);have U:((k:Int) == 4)=false:=eY (by omega);have Y:((k:Int) == 5)=false:=eY (by omega);have V:((k:Int) == 6)=false:=eY (by omega);have Z:((k:Int) == 7)=false:=eY (by omega);have W:((k:Int) == 8)=false:=eY (by omega);have e9:((k:Int) == 9)=false:=eY (by omega);have I:=ω (show G.setCell ⟨S,0,none⟩ (.int .i64 2)=p from by rw [<- show (k:Int)=2 by omega]; exact H);clear z
    go_wp2_with fail
    rw [I.z];refine F.mono ?_;rintro v e ⟨h,c⟩;have a:=ay h J.z (by omega);have u:=ω (K.fst h)
    cases d:lH 3 s with
    | bad x=>
     rw [d] at c;have c:v=thrown x:=c;subst c;have j:=ω (gI.bad (show rqP b = .bad x by rw [B.z,q.z,d]; rfl) u.z _ a);clear h d a D C E;unfold thrown;go_wp2;exact⟨rfl,j⟩
    | ok i t=>
     rw [d] at c;obtain⟨l,m,n⟩:=i;have c:v = .returned (.agg #[l,m,n])/\kZ e g t:=c;obtain⟨rfl,y⟩:=c;have L0:=a.lt;have r:=ω (show Blk (sQ (sQ (sQ e S 6 (.string l)) S 7 (.int .i64 m)) S 8 (.string n)) S 88 (aT ⟨k,bK,⟨l,m,n⟩,aN,⟨#[]⟩,0⟩) from Blk.eq (((a.set 6 (.string l)).set 7 (.int .i64 m)).set 8 (.string n)) rfl);have o:=aK (aK (aK (bP e S) 6 (.string l)) 7 (.int .i64 m)) 8 (.string n);have j:=ω (gI.ok (show rqP b = .ok ⟨k,bK,⟨l,m,n⟩,aN,⟨#[]⟩,0⟩ t by rw [B.z,q.z,d]; rfl) (u.snd o) (y.grow o (by omega)) r.z);have u0:=a.thaw 6;have f0:ζ e S 6 (.string ⟨#[]⟩):=a.cell 6;have u1:=a.thaw 7;have f1:ζ e S 7 (.int .i64 0):=a.cell 7;have u2:=a.thaw 8;have f2:ζ e S 8 (.string ⟨#[]⟩):=a.cell 8;clear h d a y o r D C E;go_wp2;go_end0;exact j
  by_cases P:k=3\/k=4\/k=6
  · have F:=ω (yF g s p z);have q:=ω (show jJ k s=(cH s).bind fun i t=>.ok ⟨k,bK,aV,aN,i,0⟩ t by unfold jJ; rw [if_neg L,if_neg c2,if_pos P]);obtain⟨t3,t4,t6,T,U,V,ht⟩:∃ t3 t4 t6:Bool,((k:Int) == 3)=t3/\((k:Int) == 4)=t4/\((k:Int) == 6)=t6/\(t3=true\/t3=false/\t4=true\/t3=false/\t4=false/\t6=true):=⟨_,_,_,rfl,rfl,rfl,by rcases P with ac | ac | ac <;> subst ac <;> decide⟩;have Q:((k:Int) == 1)=false:=eY (by omega);have R:((k:Int) == 2)=false:=eY (by omega);rcases ht with rfl | ⟨rfl,rfl⟩ | ⟨rfl,rfl,rfl⟩
    all_goals
     clear z
     go_wp2_with fail
     try rw [H.z]
     refine F.mono ?_;rintro v e ⟨h,c⟩;have a:=ay h J.z (by omega);have u:=ω (K.fst h)
     cases d:cH s with
     | bad x=>
      rw [d] at c;have c:v=thrown x:=c;subst c;have j:=ω (gI.bad (show rqP b = .bad x by rw [B.z,q.z,d]; rfl) u.z _ a);clear h d a D C E;unfold thrown;go_wp2;exact⟨rfl,j⟩
     | ok i t=>
      rw [d] at c;obtain⟨rfl,y⟩:=c;have L0:=a.lt;have r:=ω (show Blk (sQ e S 12 (.string i)) S 88 (aT ⟨k,bK,aV,aN,i,0⟩) from Blk.eq (a.set 12 (.string i)) rfl);have o:=aK (bP e S) 12 (.string i);have j:=ω (gI.ok (show rqP b = .ok ⟨k,bK,aV,aN,i,0⟩ t by rw [B.z,q.z,d]; rfl) (u.snd o) (y.grow o (by omega)) r.z);have u0:=a.thaw 12;have f0:ζ e S 12 (.string ⟨#[]⟩):=a.cell 12;clear h d a y o r D C E;go_wp2;go_end0;exact j
  by_cases c5:k=5
  · have F:=ω (NA g s p z);have q:=ω (show jJ k s=(iL s).bind fun i t=>.ok ⟨k,bK,aV,i,⟨#[]⟩,0⟩ t by unfold jJ; rw [if_neg L,if_neg c2,if_neg P,if_pos c5]);have Q:((k:Int) == 1)=false:=eY (by omega);have R:((k:Int) == 2)=false:=eY (by omega);have T:((k:Int) == 3)=false:=eY (by omega);have U:((k:Int) == 4)=false:=eY (by omega);have Y:((k:Int) == 5)=true:=by rw [beq_iff_eq]; omega
    have V:((k:Int) == 6)=false:=eY (by omega);have Z:((k:Int) == 7)=false:=eY (by omega);have W:((k:Int) == 8)=false:=eY (by omega);have e9:((k:Int) == 9)=false:=eY (by omega);have I:=ω (show G.setCell ⟨S,0,none⟩ (.int .i64 5)=p from by rw [<- show (k:Int)=5 by omega]; exact H);clear z
    go_wp2_with fail
    rw [I.z];refine F.mono ?_;rintro v e ⟨h,c⟩;have a:=ay h J.z (by omega);have u:=ω (K.fst h)
    cases d:iL s with
    | bad x=>
     rw [d] at c;have c:v=thrown x:=c;subst c;have j:=ω (gI.bad (show rqP b = .bad x by rw [B.z,q.z,d]; rfl) u.z _ a);clear h d a D C E;unfold thrown;go_wp2;exact⟨rfl,j⟩
    | ok i t=>
     rw [d] at c;obtain⟨l,m,n⟩:=i;have c:v = .returned (.agg #[l,m,n])/\kZ e g t:=c;obtain⟨rfl,y⟩:=c;have L0:=a.lt;have r:=ω (show Blk (sQ (sQ (sQ e S 9 (.string l)) S 10 (.string m)) S 11 (.int .i64 n)) S 88 (aT ⟨k,bK,aV,⟨l,m,n⟩,⟨#[]⟩,0⟩) from Blk.eq (((a.set 9 (.string l)).set 10 (.string m)).set 11 (.int .i64 n)) rfl);have o:=aK (aK (aK (bP e S) 9 (.string l)) 10 (.string m)) 11 (.int .i64 n);have j:=ω (gI.ok (show rqP b = .ok ⟨k,bK,aV,⟨l,m,n⟩,⟨#[]⟩,0⟩ t by rw [B.z,q.z,d]; rfl) (u.snd o) (y.grow o (by omega)) r.z);have u0:=a.thaw 9;have f0:ζ e S 9 (.string ⟨#[]⟩):=a.cell 9;have u1:=a.thaw 10;have f1:ζ e S 10 (.string ⟨#[]⟩):=a.cell 10;have u2:=a.thaw 11;have f2:ζ e S 11 (.int .i64 0):=a.cell 11;clear h d a y o r D C E;go_wp2;go_end0;exact j
  by_cases c7:k=7
  · have F:=ω (Ct g s p z);have q:=ω (show jJ k s=(dJ s).bind fun i t=>.ok ⟨k,bK,aV,aN,⟨#[]⟩,i⟩ t by unfold jJ; rw [if_neg L,if_neg c2,if_neg P,if_neg c5,if_pos c7]);have Q:((k:Int) == 1)=false:=eY (by omega);have R:((k:Int) == 2)=false:=eY (by omega);have T:((k:Int) == 3)=false:=eY (by omega);have U:((k:Int) == 4)=false:=eY (by omega);have Y:((k:Int) == 5)=false:=eY (by omega);have V:((k:Int) == 6)=false:=eY (by omega);have Z:((k:Int) == 7)=true:=by rw [beq_iff_eq]; omega
    have W:((k:Int) == 8)=false:=eY (by omega);have e9:((k:Int) == 9)=false:=eY (by omega);have I:=ω (show G.setCell ⟨S,0,none⟩ (.int .i64 7)=p from by rw [<- show (k:Int)=7 by omega]; exact H);clear z
    go_wp2_with fail
    rw [I.z];refine F.mono ?_;rintro v e ⟨h,c⟩;have a:=ay h J.z (by omega);have u:=ω (K.fst h)
    cases d:dJ s with
    | bad x=>
     rw [d] at c;have c:v=thrown x:=c;subst c;have j:=ω (gI.bad (show rqP b = .bad x by rw [B.z,q.z,d]; rfl) u.z _ a);clear h d a D C E;unfold thrown;go_wp2;exact⟨rfl,j⟩
    | ok i t=>
     rw [d] at c;obtain⟨rfl,y⟩:=c;have L0:=a.lt;have r:=ω (show Blk (sQ e S 13 (.int .i64 (i:Int))) S 88 (aT ⟨k,bK,aV,aN,⟨#[]⟩,i⟩) from Blk.eq (a.set 13 (.int .i64 (i:Int))) rfl);have o:=aK (bP e S) 13 (.int .i64 (i:Int));have j:=ω (gI.ok (show rqP b = .ok ⟨k,bK,aV,aN,⟨#[]⟩,i⟩ t by rw [B.z,q.z,d]; rfl) (u.snd o) (y.grow o (by omega)) r.z);have u0:=a.thaw 13;have f0:ζ e S 13 (.int .i64 0):=a.cell 13;clear h d a y o r D C E;go_wp2;go_end0;exact j
  by_cases c8:k=8\/k=9
  · have j:=ω (gI.ok (show rqP b = .ok ⟨k,bK,aV,aN,⟨#[]⟩,0⟩ s by rw [B.z]; unfold jJ; rw [if_neg L,if_neg c2,if_neg P,if_neg c5,if_neg c7,if_pos c8]) K.z z J.z);have Q:((k:Int) == 1)=false:=eY (by omega);have R:((k:Int) == 2)=false:=eY (by omega);have T:((k:Int) == 3)=false:=eY (by omega);have U:((k:Int) == 4)=false:=eY (by omega);have Y:((k:Int) == 5)=false:=eY (by omega);have V:((k:Int) == 6)=false:=eY (by omega);have Z:((k:Int) == 7)=false:=eY (by omega);clear z;rcases c8 with c8 | c8
    · have W:((k:Int) == 8)=true:=by rw [beq_iff_eq]; omega
      go_wp2;go_end0;rw [show G.setCell ⟨S,0,none⟩ (.int .i64 8)=p from by rw [<- show (k:Int)=8 by omega]; exact H.z];exact j
    · have W:((k:Int) == 8)=false:=eY (by omega);have e9:((k:Int) == 9)=true:=by rw [beq_iff_eq]; omega
      go_wp2;go_end0;rw [show G.setCell ⟨S,0,none⟩ (.int .i64 9)=p from by rw [<- show (k:Int)=9 by omega]; exact H.z];exact j
  have j:=ω (gI.bad (show rqP b = .bad 1 by rw [B.z]; unfold jJ; rw [if_neg L,if_neg c2,if_neg P,if_neg c5,if_neg c7,if_neg c8]) K.z _ J.z);have Q:((k:Int) == 1)=false:=eY (by omega);have R:((k:Int) == 2)=false:=eY (by omega);have T:((k:Int) == 3)=false:=eY (by omega);have U:((k:Int) == 4)=false:=eY (by omega);have Y:((k:Int) == 5)=false:=eY (by omega);have V:((k:Int) == 6)=false:=eY (by omega);have Z:((k:Int) == 7)=false:=eY (by omega);have W:((k:Int) == 8)=false:=eY (by omega);have e9:((k:Int) == 9)=false:=eY (by omega);clear z;go_wp2
  try rw [H.z]
  exact⟨rfl,j⟩
def NB (b:ByteArray) (w0:World) (R S:Nat) (W:World):Prop:=
 Below w0 w0 W/\Blk W R 88 (aT gF)/\∃ q,Blk W S 88 (aT q)/\∀ a t,rqP b = .ok a t->q=a
theorem NB.grow {b:ByteArray} {w0 W d:World} {R S E:Nat} (i:NB b w0 R S W) (a:W.grownBy d (some E)) (m:w0.heap.size<=E) (j:R≠E) (l:S≠E):NB b w0 R S d:=by
 obtain⟨c,f,q,g,h⟩:=i;exact⟨⟨a.os.trans c.os,a.tape.trans c.tape,a.output.trans c.output,v6 c.size a.size,fun k e=>(a.block k (uI e c.size) (by simp; omega)).trans (c.block k e)⟩,ay a f j,q,ay a g l,h⟩
theorem GB (b:ByteArray) (w:World) (hb:b.size<=9223372036854775807):ψ 27 #[b] w (tq (rqF b).1 (rqF b).2 w):=by
 have ay:=AL b hb;have al:Below w w (χ w (aT gF) 88):=(θ).alloc lQ _;have aa:=al.alloc al.size (.cells (aT gF) 88);have hR:Blk ((w.alloc (.cells (aT gF) 88)).alloc (.cells (aT gF) 88)) w 88 (aT gF):=Blk.alloc (show Blk _ _ _ _ from n5 w _) _
 have hS:Blk ((w.alloc (.cells (aT gF) 88)).alloc (.cells (aT gF) 88)) (w.heap.size+1) 88 (aT gF):=by
  have p:=n5 (χ w (aT gF) 88) (.cells (aT gF) 88);rwa [show (w.alloc (.cells (aT gF) 88)).heap.size=w.heap.size+1 by simp] at p
 obtain⟨j,Z⟩:∃ j,j=(w.alloc (.cells (aT gF) 88)).alloc (.cells (aT gF) 88):=⟨_,rfl⟩;have a5:j.heap.size=w.heap.size+2:=by rw [Z]; simp
 rw [<- Z] at aa hR hS
 have aw:=readAll 46 #[π (w.heap.size+1) 0] b j hb (Go.Proofs.enters_of Tryz.func46 (by kernel_rfl) rfl) (rqP b).st (NB b w w (w.heap.size+1))
  (fun ag a9 p=>p.grow (aQ _ _ _ _) (by omega) (by omega) (by omega)) (fun ag W' p _ hg=>p.grow hg (by omega) (by omega) (by omega))
  (fun ag c hz hx=>by
   have h2:=hS.below c (by omega);have h3:=hR.below c (by omega);refine Calls.mono (LZ (j.heap.size+1) (w.heap.size+1) b ag hx h2 (by omega)) ?_;rintro au W' ⟨hT,hp,hk⟩;exact⟨hp,hT.block j (by omega) (by omega) (by omega),hT.below (aa.trans (c.mono aa.size)) (by omega) (by omega),(hT.block w (by omega) (by omega) (by omega)).trans h3,hk⟩)
 have aq:=ω aw;have af:=ω ay;have ae:=ω Z;clear al aa hR hS Z a5 hb ay aw;unfold aT gF bK aV aN at ae;go_enter Tryz.func27,Tryz.ntmps27;have a7:∀ (fn:Fn) (first ar:Array Value) (w:World),(Instr.makeFunc fn first ar).run Tryz.prog w = .ok (.func fn first ar) w:=fun _ _ _ _=>rfl
 go_wp2_with fail
 rw [<- ae.z];refine aq.mono ?_;rintro au l ⟨rfl,ax,av,q,u,am⟩;have h:=ω av;have ad:=ω u;have X:=ω ax;have az:=u.lt;clear aq ae ax av;rcases af.z with ⟨ao,a8,s,k⟩ | ⟨q',a6,hq,s,k⟩
 · rw [s];have i:=ω k;have e1:((ao:Int) == 0)=false:=beq_eq_false_iff_ne.2 (by omega);have e2:((ao:Int) != 0)=true:=bne_iff_ne.2 (by omega);clear k s af am u ad;obtain⟨y,z,G,H,r4,r5,I,J,K,L,B,C,D,F⟩:=Blk.c14 (show Blk l (w.heap.size) _ #[(0:Int),.string ⟨#[]⟩,(0:Int),(0:Int),(0:Int),.string ⟨#[]⟩,.string ⟨#[]⟩,(0:Int),.string ⟨#[]⟩,.string ⟨#[]⟩,.string ⟨#[]⟩,(0:Int),.string ⟨#[]⟩,(0:Int)] from h.z);obtain⟨M,N,z2,S,z4,T,U,V,z8,W,O,P,Q,R⟩:=Blk.z14 (h.z);have x:=h.lt;go_wp2;have d:=nG gF h.z;have c:=X.trans (kY l w gF);obtain⟨e,a⟩:∃ e,mQ l w gF=e:=⟨_,rfl⟩;rw [a] at d c;unfold mQ at a;dsimp only [gF,bK,aV,aN] at a;simp only [a];clear a x y z G H r4 r5 I J K L B C D F M N z2 S z4 T U V z8 W O P Q R;obtain⟨y0,y1,y2,y3,y4,y5,y6,y7,y8,y9,a0,a1,a2,a3⟩:=Blk.c14 (show Blk e (w.heap.size) _ #[(0:Int),.string ⟨#[]⟩,(0:Int),(0:Int),(0:Int),.string ⟨#[]⟩,.string ⟨#[]⟩,(0:Int),.string ⟨#[]⟩,.string ⟨#[]⟩,.string ⟨#[]⟩,(0:Int),.string ⟨#[]⟩,(0:Int)] from d);have o:=ω c;clear d c;refine bodyPost_ret (v:=.tuple #[.agg #[.int .i64 0,.string ⟨#[]⟩,.int .i64 0,.int .i64 0,.int .i64 0,.string ⟨#[]⟩,.string ⟨#[]⟩,.int .i64 0,.string ⟨#[]⟩,.string ⟨#[]⟩,.string ⟨#[]⟩,.int .i64 0,.string ⟨#[]⟩,.int .i64 0],.int .i64 ao]) (by simp [results,Tryz.results27,go_sem, *]) rfl ?_;exact⟨by rw [i.z]; rfl,o⟩
 · rw [s];obtain rfl:=am q' a6 hq;have HC:=ω (show ψ 52 #[.agg (nY q)] l (bH (cN q) l) from EE q l (zK hq));obtain⟨E,a4⟩:∃ E,cN q=E:=⟨_,rfl⟩;rw [a4] at k HC;have i:=ω k;obtain⟨d0,d1,d2,d3,d4,d5,d6,d7,d8,d9,ah,ai,aj,ak⟩:=Blk.c14 (u);clear k s af am u hq
   go_wp2_with fail
   refine HC.mono ?_;rintro au m ⟨rfl,ab⟩;have g:=ω (h.below ab h.lt);have Y:=ad.below ab az;have ap:=ω (X.trans (ab.mono X.size));have L0:=Y.lt;clear ab h ad X HC az d0 d1 d2 d3 d4 d5 d6 d7 d8 d9 ah ai aj ak;by_cases r:E=0
   · subst r;have ac:=ω (show rqF b=(q,0) by rw [i.z,if_pos rfl]);clear i;obtain⟨d0,d1,d2,d3,d4,d5,d6,d7,d8,d9,ah,ai,aj,ak⟩:=Blk.c14 (Y);clear Y;obtain⟨y,z,G,H,r4,r5,I,J,K,L,B,C,D,F⟩:=Blk.c14 (show Blk m (w.heap.size) _ #[(0:Int),.string ⟨#[]⟩,(0:Int),(0:Int),(0:Int),.string ⟨#[]⟩,.string ⟨#[]⟩,(0:Int),.string ⟨#[]⟩,.string ⟨#[]⟩,.string ⟨#[]⟩,(0:Int),.string ⟨#[]⟩,(0:Int)] from g.z);obtain⟨M,N,z2,S,z4,T,U,V,z8,W,O,P,Q,R⟩:=Blk.z14 (g.z);have x:=g.lt;go_wp2;have d:=nG q g.z;have c:=ap.trans (kY m w q);obtain⟨e,a⟩:∃ e,mQ m w q=e:=⟨_,rfl⟩;rw [a] at d c;unfold mQ at a;simp only [a];clear a x y z G H r4 r5 I J K L B C D F M N z2 S z4 T U V z8 W O P Q R d0 d1 d2 d3 d4 d5 d6 d7 d8 d9 ah ai aj ak;obtain⟨y0,y1,y2,y3,y4,y5,y6,y7,y8,y9,a0,a1,a2,a3⟩:=Blk.c14 (d);have o:=ω c;clear d c;refine bodyPost_ret (v:=.tuple #[.agg #[.int .i64 q.kind,.string q.job.name,.int .i64 q.job.prio,.int .i64 q.job.need,.int .i64 q.job.tries,.string q.job.tag,.string q.node.name,.int .i64 q.node.room,.string q.node.zone,.string q.lease.job,.string q.lease.node,.int .i64 q.lease.till,.string q.name,.int .i64 q.n],.int .i64 0]) (by simp [results,Tryz.results27,go_sem, *]) rfl ?_;exact⟨by rw [ac.z]; rfl,o⟩
   · have ac:=ω (show rqF b=(gF,E) by rw [i.z,if_neg r]);have e1:(E == 0)=false:=beq_eq_false_iff_ne.2 r;have e2:(E != 0)=true:=bne_iff_ne.2 r;clear i Y r;obtain⟨y,z,G,H,r4,r5,I,J,K,L,B,C,D,F⟩:=Blk.c14 (show Blk m (w.heap.size) _ #[(0:Int),.string ⟨#[]⟩,(0:Int),(0:Int),(0:Int),.string ⟨#[]⟩,.string ⟨#[]⟩,(0:Int),.string ⟨#[]⟩,.string ⟨#[]⟩,.string ⟨#[]⟩,(0:Int),.string ⟨#[]⟩,(0:Int)] from g.z);obtain⟨M,N,z2,S,z4,T,U,V,z8,W,O,P,Q,R⟩:=Blk.z14 (g.z);have x:=g.lt;go_wp2;have d:=nG gF g.z;have c:=ap.trans (kY m w gF);obtain⟨e,a⟩:∃ e,mQ m w gF=e:=⟨_,rfl⟩;rw [a] at d c;unfold mQ at a;dsimp only [gF,bK,aV,aN] at a;simp only [a];clear a x y z G H r4 r5 I J K L B C D F M N z2 S z4 T U V z8 W O P Q R;obtain⟨y0,y1,y2,y3,y4,y5,y6,y7,y8,y9,a0,a1,a2,a3⟩:=Blk.c14 (show Blk e (w.heap.size) _ #[(0:Int),.string ⟨#[]⟩,(0:Int),(0:Int),(0:Int),.string ⟨#[]⟩,.string ⟨#[]⟩,(0:Int),.string ⟨#[]⟩,.string ⟨#[]⟩,.string ⟨#[]⟩,(0:Int),.string ⟨#[]⟩,(0:Int)] from d);have o:=ω c;clear d c;refine bodyPost_ret (v:=.tuple #[.agg #[.int .i64 0,.string ⟨#[]⟩,.int .i64 0,.int .i64 0,.int .i64 0,.string ⟨#[]⟩,.string ⟨#[]⟩,.int .i64 0,.string ⟨#[]⟩,.string ⟨#[]⟩,.string ⟨#[]⟩,.int .i64 0,.string ⟨#[]⟩,.int .i64 0],.int .i64 E]) (by simp [results,Tryz.results27,go_sem, *]) rfl ?_;exact⟨by rw [ac.z]; rfl,o⟩
def zC (F n i:Nat):List Value:=[if i<n then .pointer (some ⟨F+i,0,none⟩) else .pointer none,.bool false,.bool false,.slice none 0 0]
def rP (V F n:Nat):Array Value:=(.pointer (some ⟨V,0,none⟩) :: (zC F n 0 ++ zC F n 1 ++ zC F n 2 ++ zC F n 3 ++ zC F n 4 ++ zC F n 5 ++ zC F n 6 ++ zC F n 7)).toArray
theorem JN {V F n:Nat} (h:n<8):(rP V F n)[1+n*4]? = some (.pointer none):=by rcases lt8 h with rfl | rfl | rfl | rfl | rfl | rfl | rfl | rfl <;> rfl
theorem GE {V F n:Nat} (h:n<8):(rP V F n).setIfInBounds (1+n*4) (π (F+n) 0)=rP V F (n+1):=by
 rcases lt8 h with rfl | rfl | rfl | rfl | rfl | rfl | rfl | rfl <;> simp [rP,zC]
theorem GF (V F:Nat) (st:ah):rP V F 8=ou V (fun i=>F+i) (fun _=>.slice none 0 0) (qG st).cs:=by simp [rP,zC,ou,oL,qG]
def Bo (st:ah) (w:World) (e:Ending) (w':World):Prop:=
 Below w w w'/\((aE st≠0/\e = .returned (.tuple #[.pointer none,(aE st)])) \/
  (aE st=0/\∃ g V a c,e = .returned (.tuple #[π g 0,(0:Int)])/\cK w' g V a (fun _=>.slice none 0 0) (qG st).cs st c 0/\∀ b,sZ g V a (fun _=>.slice none 0 0) b->w.heap.size<=b))
structure L3 (w0:World) (g V F:Nat) (st:ah) (x:StA) (n:Nat) (w:World):Prop where
 below:Below w0 w0 w
 blk:Blk w g 61 (rP V F n)
 srv:SrvAt w 103 V st x 0
 size:w.heap.size=F+n
 feed:∀ j,j<n->lS w (F+j) ⟨#[]⟩ 0 0
 lo:w0.heap.size<=g/\w0.heap.size<=V/\w0.heap.size<=F
theorem JO (V F n:Nat):gJ (rP V F n):=nR (by
 intro u a s e;subst e;simp only [rP,List.mem_toArray,List.mem_cons,List.mem_append] at a
 have H:∀ i,(Value.string s) ∉ zC F n i:=by
  intro i a;simp only [zC,List.mem_cons,List.not_mem_nil,or_false] at a;rcases a with h | h | h | h
  · split at h <;> cases h
  · cases h
  · cases h
  · cases h
 rcases a with h | ((((((h | h) | h) | h) | h) | h) | h) | h
 · cases h
 all_goals exact H _ h)
theorem L3.step {w0 w w':World} {g V F:Nat} {st:ah} {x:StA} {n:Nat} (h:L3 w0 g V F st x n w) (o:n<8) (j:w'=((w.setCell ⟨g,1+n*4,none⟩ (π w 0)).alloc (.cells #[.string ⟨#[]⟩,(0:Int),(0:Int)] 105)).drew):L3 w0 g V F st x (n+1) w':=by
 have q:w'=(w.drew.alloc (.cells #[.string ⟨#[]⟩,(0:Int),(0:Int)] 105)).setCell ⟨g,1+n*4,none⟩ (π w 0):=by rw [j,World.setCell_alloc_past (w:=w.drew) _ _ _ _ h.blk.lt]; rfl
 clear j;subst q;have a:Below w w (w.drew.alloc (.cells #[.string ⟨#[]⟩,(0:Int),(0:Int)] 105)):=(θ).drew.alloc lQ _;have b:=h.blk.below a h.blk.lt;have p:=h.srv.below a;have c:=aQ (w.drew.alloc (.cells #[.string ⟨#[]⟩,(0:Int),(0:Int)] 105)) g (1+n*4) (π w 0);have d:=h.size;have m:g≠V:=bC h.blk h.srv.blk (by decide);have i:lS (w.drew.alloc (.cells #[.string ⟨#[]⟩,(0:Int),(0:Int)] 105)) w ⟨#[]⟩ 0 0:=n5 w.drew _;have s:(w.drew.alloc (.cells #[.string ⟨#[]⟩,(0:Int),(0:Int)] 105)).heap.size=w.heap.size+1:=by simp
 refine⟨cR (h.below.trans (a.mono h.below.size)) c h.lo.1,?_,p.other b (JO _ _ _) c m.symm,?_,fun k r=>?_,h.lo⟩
 · have:=b.set (1+n*4) (π w 0);rw [d,GE o] at this;rw [d];exact this
 · show ((w.drew.alloc (.cells #[.string ⟨#[]⟩,(0:Int),(0:Int)] 105)).setCell _ _).heap.size=_
   simp [World.setCell,d]; omega
 · by_cases l:k=n
   · subst l;rw [<- d];exact ay c i (bC i b (by decide))
   · have e:=h.feed k (by omega);have f:=Blk.below e a (Blk.lt e);exact ay c f (bC f b (by decide))
theorem Lo (st:ah) (x:StA) (w:World) (K:StAt w w st x) (L:Tabs w) :
 ψ 8 #[.agg (stC st x)] w (Bo st w):=by
 obtain⟨W,k⟩:∃ W,w.alloc (.cells (stC st x) 26)=W:=⟨_,rfl⟩;have m:Below w w W:=by rw [<- k]; exact (θ).alloc lQ _
 have q:Blk W w 26 (stC st x):=by rw [<- k]; exact n5 w _
 have y:=ω (show ψ 13 #[.agg #[st.rev,.slice x.aj x.nj x.cj,.slice x.an x.nn x.cn,.slice x.al x.nl x.cl]] W (zL st W) from Js st x W (K.upS m) (L.below m));obtain⟨c0,Z,c2,c3⟩:=Blk.c4 (q);have aa:=q.lt;have j:=ω m;have p:=ω k;obtain⟨E,I⟩:∃ E,aE st=E:=⟨_,rfl⟩;have c:=ω I;clear m q k I K L;unfold stC at p |-;go_enter Tryz.func8,Tryz.ntmps8
 go_wp2_with fail
 try simp only [p.z]
 clear p;refine y.mono ?_;rintro e h ⟨O,P⟩;rw [c.z] at P;have d:=ω (j.trans (O.mono j.size));have S:=j.size;have D:=ω S;clear O y j S c0 Z c2 c3 aa;rcases P with ⟨r,rfl⟩ | ⟨Q,V,u,rfl,M,N⟩
 · have d1:(E != 0)=true:=by simpa using r
   have F:=ω (show Bo st w (.returned (.tuple #[.pointer none,E])) h from ⟨d,.inl ⟨by rw [c.z]; exact r,by rw [c.z]⟩⟩);clear r d c;go_wp2;go_ret2;exact F
 · have X:=ω (c.trans Q);subst Q;have B:=ω N;have z:=ω M;clear M N c;obtain⟨b,o⟩:∃ b,h.alloc (.cells #[π V 0,.pointer none,.bool false,.bool false,.slice none 0 0,.pointer none,.bool false,.bool false,.slice none 0 0,.pointer none,.bool false,.bool false,.slice none 0 0,.pointer none,.bool false,.bool false,.slice none 0 0,.pointer none,.bool false,.bool false,.slice none 0 0,.pointer none,.bool false,.bool false,.slice none 0 0,.pointer none,.bool false,.bool false,.slice none 0 0,.pointer none,.bool false,.bool false,.slice none 0 0] 61)=b:=⟨_,rfl⟩;obtain⟨g,s⟩:∃ g,h.heap.size=g:=⟨_,rfl⟩;have l:Below h h b:=by rw [<- o]; exact (θ).alloc lQ _
   have U:=ω (show L3 w g V b st u 0 b from ⟨d.trans (l.mono d.size),by rw [<- o,<- s]; exact n5 h _,B.below l,by rw [Nat.add_zero],fun T hj=>absurd hj (by omega),by have:=d.size; have:=z.z; have:=D.z; have:=l.size; omega⟩);have G:=ω o;have C:=ω s;clear o s l z B D d
   go_wp2_with fail
   simp only [G.z,C.z];clear G C
   go_loopw [19] (fun i wr=>∃ n,n<=8/\i = .int .i64 ((n:Nat):Int)/\L3 w g V b st u n wr) (fun i _=>8 - (intOf i).toNat)
   case atStart=>exact⟨0,by omega,rfl,U⟩
   case round=>
    obtain⟨n,hn,rfl,a⟩:=hrel;have v:=ω a;have ab:=a.blk.lt;by_cases hlt:n<8
    · have y0:ζ wr g (1+n*4) (.pointer none):=by rw [a.blk.cell]; exact JN hlt
      have z0:κ wr g (1+n*4):=a.blk.thaw _;have Y:=ω (v.step hlt rfl);clear a
      go_wp2_with fail
      go_region_with (go_at_call 14; refine (NC _).mono ?_; rintro e w' ⟨rfl,rfl⟩)
      go_wp2
      go_roundw
      case rel=>exact⟨n+1,by omega,by go_num,Y⟩
      case measure=>simp [intOf]; omega
    · obtain rfl:n=8:=by omega
      have J:Bo st w (.returned (.tuple #[π g 0,(0:Int)])) wr:=by
       refine⟨a.below,.inr ⟨X,g,V,fun i=>b.heap.size+i,u,rfl,⟨by rw [<- GF]; exact a.blk,a.srv,fun i R=>a.feed i R,fun i _=>ByteRow.nil _,fun i T _ _ e=>by omega,fun i T H _ _ e _=>by cases e⟩,fun H hb=>?_⟩⟩;have:=a.lo;rcases hb with e | e | ⟨i,R,e | e⟩
       · omega
       · omega
       · have e:H=b.heap.size+i:=e;omega
       · cases e
      have F:=ω J;clear a J v;go_wp2;go_ret2;exact F
end Go.Proofs.YtimglglgcgpjgabGreatDoor
