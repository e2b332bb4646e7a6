/- Of the proof of a statement: Differ, Between. -/
import Derived.Lib.QuietBelow
import Derived.Test.YtimglglgcgpjgaaGreatDoorQFrsR
set_option linter.unusedVariables false
set_option linter.unusedSimpArgs false
set_option maxRecDepth 100000
set_option maxHeartbeats 8000000
namespace Go.Proofs.YtimglglgcgpjgaaGreatDoor
open Go.RowKit
def Om {α:Type} (key:α->ByteArray) (a b:List α) (T:TypeId) (sz:Nat) (enc:α->List Value) (w:World) (e:Ending) (w':World):Prop:=
 ∃ A c G d,e = .returned (.tuple #[.slice A (newL a b).length c,.slice G (bI key a b).length d])/\w'.ownsRow (w.heap.size+1) T sz (.slice A (newL a b).length c) (newL a b).length (au enc (newL a b)) /\
  w'.ownsRow (w.heap.size+1) 9 1 (.slice G (bI key a b).length d) (bI key a b).length (au lR (bI key a b))/\Below w w w'
structure xW (w0:World) (F:FuncId) (wr:World):Prop where
 below:Below w0 w0 wr
 key:ζ wr w0 0 (.func (.func F) #[] #[])
 size:w0.heap.size<wr.heap.size
theorem xW.kept {w0 w w':World} {F:FuncId} (h:xW w0 F w) (a:Below w w w'):xW w0 F w':=
 ⟨h.below.trans (a.mono h.below.size),(a.cell (p:=⟨w0,0,none⟩) h.size).trans h.key,u7 h.size a.size⟩
theorem xW.grew {w0 w w':World} {F:FuncId} {v v':Value} (h:xW w0 F w) (b:cY w w' v v') (c:∀ k,v.ownBlock=some k->w0.heap.size+1<=k):xW w0 F w':=
 have a:=b.below (B:=w0.heap.size+1) h.size c
 ⟨h.below.trans (a.mono (Nat.le_succ _)),(a.cell (p:=⟨w0,0,none⟩) (Nat.lt_succ_self _)).trans h.key,u7 h.size a.size⟩
theorem rz {α:Type} {key:α->ByteArray} {a b:List α} {k:Nat} {x:α} (h:a[k]? = some x):((b.any fun y=>decide (key y=key x))=false->(((a.take (k+1)).filter fun x=>!b.any fun y=>decide (key y=key x)).map key)=(((a.take k).filter fun x=>!b.any fun y=>decide (key y=key x)).map key) ++ [key x])/\((b.any fun y=>decide (key y=key x))=true->(((a.take (k+1)).filter fun x=>!b.any fun y=>decide (key y=key x)).map key)=(((a.take k).filter fun x=>!b.any fun y=>decide (key y=key x)).map key)):=by
 constructor
 · intro c;rw [nk (p:=fun x=>!b.any fun y=>decide (key y=key x)) h (by simp only [c]; rfl),List.map_append]; rfl
 · intro c;rw [oT (p:=fun x=>!b.any fun y=>decide (key y=key x)) h (by simp only [c]; rfl)]
theorem IR (h:ByteArray) (j:Int) (k:Int) (i:Int) (l:ByteArray) (n:ByteArray) (v:Int) (x:Int) (u:Int) (B:ByteArray) (r g:Nat) (w:World) (o:ζ w r 0 (.func (.func 129) #[] #[])) (q:Blk w g 85 #[n,v,x,u,B]) :
 ψ 192 #[.agg #[h,j,k,i,l],π r 0,π g 0] w fun I M=>I = .returned (.bool (decide (h=n)))/\Below w w M:=by
 rw [<- oP];have m:=(Below.refl w w).alloc lJ (.cells #[h,j,k,i,l] 85);have z:=block_lt_of_cell o;have K:=q.lt;have e:=q.alloc (.cells #[h,j,k,i,l] 85);generalize c:w.alloc (.cells #[h,j,k,i,l] 85)=b at m e;have D:=fun d a=>cell_regrown (show ζ b w 0 (.string h) by rw [<- c]; simp [go_sem]) d a;have N:=fun d a=>cell_regrown (show ζ b g 0 (.string n) from e.cell 0) d a;have E:=fun d a=>cell_regrown (show ζ b w 1 (.int .i64 j) by rw [<- c]; simp [go_sem]) d a;have O:=fun d a=>cell_regrown (show ζ b g 1 (.int .i64 v) from e.cell 1) d a;have F:=fun d a=>cell_regrown (show ζ b w 2 (.int .i64 k) by rw [<- c]; simp [go_sem]) d a;have P:=fun d a=>cell_regrown (show ζ b g 2 (.int .i64 x) from e.cell 2) d a;have G:=fun d a=>cell_regrown (show ζ b w 3 (.int .i64 i) by rw [<- c]; simp [go_sem]) d a;have Q:=fun d a=>cell_regrown (show ζ b g 3 (.int .i64 u) from e.cell 3) d a;have H:=fun d a=>cell_regrown (show ζ b w 4 (.string l) by rw [<- c]; simp [go_sem]) d a;have R:=fun d a=>cell_regrown (show ζ b g 4 (.string B) from e.cell 4) d a;have L:=fun d a=>cell_regrown ((m.cell (p:=⟨r,0,none⟩) z).trans o) d a;have s:=ω m;have C:=ω c;clear m c o q z K e;go_enter Tryz.func192,Tryz.ntmps192
 go_wp2_with fail
 rw [C.z];refine wp_region_quiet_below (by kernel_rfl) (by kernel_rfl) ?_
 repeat (go_big_quiet_step ((go_at_call 129; exact Calls.regrown_of (kF _ _ _ _ _ _))))
 refine wpQuiet_nil ?_;intro _ J;obtain⟨⟨nq,osq⟩,hw''⟩:=J;subst hw'';have y:=ω (s.trans ((below_regrown b nq osq).mono s.size));clear D N E O F P G Q H R L;dsimp only;generalize Sort.grow (redrawn b nq) osq=S at y |-;go_wp2;go_ret;exact⟨rfl,y⟩
theorem FP (c:ByteArray) (e:Int) (g:ByteArray) (l:ByteArray) (r:Int) (s:ByteArray) (o j:Nat) (w:World) (m:ζ w o 0 (.func (.func 132) #[] #[])) (n:Blk w j 70 #[l,r,s]) :
 ψ 195 #[.agg #[c,e,g],π o 0,π j 0] w fun C G=>C = .returned (.bool (decide (c=l)))/\Below w w G:=by
 rw [<- oP];have k:=(Below.refl w w).alloc lJ (.cells #[c,e,g] 70);have v:=block_lt_of_cell m;have E:=n.lt;have i:=n.alloc (.cells #[c,e,g] 70);generalize h:w.alloc (.cells #[c,e,g] 70)=b at k i;have y:=fun d a=>cell_regrown (show ζ b w 0 (.string c) by rw [<- h]; simp [go_sem]) d a;have H:=fun d a=>cell_regrown (show ζ b j 0 (.string l) from i.cell 0) d a;have z:=fun d a=>cell_regrown (show ζ b w 1 (.int .i64 e) by rw [<- h]; simp [go_sem]) d a;have I:=fun d a=>cell_regrown (show ζ b j 1 (.int .i64 r) from i.cell 1) d a;have B:=fun d a=>cell_regrown (show ζ b w 2 (.string g) by rw [<- h]; simp [go_sem]) d a;have J:=fun d a=>cell_regrown (show ζ b j 2 (.string s) from i.cell 2) d a;have F:=fun d a=>cell_regrown ((k.cell (p:=⟨o,0,none⟩) v).trans m) d a;have q:=ω k;have x:=ω h;clear k h m n v E i;go_enter Tryz.func195,Tryz.ntmps195
 go_wp2_with fail
 rw [x.z];refine wp_region_quiet_below (by kernel_rfl) (by kernel_rfl) ?_
 repeat (go_big_quiet_step ((go_at_call 132; exact Calls.regrown_of (ji _ _ _ _))))
 refine wpQuiet_nil ?_;intro _ D;obtain⟨⟨nq,osq⟩,hw''⟩:=D;subst hw'';have u:=ω (q.trans ((below_regrown b nq osq).mono q.size));clear y H z I B J F;dsimp only;generalize Sort.grow (redrawn b nq) osq=K at u |-;go_wp2;go_ret;exact⟨rfl,u⟩
theorem DY (c:ByteArray) (e:ByteArray) (g:Int) (n:ByteArray) (r:ByteArray) (s:Int) (o j:Nat) (w:World) (l:ζ w o 0 (.func (.func 135) #[] #[])) (m:Blk w j 66 #[n,r,s]) :
 ψ 198 #[.agg #[c,e,g],π o 0,π j 0] w fun C G=>C = .returned (.bool (decide (c=n)))/\Below w w G:=by
 rw [<- oP];have k:=(Below.refl w w).alloc lJ (.cells #[c,e,g] 66);have v:=block_lt_of_cell l;have E:=m.lt;have i:=m.alloc (.cells #[c,e,g] 66);generalize h:w.alloc (.cells #[c,e,g] 66)=b at k i;have y:=fun d a=>cell_regrown (show ζ b w 0 (.string c) by rw [<- h]; simp [go_sem]) d a;have H:=fun d a=>cell_regrown (show ζ b j 0 (.string n) from i.cell 0) d a;have z:=fun d a=>cell_regrown (show ζ b w 1 (.string e) by rw [<- h]; simp [go_sem]) d a;have I:=fun d a=>cell_regrown (show ζ b j 1 (.string r) from i.cell 1) d a;have B:=fun d a=>cell_regrown (show ζ b w 2 (.int .i64 g) by rw [<- h]; simp [go_sem]) d a;have J:=fun d a=>cell_regrown (show ζ b j 2 (.int .i64 s) from i.cell 2) d a;have F:=fun d a=>cell_regrown ((k.cell (p:=⟨o,0,none⟩) v).trans l) d a;have q:=ω k;have x:=ω h;clear k h l m v E i;go_enter Tryz.func198,Tryz.ntmps198
 go_wp2_with fail
 rw [x.z];refine wp_region_quiet_below (by kernel_rfl) (by kernel_rfl) ?_
 repeat (go_big_quiet_step ((go_at_call 135; exact Calls.regrown_of (fG _ _ _ _))))
 refine wpQuiet_nil ?_;intro _ D;obtain⟨⟨nq,osq⟩,hw''⟩:=D;subst hw'';have u:=ω (q.trans ((below_regrown b nq osq).mono q.size));clear y H z I B J F;dsimp only;generalize Sort.grow (redrawn b nq) osq=K at u |-;go_wp2;go_ret;exact⟨rfl,u⟩
def rA (c:Type) (d:Nat) (e:c->List Value) (h:FuncId) (i:FuncId) (j:c->ByteArray) (k:TypeId):Prop:=
 ∀ (a b:List c) (A B:Option Addr) (n f m g:Nat) (w:World) (ha:bC w w d A n (au e a)) (q:a.length=n) (p:n<=1000) (l:bC w w d B m (au e b)) (r:b.length=m) (o:m<=1000),ψ h #[.slice A n f,.slice B m g,.func (.func i) #[] #[]] w (Om j a b k d e w)
theorem rB:rA aC 5 aS 155 129 aC.name 85 /\ rA av 3 aH 156 132 av.name 70 /\ rA ak 3 aB 157 135 ak.job 66:=by
 refine⟨@fun c b A ae K cA J cB w ha la hn hb lb hm=>(fun(v:Unit)=>?_) (),@fun c b A ae K cA J cB w ha la hn hb lb hm=>(fun(z a1:Unit)=>?_) () (),@fun c b A ae K cA J cB w ha la hn hb lb hm=>(fun(E a1:Unit)=>?_) () ()⟩<;>(
 first|(guard_hyp v;have ag:Tg 18:=⟨⟩;have aj:=@aT;have al:Tg 19:=⟨⟩)|(guard_hyp z;have ag:Tg 20:=⟨⟩;have aj:=@aO;have al:Tg 21:=⟨⟩)|(have ag:Tg 22:=⟨⟩;have aj:=@aI;have al:Tg 23:=⟨⟩)
 have HA:=ω ha;have HB:=ω hb;have La:=ω la;have Lb:=ω lb;have H0:=ω (show ∀ t,xW w ag (χ w #[.func (.func ag) #[] #[]] t) from fun t=>⟨(θ).alloc lJ _,by simp [go_sem],by simp⟩);clear ha hb la lb
 first|(guard_hyp v;go_enter Tryz.func155,Tryz.ntmps155)|(guard_hyp z;go_enter Tryz.func156,Tryz.ntmps156)|go_enter Tryz.func157,Tryz.ntmps157
 go_wp2
 first|(guard_hyp v;go_loopw [14,6] (fun i N wr=>∃ (k:Nat) (C:Option Addr) (e:Nat) (d:List aC),k<=J/\i = .int .i64 k/\d=((b.take k).filter fun x=>!c.any (eqB x))/\N = .slice C d.length e/\xW w 129 wr/\wr.ownsRow (w.heap.size+1) 85 5 (.slice C d.length e) d.length (au aS d)) (fun i _ _=>J - (intOf i).toNat))|(guard_hyp z;go_loopw [14,6] (fun i N wr=>∃ (k:Nat) (C:Option Addr) (e:Nat) (d:List av),k<=J/\i = .int .i64 k/\d=((b.take k).filter fun x=>!c.any (eqB x))/\N = .slice C d.length e/\xW w 132 wr/\wr.ownsRow (w.heap.size+1) 70 3 (.slice C d.length e) d.length (au aH d)) (fun i _ _=>J - (intOf i).toNat))|go_loopw [14,6] (fun i N wr=>∃ (k:Nat) (C:Option Addr) (e:Nat) (d:List ak),k<=J/\i = .int .i64 k/\d=((b.take k).filter fun x=>!c.any (eqB x))/\N = .slice C d.length e/\xW w 135 wr/\wr.ownsRow (w.heap.size+1) 66 3 (.slice C d.length e) d.length (au aB d)) (fun i _ _=>J - (intOf i).toNat)
 case atStart=>exact⟨0,none,0,[],Nat.zero_le _,rfl,by simp,rfl,H0.z _,World.ownsRow_nil _ _ _ _⟩
 case round=>
  clear H0;obtain⟨k,C,e,d,hk,rfl,am,rfl,I,ho⟩:=hrel;have ah:=ω I;have Ho:=ω ho;have ab:=ω am;have a7:d.length<=k:=by rw [am]; exact kG _ _ _
  have a0:=I.size;clear am ho;by_cases hlt:k<J
  · obtain⟨x,Y⟩:∃ x,b[k]? = some x:=⟨_,gO (by rw [Lb.z]; exact hlt)⟩;obtain⟨bb,aA,rfl,a4,S⟩:=(HB.below I.below).eC aj Lb.z Y;have Hf:=ω Y
    first
     |(
      guard_hyp v
      obtain⟨a,q,o,s,r⟩:=x;obtain⟨c0,e,c2,c3,c4⟩:=rc5 S)
     |(
      guard_hyp z
      obtain⟨a,l,n⟩:=x;obtain⟨c0,e,c2⟩:=rc3 S)
     |(
      guard_hyp E
      obtain⟨job,node,m⟩:=x;obtain⟨c0,e,c2⟩:=rc3 S)
    have a6:bb<wr.heap.size:=by omega
    first
     |(
      guard_hyp v
      have G:Below wr wr (χ wr #[a,q,o,s,r] 85):=(θ).alloc lJ _;have F:=ω (show Blk (χ wr #[a,q,o,s,r] 85) wr 85 #[a,q,o,s,r] from n5 wr _))
     |(
      guard_hyp z
      have G:Below wr wr (χ wr #[a,l,n] 70):=(θ).alloc lJ _;have F:=ω (show Blk (χ wr #[a,l,n] 70) wr 70 #[a,l,n] from n5 wr _))
     |(
      guard_hyp E
      have G:Below wr wr (χ wr #[job,node,m] 66):=(θ).alloc lJ _;have F:=ω (show Blk (χ wr #[job,node,m] 66) wr 66 #[job,node,m] from n5 wr _))
    have j:=I.kept G;have Q:=ω j;have R:=ω (aF Ho.z G)
    first
     |(
      guard_hyp v
      have u:=ω (xX.1 ⟨a,q,o,s,r⟩ c A K cA (χ wr #[a,q,o,s,r] 85) ((HA.below j.below).more j.below.size) La.z (by omega));rw [show (Value.agg (aS ⟨a,q,o,s,r⟩).toArray) = .agg #[a,q,o,s,r] from rfl] at u)
     |(
      guard_hyp z
      have u:=ω (xX.2.1 ⟨a,l,n⟩ c A K cA (χ wr #[a,l,n] 70) ((HA.below j.below).more j.below.size) La.z (by omega));rw [show (Value.agg (aH ⟨a,l,n⟩).toArray) = .agg #[a,l,n] from rfl] at u)
     |(
      guard_hyp E
      have u:=ω (xX.2.2 ⟨job,node,m⟩ c A K cA (χ wr #[job,node,m] 66) ((HA.below j.below).more j.below.size) La.z (by omega));rw [show (Value.agg (aB ⟨job,node,m⟩).toArray) = .agg #[job,node,m] from rfl] at u)
    clear S Y G j I
    go_wp2_with fail
    refine u.mono ?_;rintro ax B ⟨rfl,D⟩;have X:=ω (Q.kept D);have U:=ω (aF R.z D);have h:=F.below D F.lt;have a9:=h.lt
    first
     |(
      guard_hyp v
      obtain⟨j0,j1,j2,j3,j4⟩:=Blk.c5 (h);clear D u F Q R h c0 e c2 c3 c4;cases H:c.any (eqB ⟨a,q,o,s,r⟩))
     |(
      guard_hyp z
      have j0:ζ B wr 0 (.string a):=h.cell 0;have j1:ζ B wr 1 (.int .i64 l):=h.cell 1;have j2:ζ B wr 2 (.string n):=h.cell 2;clear D u F Q R h c0 e c2;cases H:c.any (eqB ⟨a,l,n⟩))
     |(
      guard_hyp E
      have j0:ζ B wr 0 (.string job):=h.cell 0;have j1:ζ B wr 1 (.string node):=h.cell 1;have j2:ζ B wr 2 (.int .i64 m):=h.cell 2;clear D u F Q R h c0 e c2;cases H:c.any (eqB ⟨job,node,m⟩))
    · have V:=ω (nk (p:=fun x=>!c.any (eqB x)) Hf.z (by simp only [H]; rfl));have ad:w.heap.size+1<=B.heap.size:=by omega
      clear H
      first
       |(
        guard_hyp v
        go_wp2_with (at_builtin; refine cI aS rfl _ _ 22 85 (.agg #[.string ⟨#[]⟩,(0:Int),(0:Int),(0:Int),.string ⟨#[]⟩]) 5 56 rfl Tryz.underlying22 mI rfl (by decide) aT kV (w.heap.size+1) _ _ _ d rfl U.z _ ⟨a,q,o,s,r⟩ rfl _ (by simp) rfl (by omega) (by unfold maxLen; omega) ad ?_; intro P c2 w4 T Z))
       |(
        guard_hyp z
        go_wp2_with (at_builtin; refine cI aH rfl _ _ 23 70 (.agg #[.string ⟨#[]⟩,(0:Int),.string ⟨#[]⟩]) 3 40 rfl Tryz.underlying23 kW rfl (by decide) aO jA (w.heap.size+1) _ _ _ d rfl U.z _ ⟨a,l,n⟩ rfl _ (by simp) rfl (by omega) (by unfold maxLen; omega) ad ?_; intro P c2 w4 T Z))
       |(
        guard_hyp E
        go_wp2_with (at_builtin; refine cI aB rfl _ _ 24 66 (.agg #[.string ⟨#[]⟩,.string ⟨#[]⟩,(0:Int)]) 3 40 rfl Tryz.underlying24 jB rfl (by decide) aI gY (w.heap.size+1) _ _ _ d rfl U.z _ ⟨job,node,m⟩ rfl _ (by simp) rfl (by omega) (by unfold maxLen; omega) ad ?_; intro P c2 w4 T Z))
      have aa:=X.grew Z (fun k hk=>(U.lt k hk).1)
      go_roundw
      first
       |(
        guard_hyp v
        case rel=>exact⟨k+1,P,c2,d ++ [⟨a,q,o,s,r⟩],by omega,by go_num,by rw [V.z,<- ab.z],by simp,aa,by simpa using T⟩)
       |(
        guard_hyp z
        case rel=>exact⟨k+1,P,c2,d ++ [⟨a,l,n⟩],by omega,by go_num,by rw [V.z,<- ab.z],by simp,aa,by simpa using T⟩)
       |(
        guard_hyp E
        case rel=>exact⟨k+1,P,c2,d ++ [⟨job,node,m⟩],by omega,by go_num,by rw [V.z,<- ab.z],by simp,aa,by simpa using T⟩)
      case measure=>simp [intOf]; omega
    · have V:=ω (oT (p:=fun x=>!c.any (eqB x)) Hf.z (by simp only [H]; rfl));clear H;go_wp2
      go_roundw
      case rel=>exact⟨k+1,C,e,d,by omega,by go_num,by rw [V.z,<- ab.z],rfl,X.z,U.z⟩
      case measure=>simp [intOf]; omega
  · have a8:d=newL c b:=by rw [ab.z,filter_all _ (by rw [Lb.z]; omega)]; rfl
    subst a8;clear ab;have ao:=Ho;go_wp2
    first|(guard_hyp v;go_loopw [29,7] (fun i N wr=>∃ (k:Nat) (L:Option Addr) (M:Nat) (g:List ByteArray),k<=K/\i = .int .i64 k/\g=(((c.take k).filter fun x=>!b.any fun y=>decide (y.name=x.name)).map aC.name)/\N = .slice L g.length M/\xW w 129 wr/\wr.ownsRow (w.heap.size+1) 85 5 (.slice C (newL c b).length e) (newL c b).length (au aS (newL c b))/\wr.ownsRow (w.heap.size+1) 9 1 (.slice L g.length M) g.length (au lR g)) (fun i _ _=>K - (intOf i).toNat))|(guard_hyp z;go_loopw [29,7] (fun i N wr=>∃ (k:Nat) (L:Option Addr) (M:Nat) (g:List ByteArray),k<=K/\i = .int .i64 k/\g=(((c.take k).filter fun x=>!b.any fun y=>decide (y.name=x.name)).map av.name)/\N = .slice L g.length M/\xW w 132 wr/\wr.ownsRow (w.heap.size+1) 70 3 (.slice C (newL c b).length e) (newL c b).length (au aH (newL c b))/\wr.ownsRow (w.heap.size+1) 9 1 (.slice L g.length M) g.length (au lR g)) (fun i _ _=>K - (intOf i).toNat))|go_loopw [29,7] (fun i N wr=>∃ (k:Nat) (L:Option Addr) (M:Nat) (g:List ByteArray),k<=K/\i = .int .i64 k/\g=(((c.take k).filter fun x=>!b.any fun y=>decide (y.job=x.job)).map ak.job)/\N = .slice L g.length M/\xW w 135 wr/\wr.ownsRow (w.heap.size+1) 66 3 (.slice C (newL c b).length e) (newL c b).length (au aB (newL c b))/\wr.ownsRow (w.heap.size+1) 9 1 (.slice L g.length M) g.length (au lR g)) (fun i _ _=>K - (intOf i).toNat)
    case atStart=>exact⟨0,none,0,[],Nat.zero_le _,rfl,by simp,rfl,ah,ao,World.ownsRow_nil _ _ _ _⟩
    case round=>
     clear ah ao I a0 Ho hk hlt a7;obtain⟨k,L,M,g,hk,rfl,hg,rfl,I,az,ho⟩:=hrel;have ah:=ω I;have Ho:=ω ho;have ar:=ω az;have HG:=ω hg;have aD:g.length<=k:=by rw [hg,List.length_map]; exact kG _ _ _
     have a0:=I.size;clear hg ho az;by_cases hlt:k<K
     · obtain⟨x,Y⟩:∃ x,c[k]? = some x:=⟨_,gO (by rw [La.z]; exact hlt)⟩;obtain⟨bb,aA,rfl,a4,S⟩:=(HA.below I.below).eC aj La.z Y;have V:=ω (rz (key:=al) (b:=b) Y)
       first
        |(
         guard_hyp v
         obtain⟨a,q,o,s,r⟩:=x;obtain⟨c0,e,c2,c3,c4⟩:=rc5 S)
        |(
         guard_hyp z
         obtain⟨a,l,n⟩:=x;obtain⟨c0,e,c2⟩:=rc3 S)
        |(
         guard_hyp E
         obtain⟨job,node,m⟩:=x;obtain⟨c0,e,c2⟩:=rc3 S)
       have a6:bb<wr.heap.size:=by omega
       first
        |(
         guard_hyp v
         have G:Below wr wr (χ wr #[a,q,o,s,r] 85):=(θ).alloc lJ _;have O:Blk (χ wr #[a,q,o,s,r] 85) wr 85 #[a,q,o,s,r]:=n5 wr _)
        |(
         guard_hyp z
         have G:Below wr wr (χ wr #[a,l,n] 70):=(θ).alloc lJ _;have O:Blk (χ wr #[a,l,n] 70) wr 70 #[a,l,n]:=n5 wr _)
        |(
         guard_hyp E
         have G:Below wr wr (χ wr #[job,node,m] 66):=(θ).alloc lJ _;have O:Blk (χ wr #[job,node,m] 66) wr 66 #[job,node,m]:=n5 wr _)
       have F:=ω O;have j:=I.kept G;have Q:=ω j;have R:=ω (aF Ho.z G);have MN:=ω (aF ar.z G)
       first
        |(
         guard_hyp v
         have hP:lN (fun y:aC=>decide (y.name=a)) 192 #[π w 0,π wr 0] aS b (χ wr #[a,q,o,s,r] 85):=by
          intro af W y _;obtain⟨bQ,gM,gN,eI,mo⟩:=y;exact IR bQ gM gN eI mo a q o s r w wr af (j.kept (W.mono lJ)).key (O.below W O.lt)
         have u:=ω (rD.2.1 (fun y:aC=>decide (y.name=a)) 192 #[π w 0,π wr 0] b ae J cB (χ wr #[a,q,o,s,r] 85) (Go.Proofs.enters_of Tryz.func192 (by kernel_rfl) rfl) ((HB.below j.below).more j.below.size) Lb.z (by omega) hP))
        |(
         guard_hyp z
         have hP:lN (fun y:av=>decide (y.name=a)) 195 #[π w 0,π wr 0] aH b (χ wr #[a,l,n] 70):=by
          intro af W y _;obtain⟨bQ,dX,dY⟩:=y;exact FP bQ dX dY a l n w wr af (j.kept (W.mono lJ)).key (O.below W O.lt)
         have u:=ω (rD.2.2 (fun y:av=>decide (y.name=a)) 195 #[π w 0,π wr 0] b ae J cB (χ wr #[a,l,n] 70) (Go.Proofs.enters_of Tryz.func195 (by kernel_rfl) rfl) ((HB.below j.below).more j.below.size) Lb.z (by omega) hP))
        |(
         guard_hyp E
         have hP:lN (fun y:ak=>decide (y.job=job)) 198 #[π w 0,π wr 0] aB b (χ wr #[job,node,m] 66):=by
          intro af W y _;obtain⟨gT,dZ,eu⟩:=y;exact DY gT dZ eu job node m w wr af (j.kept (W.mono lJ)).key (O.below W O.lt)
         have u:=ω (rD.1 (fun y:ak=>decide (y.job=job)) 198 #[π w 0,π wr 0] b ae J cB (χ wr #[job,node,m] 66) (Go.Proofs.enters_of Tryz.func198 (by kernel_rfl) rfl) ((HB.below j.below).more j.below.size) Lb.z (by omega) hP))
       have aE:∀ (fn:Fn) (first aw:Array Value) (w:World),(Instr.makeFunc fn first aw).run Tryz.prog w = .ok (.func fn first aw) w:=fun _ _ _ _=>rfl;clear S Y G O j I hP
       go_wp2_with fail
       refine u.mono ?_;rintro ax B ⟨rfl,D⟩;have X:=ω (Q.kept D);have U:=ω (aF R.z D);have ap:=ω (aF MN.z D);have h:=F.below D F.lt;have a9:=h.lt;have ay:ζ B w 0 (.func (.func ag) #[] #[]):=X.key;have aG:=X.size
       first
        |(
         guard_hyp v
         obtain⟨j0,j1,j2,j3,j4⟩:=Blk.c5 (h);clear D u F Q R MN h c0 e c2 c3 c4)
        |(
         guard_hyp z
         have j0:ζ B wr 0 (.string a):=h.cell 0;have j1:ζ B wr 1 (.int .i64 l):=h.cell 1;have j2:ζ B wr 2 (.string n):=h.cell 2;clear D u F Q R MN h c0 e c2)
        |(
         guard_hyp E
         have j0:ζ B wr 0 (.string job):=h.cell 0;have j1:ζ B wr 1 (.string node):=h.cell 1;have j2:ζ B wr 2 (.int .i64 m):=h.cell 2;clear D u F Q R MN h c0 e c2)
       first|(guard_hyp E;cases H:b.any fun y=>decide (y.job=job))|cases H:b.any fun y=>decide (y.name=a)
       · have Hs:=ω (V.z.1 H);clear H
         go_wp2_with fail
         first
          |(
           guard_hyp v
           refine Calls.mono (kF a q o s r _) ?_)
          |(
           guard_hyp z
           refine Calls.mono (ji a l n _) ?_)
          |(
           guard_hyp E
           refine Calls.mono (fG job node m _) ?_)
         rintro ax w5 ⟨rfl,ac⟩;have a2:=ω (X.kept ac);have ai:=ω (aF U.z ac);have a3:=ω (aF ap.z ac);have ad:w.heap.size+1<=w5.heap.size:=by have:=ac.size; omega
         first
          |(
           guard_hyp v
           clear ac ay j0 j1 j2 j3 j4)
          |(
           guard_hyp a1
           clear ac ay j0 j1 j2)
         first|(guard_hyp E;go_wp2_with (at_builtin; refine cI lR rfl _ _ 93 9 (.string ⟨#[]⟩) 1 16 rfl Tryz.underlying93 sK rfl (by decide) iY qI (w.heap.size+1) _ _ _ g rfl ai.z _ job rfl _ (by simp) rfl (by omega) (by unfold maxLen; omega) ad ?_; intro P c2 w4 T Z))|go_wp2_with (at_builtin; refine cI lR rfl _ _ 93 9 (.string ⟨#[]⟩) 1 16 rfl Tryz.underlying93 sK rfl (by decide) iY qI (w.heap.size+1) _ _ _ g rfl ai.z _ a rfl _ (by simp) rfl (by omega) (by unfold maxLen; omega) ad ?_; intro P c2 w4 T Z)
         have aa:=a2.grew Z (fun k hk=>(ai.lt k hk).1);have aq:=cR a3.z Z ai.z (by decide)
         go_roundw
         case rel=>first|(guard_hyp E;exact⟨k+1,P,c2,g ++ [job],by omega,by go_num,by rw [HG.z]; exact Hs.z.symm,by simp,aa,aq,by simpa using T⟩)|exact⟨k+1,P,c2,g ++ [a],by omega,by go_num,by rw [HG.z]; exact Hs.z.symm,by simp,aa,aq,by simpa using T⟩
         case measure=>simp [intOf]; omega
       · have Hs:=ω (V.z.2 H);clear H;go_wp2
         go_roundw
         case rel=>exact⟨k+1,L,M,g,by omega,by go_num,by rw [HG.z]; exact Hs.z.symm,rfl,X.z,ap.z,U.z⟩
         case measure=>simp [intOf]; omega
     · have a5:g=bI al c b:=by rw [HG.z,filter_all _ (by rw [La.z]; omega)]; rfl
       subst a5;clear HG;go_wp2;go_ret2;exact⟨C,e,L,M,rfl,ar,Ho,ah.below⟩)
def CQ (a b:ah) (w:World) (e:Ending) (w':World):Prop:=
 ∃ x:eF,e = .returned (.agg (dC (dL a b) x))/\sL w' w (dL a b) x/\Below w w w'
structure mO (w0 w:World) (ca cb cd:Array Value):Prop where
 below:Below w0 w0 w
 a:Blk w w0 26 ca
 b:Blk w (w0.heap.size+1) 26 cb
 r:Blk w (w0.heap.size+2) 95 eS
 d:Blk w (w0.heap.size+3) 95 cd
theorem mO.kept {w0 w w':World} {e f g:Array Value} (h:mO w0 w e f g) (c:Below w w w'):mO w0 w' e f g:=
 ⟨h.below.trans (c.mono h.below.size),h.a.below c h.a.lt,h.b.below c h.b.lt,h.r.below c h.r.lt,h.d.below c h.d.lt⟩
theorem mO.set {w0 w:World} {c e f g:Array Value} {i:Nat} {u:Value} (h:mO w0 w c e f) (j:f.setIfInBounds i u=g):mO w0 (sX w (w0.heap.size+3) i u) c e g:=
 ⟨cU h.below (aR w _ i u) (by omega),ay (aR w _ i u) h.a (by omega),ay (aR w _ i u) h.b (by omega),ay (aR w _ i u) h.r (by omega),Blk.eq (h.d.set i u) j⟩
theorem DZ (w:World) (a b c d:Array Value) {ta tb tc td:TypeId}:Blk ((((w.alloc (.cells a ta)).alloc (.cells b tb)).alloc (.cells c tc)).alloc (.cells d td)) w ta a/\Blk ((((w.alloc (.cells a ta)).alloc (.cells b tb)).alloc (.cells c tc)).alloc (.cells d td)) (w.heap.size+1) tb b /\
 Blk ((((w.alloc (.cells a ta)).alloc (.cells b tb)).alloc (.cells c tc)).alloc (.cells d td)) (w.heap.size+2) tc c/\Blk ((((w.alloc (.cells a ta)).alloc (.cells b tb)).alloc (.cells c tc)).alloc (.cells d td)) (w.heap.size+3) td d/\Below w w ((((w.alloc (.cells a ta)).alloc (.cells b tb)).alloc (.cells c tc)).alloc (.cells d td)):=by
 have h:Blk (χ w a ta) w ta a:=n5 w _;have e:=n5 (χ w a ta) (.cells b tb);rw [show (w.alloc (.cells a ta)).heap.size=w.heap.size+1 by simp] at e;have f:=n5 ((w.alloc (.cells a ta)).alloc (.cells b tb)) (.cells c tc);rw [show ((w.alloc (.cells a ta)).alloc (.cells b tb)).heap.size=w.heap.size+2 by simp] at f;have g:=n5 (((w.alloc (.cells a ta)).alloc (.cells b tb)).alloc (.cells c tc)) (.cells d td);rw [show (((w.alloc (.cells a ta)).alloc (.cells b tb)).alloc (.cells c tc)).heap.size=w.heap.size+3 by simp] at g;exact⟨((h.alloc _).alloc _).alloc _,((show Blk _ _ _ _ from e).alloc _).alloc _,(show Blk _ _ _ _ from f).alloc _,g,((((θ).alloc lJ _).alloc (by simp) _).alloc (by simp; omega) _).alloc (by simp; omega) _⟩
theorem bA {w:World} {base sz n D i:Nat} {e:TypeId} {v u:Value} {xs:List Value} (b:w.ownsRow base e sz v n xs) (a:D<base):(w.setCell ⟨D,i,none⟩ u).ownsRow base e sz v n xs:=cu b (aR w D i u) a
theorem D2 (a b:ah) (x y:StA) (w:World) (hA:StAt w w a x) (hB:StAt w w b y) (h1:x.nj<=1000) (h2:x.nn<=1000) (h3:x.nl<=1000) (h4:y.nj<=1000) (h5:y.nn<=1000) (h6:y.nl<=1000) :
 ψ 83 #[.agg (stC a x),.agg (stC b y)] w (CQ a b w):=by
 obtain⟨s,c,g,k⟩:=a;obtain⟨aj,nj,cj,an,nn,cn,al,nl,cl⟩:=x;obtain⟨z,e,h,m⟩:=b;obtain⟨bj,mj,dj,bn,mn,dn,bl,ml,dl⟩:=y;unfold stC;dsimp only at *;obtain⟨q1,q2,q3,q4,q5⟩:=DZ w #[s,.slice aj nj cj,.slice an nn cn,.slice al nl cl] #[z,.slice bj mj dj,.slice bn mn dn,.slice bl ml dl] eS #[s,z,.slice none 0 0,.slice none 0 0,.slice none 0 0,.slice none 0 0,.slice none 0 0,.slice none 0 0] (ta:=26) (tb:=26) (tc:=95) (td:=95);have S:=ω (show mO w ((((w.alloc (.cells #[s,.slice aj nj cj,.slice an nn cn,.slice al nl cl] 26)).alloc (.cells #[z,.slice bj mj dj,.slice bn mn dn,.slice bl ml dl] 26)).alloc (.cells eS 95)).alloc (.cells #[s,z,.slice none 0 0,.slice none 0 0,.slice none 0 0,.slice none 0 0,.slice none 0 0,.slice none 0 0] 95)) _ _ _ from ⟨q5,q1,q2,q3,q4⟩);have HA:=ω hA;have HB:=ω hB;clear q1 q2 q3 q4 q5 hA hB;go_enter Tryz.func83,Tryz.ntmps83;have T:=ω (rB.1 c e aj bj nj cj mj dj ((((w.alloc (.cells #[s,.slice aj nj cj,.slice an nn cn,.slice al nl cl] 26)).alloc (.cells #[z,.slice bj mj dj,.slice bn mn dn,.slice bl ml dl] 26)).alloc (.cells eS 95)).alloc (.cells #[s,z,.slice none 0 0,.slice none 0 0,.slice none 0 0,.slice none 0 0,.slice none 0 0,.slice none 0 0] 95)) (HA.j.below S.below |>.more S.below.size) HA.lj h1 (HB.j.below S.below |>.more S.below.size) HB.lj h4)
 go_wp2_with fail
 refine T.mono ?_;rintro ae R ⟨p,B,D,g0,rfl,hs,X,G⟩;have M:=S.kept G;have K:=ω (cZ hs (show w.heap.size+3+1<=_ from by have:=S.d.lt; omega));have J:=ω (cZ X (show w.heap.size+3+1<=_ from by have:=S.d.lt; omega));have o:=M.d;have ag:=o.lt;have e1:ζ R (w.heap.size+3) 2 (.slice none 0 0):=o.cell 2;have e2:ζ R (w.heap.size+3) 5 (.slice none 0 0):=o.cell 5;have t1:κ R (w.heap.size+3) 2:=o.thaw 2;have t2:κ R (w.heap.size+3) 5:=o.thaw 5;have Y:=mO.set M (i:=2) (u:=.slice p (newL c e).length B) (show _=#[.int .i64 s,.int .i64 z,.slice p (newL c e).length B,.slice none 0 0,.slice none 0 0,.slice none 0 0,.slice none 0 0,.slice none 0 0] from rfl);have Z:=mO.set Y (i:=5) (u:=.slice D (bI aC.name c e).length g0) (show _=#[.int .i64 s,.int .i64 z,.slice p (newL c e).length B,.slice none 0 0,.slice none 0 0,.slice D (bI aC.name c e).length g0,.slice none 0 0,.slice none 0 0] from rfl);have O:=ω Z;have K:=ω (show ((R.setCell ⟨w.heap.size+3,2,none⟩ (.slice p (newL c e).length B)).setCell ⟨w.heap.size+3,5,none⟩ (.slice D (bI aC.name c e).length g0)).ownsRow (w.heap.size+3+1) _ _ _ _ _ from bA (bA K.z (Nat.lt_succ_self _)) (Nat.lt_succ_self _));have J:=ω (show ((R.setCell ⟨w.heap.size+3,2,none⟩ (.slice p (newL c e).length B)).setCell ⟨w.heap.size+3,5,none⟩ (.slice D (bI aC.name c e).length g0)).ownsRow (w.heap.size+3+1) _ _ _ _ _ from bA (bA J.z (Nat.lt_succ_self _)) (Nat.lt_succ_self _));clear hs X G M Y Z o T;have T:=ω (rB.2.1 g h an bn nn cn mn dn (sX (sX R (w.heap.size+3) 2 (.slice p (newL c e).length B)) (w.heap.size+3) 5 (.slice D (bI aC.name c e).length g0)) (HA.n.below O.below |>.more O.below.size) HA.ln h2 (HB.n.below O.below |>.more O.below.size) HB.ln h5);have y2:ζ (sX (sX R (w.heap.size+3) 2 (.slice p (newL c e).length B)) (w.heap.size+3) 5 (.slice D (bI aC.name c e).length g0)) w 2 (.slice an nn cn):=O.a.cell 2;have z2:ζ (sX (sX R (w.heap.size+3) 2 (.slice p (newL c e).length B)) (w.heap.size+3) 5 (.slice D (bI aC.name c e).length g0)) (w.heap.size+1) 2 (.slice bn mn dn):=O.b.cell 2
 go_wp2_with fail
 refine T.mono ?_;rintro ae N ⟨q,C,E,F,rfl,hs,X,G⟩;have M:=O.kept G;have V:=ω (cZ hs (show w.heap.size+3+1<=_ from by have:=O.d.lt; omega));have U:=ω (cZ X (show w.heap.size+3+1<=_ from by have:=O.d.lt; omega));have K:=ω (aF K.z G);have J:=ω (aF J.z G);have o:=M.d;have ag:=o.lt;have e1:ζ N (w.heap.size+3) 3 (.slice none 0 0):=o.cell 3;have e2:ζ N (w.heap.size+3) 6 (.slice none 0 0):=o.cell 6;have t1:κ N (w.heap.size+3) 3:=o.thaw 3;have t2:κ N (w.heap.size+3) 6:=o.thaw 6;have Y:=mO.set M (i:=3) (u:=.slice q (newL g h).length C) (show _=#[.int .i64 s,.int .i64 z,.slice p (newL c e).length B,.slice q (newL g h).length C,.slice none 0 0,.slice D (bI aC.name c e).length g0,.slice none 0 0,.slice none 0 0] from rfl);have Z:=mO.set Y (i:=6) (u:=.slice E (bI av.name g h).length F) (show _=#[.int .i64 s,.int .i64 z,.slice p (newL c e).length B,.slice q (newL g h).length C,.slice none 0 0,.slice D (bI aC.name c e).length g0,.slice E (bI av.name g h).length F,.slice none 0 0] from rfl);have P:=ω Z;have K:=ω (show ((N.setCell ⟨w.heap.size+3,3,none⟩ (.slice q (newL g h).length C)).setCell ⟨w.heap.size+3,6,none⟩ (.slice E (bI av.name g h).length F)).ownsRow (w.heap.size+3+1) _ _ _ _ _ from bA (bA K.z (Nat.lt_succ_self _)) (Nat.lt_succ_self _));have J:=ω (show ((N.setCell ⟨w.heap.size+3,3,none⟩ (.slice q (newL g h).length C)).setCell ⟨w.heap.size+3,6,none⟩ (.slice E (bI av.name g h).length F)).ownsRow (w.heap.size+3+1) _ _ _ _ _ from bA (bA J.z (Nat.lt_succ_self _)) (Nat.lt_succ_self _));have V:=ω (show ((N.setCell ⟨w.heap.size+3,3,none⟩ (.slice q (newL g h).length C)).setCell ⟨w.heap.size+3,6,none⟩ (.slice E (bI av.name g h).length F)).ownsRow (w.heap.size+3+1) _ _ _ _ _ from bA (bA V.z (Nat.lt_succ_self _)) (Nat.lt_succ_self _));have U:=ω (show ((N.setCell ⟨w.heap.size+3,3,none⟩ (.slice q (newL g h).length C)).setCell ⟨w.heap.size+3,6,none⟩ (.slice E (bI av.name g h).length F)).ownsRow (w.heap.size+3+1) _ _ _ _ _ from bA (bA U.z (Nat.lt_succ_self _)) (Nat.lt_succ_self _));clear hs X G M Y Z o T y2 z2;have T:=ω (rB.2.2 k m al bl nl cl ml dl (sX (sX N (w.heap.size+3) 3 (.slice q (newL g h).length C)) (w.heap.size+3) 6 (.slice E (bI av.name g h).length F)) (HA.l.below P.below |>.more P.below.size) HA.ll h3 (HB.l.below P.below |>.more P.below.size) HB.ll h6);have y3:ζ (sX (sX N (w.heap.size+3) 3 (.slice q (newL g h).length C)) (w.heap.size+3) 6 (.slice E (bI av.name g h).length F)) w 3 (.slice al nl cl):=P.a.cell 3;have z3:ζ (sX (sX N (w.heap.size+3) 3 (.slice q (newL g h).length C)) (w.heap.size+3) 6 (.slice E (bI av.name g h).length F)) (w.heap.size+1) 3 (.slice bl ml dl):=P.b.cell 3
 go_wp2_with fail
 refine T.mono ?_;rintro ae Q ⟨S2,H,I,L,rfl,hs,X,G⟩;have M:=P.kept G;have ad:=ω (cZ hs (show w.heap.size+3+1<=_ from by have:=P.d.lt; omega));have ab:=ω (cZ X (show w.heap.size+3+1<=_ from by have:=P.d.lt; omega));have K:=ω (aF K.z G);have J:=ω (aF J.z G);have V:=ω (aF V.z G);have U:=ω (aF U.z G);have o:=M.d;have ag:=o.lt;have e1:ζ Q (w.heap.size+3) 4 (.slice none 0 0):=o.cell 4;have e2:ζ Q (w.heap.size+3) 7 (.slice none 0 0):=o.cell 7;have t1:κ Q (w.heap.size+3) 4:=o.thaw 4;have t2:κ Q (w.heap.size+3) 7:=o.thaw 7;have Y:=mO.set M (i:=4) (u:=.slice S2 (newL k m).length H) (show _=#[.int .i64 s,.int .i64 z,.slice p (newL c e).length B,.slice q (newL g h).length C,.slice S2 (newL k m).length H,.slice D (bI aC.name c e).length g0,.slice E (bI av.name g h).length F,.slice none 0 0] from rfl);have Z:=mO.set Y (i:=7) (u:=.slice I (bI ak.job k m).length L) (show _=#[.int .i64 s,.int .i64 z,.slice p (newL c e).length B,.slice q (newL g h).length C,.slice S2 (newL k m).length H,.slice D (bI aC.name c e).length g0,.slice E (bI av.name g h).length F,.slice I (bI ak.job k m).length L] from rfl);have ac:=ω Z;have K:=ω (show ((Q.setCell ⟨w.heap.size+3,4,none⟩ (.slice S2 (newL k m).length H)).setCell ⟨w.heap.size+3,7,none⟩ (.slice I (bI ak.job k m).length L)).ownsRow (w.heap.size+3+1) _ _ _ _ _ from bA (bA K.z (Nat.lt_succ_self _)) (Nat.lt_succ_self _));have J:=ω (show ((Q.setCell ⟨w.heap.size+3,4,none⟩ (.slice S2 (newL k m).length H)).setCell ⟨w.heap.size+3,7,none⟩ (.slice I (bI ak.job k m).length L)).ownsRow (w.heap.size+3+1) _ _ _ _ _ from bA (bA J.z (Nat.lt_succ_self _)) (Nat.lt_succ_self _));have V:=ω (show ((Q.setCell ⟨w.heap.size+3,4,none⟩ (.slice S2 (newL k m).length H)).setCell ⟨w.heap.size+3,7,none⟩ (.slice I (bI ak.job k m).length L)).ownsRow (w.heap.size+3+1) _ _ _ _ _ from bA (bA V.z (Nat.lt_succ_self _)) (Nat.lt_succ_self _));have U:=ω (show ((Q.setCell ⟨w.heap.size+3,4,none⟩ (.slice S2 (newL k m).length H)).setCell ⟨w.heap.size+3,7,none⟩ (.slice I (bI ak.job k m).length L)).ownsRow (w.heap.size+3+1) _ _ _ _ _ from bA (bA U.z (Nat.lt_succ_self _)) (Nat.lt_succ_self _));have ad:=ω (show ((Q.setCell ⟨w.heap.size+3,4,none⟩ (.slice S2 (newL k m).length H)).setCell ⟨w.heap.size+3,7,none⟩ (.slice I (bI ak.job k m).length L)).ownsRow (w.heap.size+3+1) _ _ _ _ _ from bA (bA ad.z (Nat.lt_succ_self _)) (Nat.lt_succ_self _));have ab:=ω (show ((Q.setCell ⟨w.heap.size+3,4,none⟩ (.slice S2 (newL k m).length H)).setCell ⟨w.heap.size+3,7,none⟩ (.slice I (bI ak.job k m).length L)).ownsRow (w.heap.size+3+1) _ _ _ _ _ from bA (bA ab.z (Nat.lt_succ_self _)) (Nat.lt_succ_self _));clear hs X G M Y Z o T y3 z3;have aa:=ac.r;have ai:=aa.lt;obtain⟨b0,b1,b2,b3,b4,b5,b6,b7⟩:=Blk.c8 (ac.d);obtain⟨ay,az,a0,a1,a2,a3,a4,a5⟩:=Blk.z8 (aa);obtain⟨am,ao,ap,aq,ar,au,aw,ax⟩:=Blk.c8 (aa);obtain⟨af,W⟩:=Blk.S8 (aa) (.int .i64 s) (.int .i64 z) (.slice p (newL c e).length B) (.slice q (newL g h).length C) (.slice S2 (newL k m).length H) (.slice D (bI aC.name c e).length g0) (.slice E (bI av.name g h).length F) (.slice I (bI ak.job k m).length L);obtain⟨q0,q1,q2,q3,q4,q5,q6,q7⟩:=Blk.c8 af;have aW:=ω (show CQ ⟨s,c,g,k⟩ ⟨z,e,h,m⟩ w (.returned (.agg #[s,z,.slice p (newL c e).length B,.slice q (newL g h).length C,.slice S2 (newL k m).length H,.slice D (bI aC.name c e).length g0,.slice E (bI av.name g h).length F,.slice I (bI ak.job k m).length L])) _ from ⟨⟨p,(newL c e).length,B,q,(newL g h).length,C,S2,(newL k m).length,H,D,(bI aC.name c e).length,g0,E,(bI av.name g h).length,F,I,(bI ak.job k m).length,L⟩,rfl,⟨⟨w.heap.size+3+1,by omega,cu K.z W (by omega)⟩,⟨w.heap.size+3+1,by omega,cu V.z W (by omega)⟩,⟨w.heap.size+3+1,by omega,cu ad.z W (by omega)⟩,⟨w.heap.size+3+1,by omega,cu J.z W (by omega)⟩,⟨w.heap.size+3+1,by omega,cu U.z W (by omega)⟩,⟨w.heap.size+3+1,by omega,cu ab.z W (by omega)⟩,rfl,rfl,rfl,rfl,rfl,rfl⟩,cU ac.below W (by omega)⟩);clear aa af W K V ad J U ab O P ac HA HB S;go_wp2;refine bodyPost_ret (v:=.agg #[.int .i64 s,.int .i64 z,.slice p (newL c e).length B,.slice q (newL g h).length C,.slice S2 (newL k m).length H,.slice D (bI aC.name c e).length g0,.slice E (bI av.name g h).length F,.slice I (bI ak.job k m).length L]) (by simp [results,Tryz.results83,go_sem, *]) rfl ?_;exact aW
end Go.Proofs.YtimglglgcgpjgaaGreatDoor
