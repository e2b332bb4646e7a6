/- Of the proof of a statement: Differ. -/
import Derived.Lib.QuietBelow
import Derived.Test.YtimglglgcgpjgabGreatDoorPFits
set_option linter.unusedVariables false
set_option linter.unusedSimpArgs false
set_option maxRecDepth 100000
set_option maxHeartbeats 8000000
namespace Go.Proofs.YtimglglgcgpjgabGreatDoor
open Go.RowKit
def Oz {α:Type} (key:α->ByteArray) (a b:List α) (T:TypeId) (sz:Nat) (enc:α->List Value) (w:World) (e:Ending) (w':World):Prop:=
 ∃ A c G d,e = .returned (.tuple #[.slice A (newL a b).length c,.slice G (bJ key a b).length d])/\w'.ownsRow (w.heap.size+1) T sz (.slice A (newL a b).length c) (newL a b).length (au enc (newL a b)) /\
  w'.ownsRow (w.heap.size+1) 9 1 (.slice G (bJ key a b).length d) (bJ key a b).length (au kQ (bJ key a b))/\Below w w w'
structure xM (w0:World) (F:FuncId) (wr:World):Prop where
 below:Below w0 w0 wr
 key:ζ wr w0 0 (.func (.func F) #[] #[])
 size:w0.heap.size<wr.heap.size
theorem xM.kept {w0 w w':World} {F:FuncId} (h:xM w0 F w) (a:Below w w w'):xM w0 F w':=
 ⟨h.below.trans (a.mono h.below.size),(a.cell (p:=⟨w0,0,none⟩) h.size).trans h.key,uI h.size a.size⟩
theorem xM.grew {w0 w w':World} {F:FuncId} {v v':Value} (h:xM w0 F w) (b:cZ w w' v v') (c:∀ k,v.ownBlock=some k->w0.heap.size+1<=k):xM w0 F w':=
 have a:=b.below (B:=w0.heap.size+1) h.size c
 ⟨h.below.trans (a.mono (Nat.le_succ _)),(a.cell (p:=⟨w0,0,none⟩) (Nat.lt_succ_self _)).trans h.key,uI h.size a.size⟩
theorem rz {α:Type} {key:α->ByteArray} {a b:List α} {k:Nat} {x:α} (h:a[k]? = some x):((b.any fun y=>decide (key y=key x))=false->(((a.take (k+1)).filter fun x=>!b.any fun y=>decide (key y=key x)).map key)=(((a.take k).filter fun x=>!b.any fun y=>decide (key y=key x)).map key) ++ [key x])/\((b.any fun y=>decide (key y=key x))=true->(((a.take (k+1)).filter fun x=>!b.any fun y=>decide (key y=key x)).map key)=(((a.take k).filter fun x=>!b.any fun y=>decide (key y=key x)).map key)):=by
 constructor
 · intro c;rw [ni (p:=fun x=>!b.any fun y=>decide (key y=key x)) h (by simp only [c]; rfl),List.map_append]; rfl
 · intro c;rw [oU (p:=fun x=>!b.any fun y=>decide (key y=key x)) h (by simp only [c]; rfl)]
theorem IX (h:ByteArray) (j:Int) (k:Int) (i:Int) (l:ByteArray) (n:ByteArray) (v:Int) (x:Int) (u:Int) (B:ByteArray) (r g:Nat) (w:World) (o:ζ w r 0 (.func (.func 130) #[] #[])) (q:Blk w g 86 #[n,v,x,u,B]) :
 ψ 193 #[.agg #[h,j,k,i,l],π r 0,π g 0] w fun I M=>I = .returned (.bool (decide (h=n)))/\Below w w M:=by
 rw [<- oO];have m:=(Below.refl w w).alloc lQ (.cells #[h,j,k,i,l] 86);have z:=block_lt_of_cell o;have K:=q.lt;have e:=q.alloc (.cells #[h,j,k,i,l] 86);generalize c:w.alloc (.cells #[h,j,k,i,l] 86)=b at m e;have D:=fun d a=>cell_regrown (show ζ b w 0 (.string h) by rw [<- c]; simp [go_sem]) d a;have N:=fun d a=>cell_regrown (show ζ b g 0 (.string n) from e.cell 0) d a;have E:=fun d a=>cell_regrown (show ζ b w 1 (.int .i64 j) by rw [<- c]; simp [go_sem]) d a;have O:=fun d a=>cell_regrown (show ζ b g 1 (.int .i64 v) from e.cell 1) d a;have F:=fun d a=>cell_regrown (show ζ b w 2 (.int .i64 k) by rw [<- c]; simp [go_sem]) d a;have P:=fun d a=>cell_regrown (show ζ b g 2 (.int .i64 x) from e.cell 2) d a;have G:=fun d a=>cell_regrown (show ζ b w 3 (.int .i64 i) by rw [<- c]; simp [go_sem]) d a;have Q:=fun d a=>cell_regrown (show ζ b g 3 (.int .i64 u) from e.cell 3) d a;have H:=fun d a=>cell_regrown (show ζ b w 4 (.string l) by rw [<- c]; simp [go_sem]) d a;have R:=fun d a=>cell_regrown (show ζ b g 4 (.string B) from e.cell 4) d a;have L:=fun d a=>cell_regrown ((m.cell (p:=⟨r,0,none⟩) z).trans o) d a;have s:=ω m;have C:=ω c;clear m c o q z K e;go_enter Tryz.func193,Tryz.ntmps193
 go_wp2_with fail
 rw [C.z];refine wp_region_quiet_below (by kernel_rfl) (by kernel_rfl) ?_
 repeat (go_big_quiet_step ((go_at_call 130; exact Calls.regrown_of (kr _ _ _ _ _ _))))
 refine wpQuiet_nil ?_;intro _ J;obtain⟨⟨nq,osq⟩,hw''⟩:=J;subst hw'';have y:=ω (s.trans ((below_regrown b nq osq).mono s.size));clear D N E O F P G Q H R L;dsimp only;generalize Sort.grow (redrawn b nq) osq=S at y |-;go_wp2;go_ret;exact⟨rfl,y⟩
theorem FH (c:ByteArray) (e:Int) (g:ByteArray) (l:ByteArray) (r:Int) (s:ByteArray) (o j:Nat) (w:World) (m:ζ w o 0 (.func (.func 133) #[] #[])) (n:Blk w j 81 #[l,r,s]) :
 ψ 196 #[.agg #[c,e,g],π o 0,π j 0] w fun C G=>C = .returned (.bool (decide (c=l)))/\Below w w G:=by
 rw [<- oO];have k:=(Below.refl w w).alloc lQ (.cells #[c,e,g] 81);have v:=block_lt_of_cell m;have E:=n.lt;have i:=n.alloc (.cells #[c,e,g] 81);generalize h:w.alloc (.cells #[c,e,g] 81)=b at k i;have y:=fun d a=>cell_regrown (show ζ b w 0 (.string c) by rw [<- h]; simp [go_sem]) d a;have H:=fun d a=>cell_regrown (show ζ b j 0 (.string l) from i.cell 0) d a;have z:=fun d a=>cell_regrown (show ζ b w 1 (.int .i64 e) by rw [<- h]; simp [go_sem]) d a;have I:=fun d a=>cell_regrown (show ζ b j 1 (.int .i64 r) from i.cell 1) d a;have B:=fun d a=>cell_regrown (show ζ b w 2 (.string g) by rw [<- h]; simp [go_sem]) d a;have J:=fun d a=>cell_regrown (show ζ b j 2 (.string s) from i.cell 2) d a;have F:=fun d a=>cell_regrown ((k.cell (p:=⟨o,0,none⟩) v).trans m) d a;have q:=ω k;have x:=ω h;clear k h m n v E i;go_enter Tryz.func196,Tryz.ntmps196
 go_wp2_with fail
 rw [x.z];refine wp_region_quiet_below (by kernel_rfl) (by kernel_rfl) ?_
 repeat (go_big_quiet_step ((go_at_call 133; exact Calls.regrown_of (jc _ _ _ _))))
 refine wpQuiet_nil ?_;intro _ D;obtain⟨⟨nq,osq⟩,hw''⟩:=D;subst hw'';have u:=ω (q.trans ((below_regrown b nq osq).mono q.size));clear y H z I B J F;dsimp only;generalize Sort.grow (redrawn b nq) osq=K at u |-;go_wp2;go_ret;exact⟨rfl,u⟩
theorem DT (c:ByteArray) (e:ByteArray) (g:Int) (n:ByteArray) (r:ByteArray) (s:Int) (o j:Nat) (w:World) (l:ζ w o 0 (.func (.func 136) #[] #[])) (m:Blk w j 77 #[n,r,s]) :
 ψ 199 #[.agg #[c,e,g],π o 0,π j 0] w fun C G=>C = .returned (.bool (decide (c=n)))/\Below w w G:=by
 rw [<- oO];have k:=(Below.refl w w).alloc lQ (.cells #[c,e,g] 77);have v:=block_lt_of_cell l;have E:=m.lt;have i:=m.alloc (.cells #[c,e,g] 77);generalize h:w.alloc (.cells #[c,e,g] 77)=b at k i;have y:=fun d a=>cell_regrown (show ζ b w 0 (.string c) by rw [<- h]; simp [go_sem]) d a;have H:=fun d a=>cell_regrown (show ζ b j 0 (.string n) from i.cell 0) d a;have z:=fun d a=>cell_regrown (show ζ b w 1 (.string e) by rw [<- h]; simp [go_sem]) d a;have I:=fun d a=>cell_regrown (show ζ b j 1 (.string r) from i.cell 1) d a;have B:=fun d a=>cell_regrown (show ζ b w 2 (.int .i64 g) by rw [<- h]; simp [go_sem]) d a;have J:=fun d a=>cell_regrown (show ζ b j 2 (.int .i64 s) from i.cell 2) d a;have F:=fun d a=>cell_regrown ((k.cell (p:=⟨o,0,none⟩) v).trans l) d a;have q:=ω k;have x:=ω h;clear k h l m v E i;go_enter Tryz.func199,Tryz.ntmps199
 go_wp2_with fail
 rw [x.z];refine wp_region_quiet_below (by kernel_rfl) (by kernel_rfl) ?_
 repeat (go_big_quiet_step ((go_at_call 136; exact Calls.regrown_of (fF _ _ _ _))))
 refine wpQuiet_nil ?_;intro _ D;obtain⟨⟨nq,osq⟩,hw''⟩:=D;subst hw'';have u:=ω (q.trans ((below_regrown b nq osq).mono q.size));clear y H z I B J F;dsimp only;generalize Sort.grow (redrawn b nq) osq=K at u |-;go_wp2;go_ret;exact⟨rfl,u⟩
def rA (c:Type) (d:Nat) (e:c->List Value) (h:FuncId) (i:FuncId) (j:c->ByteArray) (k:TypeId):Prop:=
 ∀ (a b:List c) (A B:Option Addr) (n f m g:Nat) (w:World) (ha:bg w w d A n (au e a)) (q:a.length=n) (p:n<=1000) (l:bg w w d B m (au e b)) (r:b.length=m) (o:m<=1000),ψ h #[.slice A n f,.slice B m g,.func (.func i) #[] #[]] w (Oz j a b k d e w)
theorem rB:rA aC 5 aS 155 130 aC.name 86 /\ rA av 3 aH 156 133 av.name 81 /\ rA ak 3 aB 157 136 ak.job 77:=by
 refine⟨@fun c b A ae K cA J cB w ha la hn hb lb hm=>(fun(v:Unit)=>?_) (),@fun c b A ae K cA J cB w ha la hn hb lb hm=>(fun(z a1:Unit)=>?_) () (),@fun c b A ae K cA J cB w ha la hn hb lb hm=>(fun(E a1:Unit)=>?_) () ()⟩<;>(
 first|(guard_hyp v;have ag:Tg 3:=⟨⟩;have aj:=@aU;have al:Tg 0:=⟨⟩)|(guard_hyp z;have ag:Tg 5:=⟨⟩;have aj:=@aO;have al:Tg 1:=⟨⟩)|(have ag:Tg 7:=⟨⟩;have aj:=@aI;have al:Tg 2:=⟨⟩)
 have HA:=ω ha;have HB:=ω hb;have La:=ω la;have Lb:=ω lb;have H0:=ω (show ∀ t,xM w ag (χ w #[.func (.func ag) #[] #[]] t) from fun t=>⟨(θ).alloc lQ _,by simp [go_sem],by simp⟩);clear ha hb la lb
 first|(guard_hyp v;go_enter Tryz.func155,Tryz.ntmps155)|(guard_hyp z;go_enter Tryz.func156,Tryz.ntmps156)|go_enter Tryz.func157,Tryz.ntmps157
 go_wp2
 first|(guard_hyp v;go_loopw [14,6] (fun i N wr=>∃ (k:Nat) (C:Option Addr) (e:Nat) (d:List aC),k<=J/\i = .int .i64 k/\d=((b.take k).filter fun x=>!c.any (eqB x))/\N = .slice C d.length e/\xM w 130 wr/\wr.ownsRow (w.heap.size+1) 86 5 (.slice C d.length e) d.length (au aS d)) (fun i _ _=>J - (intOf i).toNat))|(guard_hyp z;go_loopw [14,6] (fun i N wr=>∃ (k:Nat) (C:Option Addr) (e:Nat) (d:List av),k<=J/\i = .int .i64 k/\d=((b.take k).filter fun x=>!c.any (eqB x))/\N = .slice C d.length e/\xM w 133 wr/\wr.ownsRow (w.heap.size+1) 81 3 (.slice C d.length e) d.length (au aH d)) (fun i _ _=>J - (intOf i).toNat))|go_loopw [14,6] (fun i N wr=>∃ (k:Nat) (C:Option Addr) (e:Nat) (d:List ak),k<=J/\i = .int .i64 k/\d=((b.take k).filter fun x=>!c.any (eqB x))/\N = .slice C d.length e/\xM w 136 wr/\wr.ownsRow (w.heap.size+1) 77 3 (.slice C d.length e) d.length (au aB d)) (fun i _ _=>J - (intOf i).toNat)
 case atStart=>exact⟨0,none,0,[],Nat.zero_le _,rfl,by simp,rfl,H0.z _,World.ownsRow_nil _ _ _ _⟩
 case round=>
  clear H0;obtain⟨k,C,e,d,hk,rfl,am,rfl,I,ho⟩:=hrel;have ah:=ω I;have Ho:=ω ho;have ab:=ω am;have a7:d.length<=k:=by rw [am]; exact kB _ _ _
  have a0:=I.size;clear am ho;by_cases hlt:k<J
  · obtain⟨x,Y⟩:∃ x,b[k]? = some x:=⟨_,δ (by rw [Lb.z]; exact hlt)⟩;obtain⟨bb,aA,rfl,a4,S⟩:=(HB.below I.below).dL aj Lb.z Y;have Hf:=ω Y
    first
     |(
      guard_hyp v
      obtain⟨a,q,o,s,r⟩:=x;obtain⟨c0,e,c2,c3,c4⟩:=rc5 S)
     |(
      guard_hyp z
      obtain⟨a,l,n⟩:=x;obtain⟨c0,e,c2⟩:=rc3 S)
     |(
      guard_hyp E
      obtain⟨job,node,m⟩:=x;obtain⟨c0,e,c2⟩:=rc3 S)
    have a6:bb<wr.heap.size:=by omega
    first
     |(
      guard_hyp v
      have G:Below wr wr (χ wr #[a,q,o,s,r] 86):=(θ).alloc lQ _;have F:=ω (show Blk (χ wr #[a,q,o,s,r] 86) wr 86 #[a,q,o,s,r] from n5 wr _))
     |(
      guard_hyp z
      have G:Below wr wr (χ wr #[a,l,n] 81):=(θ).alloc lQ _;have F:=ω (show Blk (χ wr #[a,l,n] 81) wr 81 #[a,l,n] from n5 wr _))
     |(
      guard_hyp E
      have G:Below wr wr (χ wr #[job,node,m] 77):=(θ).alloc lQ _;have F:=ω (show Blk (χ wr #[job,node,m] 77) wr 77 #[job,node,m] from n5 wr _))
    have j:=I.kept G;have Q:=ω j;have R:=ω (aF Ho.z G)
    first
     |(
      guard_hyp v
      have u:=ω (xN.1 ⟨a,q,o,s,r⟩ c A K cA (χ wr #[a,q,o,s,r] 86) ((HA.below j.below).more j.below.size) La.z (by omega));rw [show (Value.agg (aS ⟨a,q,o,s,r⟩).toArray) = .agg #[a,q,o,s,r] from rfl] at u)
     |(
      guard_hyp z
      have u:=ω (xN.2.1 ⟨a,l,n⟩ c A K cA (χ wr #[a,l,n] 81) ((HA.below j.below).more j.below.size) La.z (by omega));rw [show (Value.agg (aH ⟨a,l,n⟩).toArray) = .agg #[a,l,n] from rfl] at u)
     |(
      guard_hyp E
      have u:=ω (xN.2.2 ⟨job,node,m⟩ c A K cA (χ wr #[job,node,m] 77) ((HA.below j.below).more j.below.size) La.z (by omega));rw [show (Value.agg (aB ⟨job,node,m⟩).toArray) = .agg #[job,node,m] from rfl] at u)
    clear S Y G j I
    go_wp2_with fail
    refine u.mono ?_;rintro ax B ⟨rfl,D⟩;have X:=ω (Q.kept D);have U:=ω (aF R.z D);have h:=F.below D F.lt;have a9:=h.lt
    first
     |(
      guard_hyp v
      obtain⟨j0,j1,j2,j3,j4⟩:=Blk.c5 (h);clear D u F Q R h c0 e c2 c3 c4;cases H:c.any (eqB ⟨a,q,o,s,r⟩))
     |(
      guard_hyp z
      have j0:ζ B wr 0 (.string a):=h.cell 0;have j1:ζ B wr 1 (.int .i64 l):=h.cell 1;have j2:ζ B wr 2 (.string n):=h.cell 2;clear D u F Q R h c0 e c2;cases H:c.any (eqB ⟨a,l,n⟩))
     |(
      guard_hyp E
      have j0:ζ B wr 0 (.string job):=h.cell 0;have j1:ζ B wr 1 (.string node):=h.cell 1;have j2:ζ B wr 2 (.int .i64 m):=h.cell 2;clear D u F Q R h c0 e c2;cases H:c.any (eqB ⟨job,node,m⟩))
    · have V:=ω (ni (p:=fun x=>!c.any (eqB x)) Hf.z (by simp only [H]; rfl));have ad:w.heap.size+1<=B.heap.size:=by omega
      clear H
      first
       |(
        guard_hyp v
        go_wp2_with (at_builtin; refine cI aS rfl _ _ 22 86 (.agg #[.string ⟨#[]⟩,(0:Int),(0:Int),(0:Int),.string ⟨#[]⟩]) 5 56 rfl Tryz.underlying22 mA rfl (by decide) aU kP (w.heap.size+1) _ _ _ d rfl U.z _ ⟨a,q,o,s,r⟩ rfl _ (by simp) rfl (by omega) (by unfold maxLen; omega) ad ?_; intro P c2 w4 T Z))
       |(
        guard_hyp z
        go_wp2_with (at_builtin; refine cI aH rfl _ _ 23 81 (.agg #[.string ⟨#[]⟩,(0:Int),.string ⟨#[]⟩]) 3 40 rfl Tryz.underlying23 kO rfl (by decide) aO jm (w.heap.size+1) _ _ _ d rfl U.z _ ⟨a,l,n⟩ rfl _ (by simp) rfl (by omega) (by unfold maxLen; omega) ad ?_; intro P c2 w4 T Z))
       |(
        guard_hyp E
        go_wp2_with (at_builtin; refine cI aB rfl _ _ 24 77 (.agg #[.string ⟨#[]⟩,.string ⟨#[]⟩,(0:Int)]) 3 40 rfl Tryz.underlying24 jl rfl (by decide) aI gW (w.heap.size+1) _ _ _ d rfl U.z _ ⟨job,node,m⟩ rfl _ (by simp) rfl (by omega) (by unfold maxLen; omega) ad ?_; intro P c2 w4 T Z))
      have aa:=X.grew Z (fun k hk=>(U.lt k hk).1)
      go_roundw
      first
       |(
        guard_hyp v
        case rel=>exact⟨k+1,P,c2,d ++ [⟨a,q,o,s,r⟩],by omega,by go_num,by rw [V.z,<- ab.z],by simp,aa,by simpa using T⟩)
       |(
        guard_hyp z
        case rel=>exact⟨k+1,P,c2,d ++ [⟨a,l,n⟩],by omega,by go_num,by rw [V.z,<- ab.z],by simp,aa,by simpa using T⟩)
       |(
        guard_hyp E
        case rel=>exact⟨k+1,P,c2,d ++ [⟨job,node,m⟩],by omega,by go_num,by rw [V.z,<- ab.z],by simp,aa,by simpa using T⟩)
      case measure=>simp [intOf]; omega
    · have V:=ω (oU (p:=fun x=>!c.any (eqB x)) Hf.z (by simp only [H]; rfl));clear H;go_wp2
      go_roundw
      case rel=>exact⟨k+1,C,e,d,by omega,by go_num,by rw [V.z,<- ab.z],rfl,X,U⟩
      case measure=>simp [intOf]; omega
  · have a8:d=newL c b:=by rw [ab.z,filter_all _ (by rw [Lb.z]; omega)]; rfl
    subst a8;clear ab;have ao:=Ho;go_wp2
    first|(guard_hyp v;go_loopw [29,7] (fun i N wr=>∃ (k:Nat) (L:Option Addr) (M:Nat) (g:List ByteArray),k<=K/\i = .int .i64 k/\g=(((c.take k).filter fun x=>!b.any fun y=>decide (y.name=x.name)).map aC.name)/\N = .slice L g.length M/\xM w 130 wr/\wr.ownsRow (w.heap.size+1) 86 5 (.slice C (newL c b).length e) (newL c b).length (au aS (newL c b))/\wr.ownsRow (w.heap.size+1) 9 1 (.slice L g.length M) g.length (au kQ g)) (fun i _ _=>K - (intOf i).toNat))|(guard_hyp z;go_loopw [29,7] (fun i N wr=>∃ (k:Nat) (L:Option Addr) (M:Nat) (g:List ByteArray),k<=K/\i = .int .i64 k/\g=(((c.take k).filter fun x=>!b.any fun y=>decide (y.name=x.name)).map av.name)/\N = .slice L g.length M/\xM w 133 wr/\wr.ownsRow (w.heap.size+1) 81 3 (.slice C (newL c b).length e) (newL c b).length (au aH (newL c b))/\wr.ownsRow (w.heap.size+1) 9 1 (.slice L g.length M) g.length (au kQ g)) (fun i _ _=>K - (intOf i).toNat))|go_loopw [29,7] (fun i N wr=>∃ (k:Nat) (L:Option Addr) (M:Nat) (g:List ByteArray),k<=K/\i = .int .i64 k/\g=(((c.take k).filter fun x=>!b.any fun y=>decide (y.job=x.job)).map ak.job)/\N = .slice L g.length M/\xM w 136 wr/\wr.ownsRow (w.heap.size+1) 77 3 (.slice C (newL c b).length e) (newL c b).length (au aB (newL c b))/\wr.ownsRow (w.heap.size+1) 9 1 (.slice L g.length M) g.length (au kQ g)) (fun i _ _=>K - (intOf i).toNat)
    case atStart=>exact⟨0,none,0,[],Nat.zero_le _,rfl,by simp,rfl,ah,ao,World.ownsRow_nil _ _ _ _⟩
    case round=>
     clear ah ao I a0 Ho hk hlt a7;obtain⟨k,L,M,g,hk,rfl,hg,rfl,I,az,ho⟩:=hrel;have ah:=ω I;have Ho:=ω ho;have ar:=ω az;have HG:=ω hg;have aD:g.length<=k:=by rw [hg,List.length_map]; exact kB _ _ _
     have a0:=I.size;clear hg ho az;by_cases hlt:k<K
     · obtain⟨x,Y⟩:∃ x,c[k]? = some x:=⟨_,δ (by rw [La.z]; exact hlt)⟩;obtain⟨bb,aA,rfl,a4,S⟩:=(HA.below I.below).dL aj La.z Y;have V:=ω (rz (key:=al) (b:=b) Y)
       first
        |(
         guard_hyp v
         obtain⟨a,q,o,s,r⟩:=x;obtain⟨c0,e,c2,c3,c4⟩:=rc5 S)
        |(
         guard_hyp z
         obtain⟨a,l,n⟩:=x;obtain⟨c0,e,c2⟩:=rc3 S)
        |(
         guard_hyp E
         obtain⟨job,node,m⟩:=x;obtain⟨c0,e,c2⟩:=rc3 S)
       have a6:bb<wr.heap.size:=by omega
       first
        |(
         guard_hyp v
         have G:Below wr wr (χ wr #[a,q,o,s,r] 86):=(θ).alloc lQ _;have O:Blk (χ wr #[a,q,o,s,r] 86) wr 86 #[a,q,o,s,r]:=n5 wr _)
        |(
         guard_hyp z
         have G:Below wr wr (χ wr #[a,l,n] 81):=(θ).alloc lQ _;have O:Blk (χ wr #[a,l,n] 81) wr 81 #[a,l,n]:=n5 wr _)
        |(
         guard_hyp E
         have G:Below wr wr (χ wr #[job,node,m] 77):=(θ).alloc lQ _;have O:Blk (χ wr #[job,node,m] 77) wr 77 #[job,node,m]:=n5 wr _)
       have F:=ω O;have j:=I.kept G;have Q:=ω j;have R:=ω (aF Ho.z G);have MN:=ω (aF ar.z G)
       first
        |(
         guard_hyp v
         have hP:jX (fun y:aC=>decide (y.name=a)) 193 #[π w 0,π wr 0] aS b (χ wr #[a,q,o,s,r] 86):=by
          intro af W y _;obtain⟨bQ,gK,gL,eI,mg⟩:=y;exact IX bQ gK gL eI mg a q o s r w wr af (j.kept (W.mono lQ)).key (O.below W O.lt)
         have u:=ω (Aj.1 (fun y:aC=>decide (y.name=a)) 193 #[π w 0,π wr 0] b ae J cB (χ wr #[a,q,o,s,r] 86) (Go.Proofs.enters_of Tryz.func193 (by kernel_rfl) rfl) ((HB.below j.below).more j.below.size) Lb.z (by omega) hP))
        |(
         guard_hyp z
         have hP:jX (fun y:av=>decide (y.name=a)) 196 #[π w 0,π wr 0] aH b (χ wr #[a,l,n] 81):=by
          intro af W y _;obtain⟨bQ,dX,dY⟩:=y;exact FH bQ dX dY a l n w wr af (j.kept (W.mono lQ)).key (O.below W O.lt)
         have u:=ω (Aj.2 (fun y:av=>decide (y.name=a)) 196 #[π w 0,π wr 0] b ae J cB (χ wr #[a,l,n] 81) (Go.Proofs.enters_of Tryz.func196 (by kernel_rfl) rfl) ((HB.below j.below).more j.below.size) Lb.z (by omega) hP))
        |(
         guard_hyp E
         have hP:jX (fun y:ak=>decide (y.job=job)) 199 #[π w 0,π wr 0] aB b (χ wr #[job,node,m] 77):=by
          intro af W y _;obtain⟨gQ,dZ,eu⟩:=y;exact DT gQ dZ eu job node m w wr af (j.kept (W.mono lQ)).key (O.below W O.lt)
         have u:=ω (FI (fun y:ak=>decide (y.job=job)) 199 #[π w 0,π wr 0] b ae J cB (χ wr #[job,node,m] 77) (Go.Proofs.enters_of Tryz.func199 (by kernel_rfl) rfl) ((HB.below j.below).more j.below.size) Lb.z (by omega) hP))
       have aE:∀ (fn:Fn) (first aw:Array Value) (w:World),(Instr.makeFunc fn first aw).run Tryz.prog w = .ok (.func fn first aw) w:=fun _ _ _ _=>rfl;clear S Y G O j I hP
       go_wp2_with fail
       refine u.mono ?_;rintro ax B ⟨rfl,D⟩;have X:=ω (Q.kept D);have U:=ω (aF R.z D);have ap:=ω (aF MN.z D);have h:=F.below D F.lt;have a9:=h.lt;have ay:ζ B w 0 (.func (.func ag) #[] #[]):=X.key;have aG:=X.size
       first
        |(
         guard_hyp v
         obtain⟨j0,j1,j2,j3,j4⟩:=Blk.c5 (h);clear D u F Q R MN h c0 e c2 c3 c4)
        |(
         guard_hyp z
         have j0:ζ B wr 0 (.string a):=h.cell 0;have j1:ζ B wr 1 (.int .i64 l):=h.cell 1;have j2:ζ B wr 2 (.string n):=h.cell 2;clear D u F Q R MN h c0 e c2)
        |(
         guard_hyp E
         have j0:ζ B wr 0 (.string job):=h.cell 0;have j1:ζ B wr 1 (.string node):=h.cell 1;have j2:ζ B wr 2 (.int .i64 m):=h.cell 2;clear D u F Q R MN h c0 e c2)
       first|(guard_hyp E;cases H:b.any fun y=>decide (y.job=job))|cases H:b.any fun y=>decide (y.name=a)
       · have Hs:=ω (V.z.1 H);clear H
         go_wp2_with fail
         first
          |(
           guard_hyp v
           refine Calls.mono (kr a q o s r _) ?_)
          |(
           guard_hyp z
           refine Calls.mono (jc a l n _) ?_)
          |(
           guard_hyp E
           refine Calls.mono (fF job node m _) ?_)
         rintro ax w5 ⟨rfl,ac⟩;have a2:=ω (X.kept ac);have ai:=ω (aF U.z ac);have a3:=ω (aF ap.z ac);have ad:w.heap.size+1<=w5.heap.size:=by have:=ac.size; omega
         first
          |(
           guard_hyp v
           clear ac ay j0 j1 j2 j3 j4)
          |(
           guard_hyp a1
           clear ac ay j0 j1 j2)
         first|(guard_hyp E;go_wp2_with (at_builtin; refine cI kQ rfl _ _ 28 9 (.string ⟨#[]⟩) 1 16 rfl Tryz.underlying28 sG rfl (by decide) gE qA (w.heap.size+1) _ _ _ g rfl ai.z _ job rfl _ (by simp) rfl (by omega) (by unfold maxLen; omega) ad ?_; intro P c2 w4 T Z))|go_wp2_with (at_builtin; refine cI kQ rfl _ _ 28 9 (.string ⟨#[]⟩) 1 16 rfl Tryz.underlying28 sG rfl (by decide) gE qA (w.heap.size+1) _ _ _ g rfl ai.z _ a rfl _ (by simp) rfl (by omega) (by unfold maxLen; omega) ad ?_; intro P c2 w4 T Z)
         have aa:=a2.grew Z (fun k hk=>(ai.lt k hk).1);have aq:=cQ a3.z Z ai.z (by decide)
         go_roundw
         case rel=>first|(guard_hyp E;exact⟨k+1,P,c2,g ++ [job],by omega,by go_num,by rw [HG.z]; exact Hs.symm,by simp,aa,aq,by simpa using T⟩)|exact⟨k+1,P,c2,g ++ [a],by omega,by go_num,by rw [HG.z]; exact Hs.symm,by simp,aa,aq,by simpa using T⟩
         case measure=>simp [intOf]; omega
       · have Hs:=ω (V.z.2 H);clear H;go_wp2
         go_roundw
         case rel=>exact⟨k+1,L,M,g,by omega,by go_num,by rw [HG.z]; exact Hs.symm,rfl,X,ap,U⟩
         case measure=>simp [intOf]; omega
     · have a5:g=bJ al c b:=by rw [HG.z,filter_all _ (by rw [La.z]; omega)]; rfl
       subst a5;clear HG;go_wp2;go_ret2;exact⟨C,e,L,M,rfl,ar,Ho,ah.below⟩)
end Go.Proofs.YtimglglgcgpjgabGreatDoor
