/- Of the proof of a statement: Lease, RowsL, ChkR, Sum, FrmEnc. -/
import Derived.Deep.QuietTactic
import Derived.BigQuiet
import Derived.Lib.QuietBelow
import Derived.Deep.RegionHeld3
import Derived.Test.YtimglglgcgpjgabGreatDoorPTabM
set_option linter.unusedVariables false
set_option linter.unusedSimpArgs false
set_option maxRecDepth 100000
set_option maxHeartbeats 8000000
namespace Go.Proofs.YtimglglgcgpjgabGreatDoor
open Go.RowKit
open Go.Lib (validD)
def sH (l:List aC) (s:ByteArray):Option Value:=(cD l s).map fun j=>.agg (aS j).toArray
def pA (l:List av) (s:ByteArray):Option Value:=(bU l s).map fun n=>.agg (aH n).toArray
structure jP (w:World) (T b1 b2 b3 n1 n2 n3:Nat) (g1 g2 g3:ByteArray->Option Value):Prop where
 t:Blk w T 201 #[.map (some b1),.map (some b2),.map (some b3)]
 m1:eT w b1 n1 g1
 m2:eT w b2 n2 g2
 m3:eT w b3 n3 g3
theorem MT (w:World):(zeroValue 86).run Tryz.prog w = .ok (.agg #[.string ⟨#[]⟩,(0:Int),(0:Int),(0:Int),.string ⟨#[]⟩]) w:=by kernel_rfl
theorem KH (w:World):(zeroValue 81).run Tryz.prog w = .ok (.agg #[.string ⟨#[]⟩,(0:Int),.string ⟨#[]⟩]) w:=by kernel_rfl
theorem If (w:World):(zeroValue 3).run Tryz.prog w = .ok (.int .i64 0) w:=by kernel_rfl
theorem I8 (l:List aC) (s:ByteArray):∃ (j:aC),(sH l s).getD (.agg #[.string ⟨#[]⟩,(0:Int),(0:Int),(0:Int),.string ⟨#[]⟩]) = .agg #[j.name,j.prio,j.need,j.tries,j.tag]/\(sH l s).isSome=(cD l s).isSome/\(∀ x,cD l s=some x->x=j):=by
 unfold sH
 cases h:cD l s with
 | none=>exact⟨⟨⟨#[]⟩,0,0,0,⟨#[]⟩⟩,rfl,rfl,fun x e=>by cases e⟩
 | some j=>exact⟨j,rfl,rfl,fun x e=>by injection e with e; exact e.symm⟩
theorem FU (l:List av) (s:ByteArray):∃ (n:av),(pA l s).getD (.agg #[.string ⟨#[]⟩,(0:Int),.string ⟨#[]⟩]) = .agg #[n.name,n.room,n.zone]/\(pA l s).isSome=(bU l s).isSome:=by
 unfold pA
 cases h:bU l s with
 | none=>exact⟨⟨⟨#[]⟩,0,⟨#[]⟩⟩,rfl,rfl⟩
 | some n=>exact⟨n,rfl,rfl⟩
def qX (g:ByteArray->Option Value) (U:ByteArray->Int):Prop:=∀ s,(g s).getD (.int .i64 0) = .int .i64 (U s)
def tU (st:ah) (l:ak) (b3 n3:Nat) (U:ByteArray->Int) (w:World) (e:Ending) (w':World):Prop:=
 e = .returned (.int .i64 (dN st l))/\w.grownBy w' (some b3)/\(dN st l=0->∃ g,eT w' b3 (n3+1) g/\qX g (fun s=>U s+fS st l s))
theorem tU.six {st:ah} {l:ak} {b3 n3:Nat} {U:ByteArray->Int} {w w':World} (h:dN st l=6) (a:Below w w w'):tU st l b3 n3 U w (.returned (.int .i64 6)) w':=
 ⟨by rw [h],iW (World.grownBy.refl w _) a,fun e=>by rw [h] at e; cases e⟩
theorem I9 (st:ah) (l:ak) (w:World) (T b1 b2 b3 n1 n2 n3:Nat) (g3:ByteArray->Option Value) (U:ByteArray->Int) (h1:l.job.size<=maxLen) (z:l.node.size<=maxLen) (ar:n3<=1000)
 (yP:∀ j ∈ st.jobs,0<=j.need/\j.need<=1000000) (O:qX g3 U) (ai:∀ s,0<=U s/\U s<=1000000000)
 (a:jP w T b1 b2 b3 n1 n2 n3 (sH st.jobs) (pA st.nodes) g3) :
 ψ 137 #[π T 0,.agg (aB l).toArray] w (tU st l b3 n3 U w):=by
 have N8:=ω (fun (ao:dN st l=6) w'=>tU.six (b3:=b3) (n3:=n3) (U:=U) (w:=w) (w':=w') ao);obtain⟨j,R,S,V⟩:=I8 st.jobs l.job;obtain⟨n,X,Y⟩:=FU st.nodes l.node;have hE:dN st l=if (cD st.jobs l.job).isSome && (bU st.nodes l.node).isSome then (if ranged l.till 0 1099511627776 then 0 else 1) else 6:=rfl;have h:=ω hE
 have hN:∀ s,(cD st.jobs l.job).isSome=true->fS st l s=if l.node=s then j.need else 0:=by
  intro s d;unfold fS
  cases q:cD st.jobs l.job with
  | none=>rw [q] at d; cases d
  | some H=>rw [V H q]
 have aj:(cD st.jobs l.job).isSome=true->0<=j.need/\j.need<=1000000:=by
  intro d
  cases q:cD st.jobs l.job with
  | none=>rw [q] at d; cases d
  | some H=>rw [<- V H q]; exact yP H (List.mem_of_find?_eq_some q)
 have y:=ω hN;have I:=ω aj;generalize (cD st.jobs l.job).isSome=bj at S h y I;generalize (bU st.nodes l.node).isSome=bn at Y h;clear hE V yP hN aj;have au:l.node=l.node:=rfl;obtain⟨L,hL⟩:∃ L,L=l:=⟨_,rfl⟩;have HL:=ω hL;clear hL;obtain⟨job,node,b⟩:=l;unfold aB;simp only at h1 z R S X Y |-;obtain⟨u,v,e,x,r⟩:=j;obtain⟨E,F,G⟩:=n;simp only at R X I y;have N:=a.t.lt;have z0:ζ w T 0 (.map (some b1)):=a.t.cell 0;have z1:ζ w T 1 (.map (some b2)):=a.t.cell 1;have z2:ζ w T 2 (.map (some b3)):=a.t.cell 2;have i:=(Below.refl w w).alloc lQ (.cells #[job,node,b] 77);have c:=i.alloc i.size (.cells #[u,v,e,x,r] 86);have k:=c.alloc c.size (.cells #[E,F,G] 81)
 have J:∀ W,Below w w W->(Instr.lookup 197 (.map (some b1)) (.string job) true).run Tryz.prog W = .ok (.tuple #[.agg #[u,v,e,x,r],.bool bj]) W:=fun W P=>by
  rw [(a.m1.below P a.m1.lt).look_ok Tryz.underlying197 (MT W) job h1,R,S]
 have K:∀ W,Below w w W->(Instr.lookup 198 (.map (some b2)) (.string node) true).run Tryz.prog W = .ok (.tuple #[.agg #[E,F,G],.bool bn]) W:=fun W P=>by
  rw [(a.m2.below P a.m2.lt).look_ok Tryz.underlying198 (KH W) node z,X,Y]
 have r0:=J _ (i.drew);have r1:=fun o=>J _ ((i.alloc i.size o).drew);have r2:=K _ (c.drew.drew);have r3:=fun o=>K _ ((c.alloc c.size o).drew.drew);have C:=(a.m3.below k.drew.drew.drew a.m3.lt).look Tryz.underlying199 (If _) node z;rw [O node] at C;obtain⟨w5,Z,al,Q⟩:=(a.m3.below k.drew.drew.drew a.m3.lt).put Tryz.underlying199 (by unfold maxLen; omega) node z (.int .i64 (U node+e));have av:=ai node;have ad:=ω Q;have ae:=ω al;have af:=ω O;have ab:=ω k.drew.drew;have ac:=ω k.drew.drew.drew;have x1:ζ ((w.alloc (.cells #[job,node,b] 77)).alloc (.cells #[u,v,e,x,r] 86)) w 1 (.string node):=by simp [go_sem]
 have p1:=(c.cell (p:=⟨T,1,none⟩) N).trans z1;have p2:=fun o=>((c.alloc c.size o).cell (p:=⟨T,1,none⟩) N).trans z1;have p3:=fun (o:Obj)=>(((θ).alloc lQ o).cell (p:=⟨w,1,none⟩) (show w.heap.size<((w.alloc (.cells #[job,node,b] 77)).alloc (.cells #[u,v,e,x,r] 86)).heap.size by simp; omega)).trans x1;have q1:=(k.cell (p:=⟨T,2,none⟩) N).trans z2;have x2:ζ (((w.alloc (.cells #[job,node,b] 77)).alloc (.cells #[u,v,e,x,r] 86)).alloc (.cells #[E,F,G] 81)) w 2 (.int .i64 b):=by simp [go_sem]
 have x3:ζ (((w.alloc (.cells #[job,node,b] 77)).alloc (.cells #[u,v,e,x,r] 86)).alloc (.cells #[E,F,G] 81)) (w.heap.size+1) 2 (.int .i64 e):=by simp [go_sem]
 have ap:=a.m3.lt;have aa:ζ w5 w 2 (.int .i64 b):=Q.cell x2 (by simp; omega);have am:=ω aa;clear J K a i c k Q al O ai aa x2;go_enter Tryz.func137,Tryz.ntmps137;go_wp2
 go_region
 clear r0 r1;go_wp2
 go_region
 clear r2 r3 p1 p2 p3 x1;cases bj
 · have M:=ω (N8.z (by rw [h.z]; rfl));clear Z C;go_wp2;go_ret;exact M.z _ ab.z
 cases bn
 · have M:=ω (N8.z (by rw [h.z]; rfl));clear Z C;go_wp2;go_ret;exact M.z _ ab.z
 have aq:=I.z rfl;go_wp2
 go_region
 clear Z C q1 x3;have aa:=am.z
 have D:=ω (show w.grownBy w5 (some b3)/\∃ g,eT w5 b3 (n3+1) g/\qX g (fun s=>U s+fS st ⟨job,node,b⟩ s) from
  ⟨(iW (World.grownBy.refl w _) ac.z).trans ad.z,_,ae,fun s=>by
   show _=Value.int .i64 (U s+fS st ⟨job,node,b⟩ s)
   rw [y.z s trivial];by_cases d:s=node
   · subst d;rw [if_pos rfl,if_pos rfl]; rfl
   · rw [if_neg d,if_neg (fun ag=>d ag.symm),af.z s,Int.add_zero]⟩)
 clear ad ae y af ac
 go_wp2_with fail
 refine Calls.mono (kE _ _ _ _) ?_;rintro ag w6 ⟨rfl,rfl⟩;cases hr:ranged b 0 1099511627776
 · go_wp2;go_ret;exact⟨aX (by rw [h.z,hr]; rfl),D.z.1,fun _=>D.z.2⟩
 · go_wp2;go_ret;exact⟨aX (by rw [h.z,hr]; rfl),D.z.1,fun _=>D.z.2⟩
theorem fF (job node:ByteArray) (till:Int) (w:World):ψ 136 #[.agg #[job,node,till]] w fun e w'=>e = .returned (.string job)/\Below w w w':=by
 have a:=ω ((Below.refl w w).alloc lQ (.cells #[job,node,till] 77));go_enter Tryz.func136,Tryz.ntmps136;go_wp2;go_ret;exact⟨rfl,a⟩
def lB (xs:List ak):Prop:=∀ x ∈ xs,x.job.size<=9223372036854775807/\x.node.size<=9223372036854775807
section
variable {w w':World} {B sz n g:Nat} {A:Option Addr} {xs:List Value}
theorem bg.but (h:bg w B sz A n xs) (c:w.grownBy w' (some g)) (l:B<=g):bg w' B sz A n xs:=
 ⟨h.len,fun d=>by
  obtain⟨b,k,e,a,f⟩:=h.at_ d;exact⟨b,k,e,a,fun j u i=>c.cell (f j u i) (by simp; omega)⟩⟩
end
section
variable {w w':World} {T b1 b2 b3 n1 n2 n3 m:Nat} {g1 g2 g3 g:ByteArray->Option Value}
theorem jP.below (h:jP w T b1 b2 b3 n1 n2 n3 g1 g2 g3) (a:Below w w w'):jP w' T b1 b2 b3 n1 n2 n3 g1 g2 g3:=
 ⟨h.t.below a h.t.lt,h.m1.below a h.m1.lt,h.m2.below a h.m2.lt,h.m3.below a h.m3.lt⟩
theorem jP.used (h:jP w T b1 b2 b3 n1 n2 n3 g1 g2 g3) (a:w.grownBy w' (some b3)) (b:b1≠b3) (c:b2≠b3) (d:T≠b3) (e:eT w' b3 m g):jP w' T b1 b2 b3 n1 n2 m g1 g2 g:=
 ⟨(a.block T h.t.lt (by simp [d])).trans h.t,h.m1.but a b,h.m2.but a c,e⟩
end
def PX (st:ah) (n:Nat) (R:Int) (w:World) (T b1 b2 b3 n1 n2:Nat) (i:Value) (wr:World):Prop:=
 ∃ (k:Nat) (g3:ByteArray->Option Value),k<=n/\i = .int .i64 k/\eF (dN st) ak.job (prevK ak.job st.leases k) (st.leases.drop k)=R/\w.grownBy wr (some b3) /\
  jP wr T b1 b2 b3 n1 n2 k (sH st.jobs) (pA st.nodes) g3/\qX g3 (fun s=>fW st s (st.leases.take k))
def OM (st:ah) (n:Nat) (R:Int) (b3:Nat) (w:World) (e:Ending) (w':World):Prop:=
 e = .returned (.int .i64 R)/\w.grownBy w' (some b3)/\(R=0->∃ g,eT w' b3 n g/\qX g (rV st))
theorem BK (st:ah) (A:Option Addr) (n c:Nat) (w:World) (T b1 b2 b3 n1 n2:Nat) (g3:ByteArray->Option Value) (G:bg w b3 3 A n (au aB st.leases)) (hl:st.leases.length=n) (hn:n<=40) (ai:lB st.leases)
 (yP:tN st) (h1:b1≠b3) (h2:b2≠b3) (h3:T≠b3) (hu:qX g3 (fun _=>0)) (ht:jP w T b1 b2 b3 n1 n2 0 (sH st.jobs) (pA st.nodes) g3) :
 ψ 135 #[.slice A n c,.func (.func 136) #[] #[],.func (.func 137) #[π T 0] #[]] w (OM st n (cu (dN st) ak.job st.leases) b3 w):=by
 obtain⟨R,S⟩:∃ R,cu (dN st) ak.job st.leases=R:=⟨_,rfl⟩;rw [S];have HR:=ω S;have o:=ω hl;have ar:=ω ai;have yQ:=ω yP;have H0:=ω (And.intro hu ht);clear hl S ai yP hu ht;go_enter Tryz.func135,Tryz.ntmps135;go_wp2
 go_loopw [6,7,8,9,12,19,28,35] (fun _ _ _ _ X _ _ _ wr=>PX st n R w T b1 b2 b3 n1 n2 X wr) (fun _ _ _ _ X _ _ _ _=>n - (intOf X).toNat)
 case atStart=>exact⟨0,g3,Nat.zero_le _,rfl,by rw [<- HR.z]; rfl,World.grownBy.refl w _,H0.z.2,by rw [List.take_zero]; exact H0.z.1⟩
 case round=>
  obtain⟨k,g,hk,rfl,aj,K,U,ap⟩:=hrel;have u:=ω aj;have Hg:=ω K;have N:=ω U;have ab:=ω ap;have aA:=K.size;have a3:=U.m3.lt;have r:=G.but K lQ;clear aj U ap K;by_cases hlt:k<n
  · obtain⟨x,D⟩:∃ x,st.leases[k]? = some x:=⟨_,δ (by rw [o.z]; exact hlt)⟩;obtain⟨p,M,rfl,a4,hc⟩:=r.dL aI o.z D;have al:=ω (ar.z x (m8 D));have az:=ω (fun s=>zW st s D);have Kk:=ω (fun s=>sK yQ.z s (st.leases.take k));have a5:(st.leases.take k).length<=40:=by rw [List.length_take]; omega
    have H:=ω D;obtain⟨E,hE⟩:∃ E,dN st x=E:=⟨_,rfl⟩;have i:=ω hE;obtain⟨job,node,aa⟩:=x;obtain⟨c0,O,c2⟩:=rc3 hc;clear hc D hE;have a9:p<wr.heap.size:=by omega
    have Q:=(Below.refl wr wr).alloc lQ (.cells #[job,node,aa] 77);have aq:=ω Q;have ay:=ω (show ∀ s,0<=fW st s (st.leases.take k)/\fW st s (st.leases.take k)<=1000000000 from fun s=>by have:=Kk.z s; omega);have ad:=ω (I9 st ⟨job,node,aa⟩ _ T b1 b2 b3 n1 n2 k g _ al.z.1 al.z.2 (by omega) yQ.z ab.z ay.z (N.below Q));clear Q
    go_wp2_with fail
    refine ad.mono ?_;rintro a1 b ⟨rfl,h,W⟩;rw [i.z];rw [i.z] at W;have hz:=ω W;have a2:=ω h;have z:=ω ((iW (World.grownBy.refl wr (some b3)) aq.z).trans h);have I:=ω (Hg.trans z.z);have am:=h.size;have a6:wr.heap.size<b.heap.size:=by simp at am; omega
    clear ad W am;by_cases C:E=0
    · subst C;have Y:∀ d a,ζ (Sort.grow (redrawn b d) a) wr 0 (.string job):=fun d a=>cell_regrown (h.cell (by simp [go_sem]) (by simp; omega)) d a;have Z:∀ d a,ζ (Sort.grow (redrawn b d) a) wr 1 (.string node):=fun d a=>cell_regrown (h.cell (by simp [go_sem]) (by simp; omega)) d a;have l2:∀ d a,ζ (Sort.grow (redrawn b d) a) wr 2 (.int .i64 aa):=fun d a=>cell_regrown (h.cell (by simp [go_sem]) (by simp; omega)) d a;obtain⟨P,ag,ao⟩:=hz.z rfl;have L:=ω (And.intro (N.used z.z h1 h2 h3 ag) (show qX P (fun s=>fW st s (st.leases.take (k+1))) from fun s=>(ao s).trans (congrArg (Value.int .i64) (az.z s).symm)));clear ag ao;by_cases ae:k=0
      · subst ae;have j:=ω (gS (key:=ak.job) H.z i.z (.inl rfl));clear c0 O c2 G r h
        go_wp2_with fail
        refine wp_region_quiet_below (by kernel_rfl) (by kernel_rfl) ?_
        repeat (go_big_quiet_step (fail))
        refine wpQuiet_nil ?_;intro _ F;obtain⟨⟨nq,osq⟩,hw''⟩:=F;subst hw'';have e:=ω (below_regrown b nq osq);clear Y Z l2;dsimp only;generalize Sort.grow (redrawn b nq) osq=w2 at e |-;go_wp2
        go_roundw
        case rel=>exact⟨1,P,by omega,by go_num,by rw [<- j.z]; exact u.z,iW I.z e.z,L.z.1.below e.z,L.z.2⟩
        case measure=>simp [intOf]; omega
      · obtain⟨y,V⟩:∃ y,st.leases[k - 1]? = some y:=⟨_,δ (by rw [o.z]; omega)⟩;obtain⟨b',a0,aw,xB,hp⟩:=r.dL aI o.z V;obtain⟨rfl,rfl⟩:p=b'/\M=a0:=by simpa using aw
        have Hy:=ω V;obtain⟨l,DY,DZ⟩:=y;obtain⟨q0,q1,q2⟩:=rc3 hp;have J:(some p:Option Nat)≠some b3:=by simp; omega
        have p0:∀ d a,ζ (Sort.grow (redrawn b d) a) p (M+(k - 1)*3) (.string l):=fun d a=>cell_regrown (z.cell q0 J) d a;have p1:∀ d a,ζ (Sort.grow (redrawn b d) a) p (M+(k - 1)*3+1) (.string DY):=fun d a=>cell_regrown (z.cell q1 J) d a;have p2:∀ d a,ζ (Sort.grow (redrawn b d) a) p (M+(k - 1)*3+2) (.int .i64 DZ):=fun d a=>cell_regrown (z.cell q2 J) d a;clear q0 q1 q2 c0 O c2 hp V G r h J;have a8:decide ((0:Int)<(k:Int))=true:=t7 (by omega);have a7:0<k:=by omega
        have af:=ω (j6 l.toList job.toList);obtain⟨B,v⟩:∃ B,Op.bytesLess l.toList job.toList=B:=⟨_,rfl⟩;have HL:=ω v;cases B
        · have e1:(Op.bytesLess job.toList l.toList || job.toList == l.toList)=true:=by rw [<- af.z,v]; rfl
          have j:=ω (mW (key:=ak.job) H.z i.z ae Hy.z HL.z);clear v
          go_wp2_with fail
          refine wp_region_quiet_below (by kernel_rfl) (by kernel_rfl) ?_
          repeat (go_big_quiet_step ((go_at_call 136; exact Calls.regrown_of (fF _ _ _ _))))
          refine wpQuiet_nil ?_;intro _ F;obtain⟨⟨nq,osq⟩,hw''⟩:=F;subst hw'';have e:=ω (below_regrown b nq osq);clear Y Z l2 p0 p1 p2;dsimp only;generalize Sort.grow (redrawn b nq) osq=w2 at e |-;go_wp2;go_ret;have q:=u.z;rw [j.z] at q;exact⟨aX q,iW I.z e.z,fun ac=>by omega⟩
        · have e1:(Op.bytesLess job.toList l.toList || job.toList == l.toList)=false:=by rw [<- af.z,v]; rfl
          have j:=ω (gS (key:=ak.job) H.z i.z (.inr ⟨_,Hy,HL⟩));clear v
          go_wp2_with fail
          refine wp_region_quiet_below (by kernel_rfl) (by kernel_rfl) ?_
          repeat (go_big_quiet_step ((go_at_call 136; exact Calls.regrown_of (fF _ _ _ _))))
          refine wpQuiet_nil ?_;intro _ F;obtain⟨⟨nq,osq⟩,hw''⟩:=F;subst hw'';have e:=ω (below_regrown b nq osq);clear Y Z l2 p0 p1 p2;dsimp only;generalize Sort.grow (redrawn b nq) osq=w2 at e |-;go_wp2
          go_roundw
          case rel=>exact⟨k+1,P,by omega,by go_num,by rw [<- j.z]; exact u.z,iW I.z e.z,L.z.1.below e.z,L.z.2⟩
          case measure=>simp [intOf]; omega
    · have j:=ω (lC (E:=dN st) (key:=ak.job) H.z (by rw [i.z]; exact C));have e1:(E == 0)=false:=beq_eq_false_iff_ne.2 C;have e2:(E != 0)=true:=bne_iff_ne.2 C;clear c0 O c2 G r h;go_wp2;go_ret;have q:=u.z;rw [j.z,i.z] at q;exact⟨aX q,I,fun ac=>absurd (q.trans ac) C⟩
  · obtain rfl:k=n:=by omega
    have av:=ω (show R=0 by rw [<- u.z]; exact qC (by rw [o.z]; exact lQ) _)
    have ax:=ω (show qX g (rV st) from fun s=>by
     have:=ab.z s;rw [List.take_of_length_le (by rw [o.z]; exact lQ)] at this;exact this)
    clear G r;go_wp2;go_ret;exact⟨aX av.symm,Hg,fun _=>⟨g,N.m3,ax⟩⟩
theorem vg (s:ByteArray) (w:World) (c:s.size<=9223372036854775807):ψ 85 #[s] w fun e w'=>e = .returned (.bool (lG s))/\w=w':=by
 by_cases h:s.size<=16
 · rw [yV h];have a:=ω (AB s w (by omega));generalize validD s.data.toList=b at a |-;go_enter Tryz.func85,Tryz.ntmps85
   go_wp2_with fail
   refine a.mono ?_;rintro e d ⟨rfl,rfl⟩;go_wp2;go_ret;exact⟨rfl,rfl⟩
 · rw [rG h];go_enter Tryz.func85,Tryz.ntmps85;go_wp2;go_ret;exact⟨rfl,rfl⟩
theorem lV (s:ByteArray) (w:World) (b:s.size<=9223372036854775807):ψ 84 #[s] w fun e w'=>e = .returned (.bool (cP s))/\w=w':=by
 by_cases h:s.size=0
 · rw [wB h];obtain rfl:=og h;go_enter Tryz.func84,Tryz.ntmps84;go_wp2;go_ret;exact⟨rfl,rfl⟩
 · rw [yW h];have a:=ω (vg s w b);have d:=oQ h;have i:=nB h;generalize lG s=c at a |-;go_enter Tryz.func84,Tryz.ntmps84
   go_wp2_with fail
   refine a.mono ?_;rintro e j ⟨rfl,rfl⟩;go_wp2;go_ret;exact⟨rfl,rfl⟩
theorem dG (n lo hi:Int) (w:World):ψ 20 #[n,lo,hi] w fun e w'=>e = .returned (.bool (!ranged n lo hi))/\w=w':=by
 cases h:ranged n lo hi
 · exact eC n lo hi (fT.1 h) w
 · exact dh n lo hi (aM.1 h).1 (aM.1 h).2 w
theorem vQ (j:aC) (w:World) (o:j.name.size<=9223372036854775807) (p:j.tag.size<=9223372036854775807) :
 ψ 42 #[.agg (aS j).toArray] w fun e w'=>e = .returned (.int .i64 (fG j))/\Below w w w':=by
 obtain⟨E,k⟩:∃ E,fG j=E:=⟨_,rfl⟩;rw [k];have b:=ω k;clear k;obtain⟨r,u,s,x,v⟩:=j;unfold aS;simp only at o p |-;have a:=ω ((Below.refl w w).alloc lQ (.cells #[r,u,s,x,v] 86));go_enter Tryz.func42,Tryz.ntmps42
 go_wp2_with fail
 refine Calls.mono (lV _ _ o) ?_;rintro e i ⟨rfl,rfl⟩;cases c:cP r
 · go_wp2;go_ret;exact⟨aX (by rw [<- b.z]; simp [fG,c]),a⟩
 go_wp2_with fail
 refine Calls.mono (vg _ _ p) ?_;rintro e i ⟨rfl,rfl⟩;cases d:lG v
 · go_wp2;go_ret;exact⟨aX (by rw [<- b.z]; simp [fG,c,d]),a⟩
 go_wp2_with fail
 refine Calls.mono (dG _ _ _ _) ?_;rintro e i ⟨rfl,rfl⟩;cases h:ranged u (-1000) 1000
 · go_wp2;go_ret;exact⟨aX (by rw [<- b.z]; simp [fG,c,d,h]),a⟩
 go_wp2_with fail
 refine Calls.mono (dG _ _ _ _) ?_;rintro e i ⟨rfl,rfl⟩;cases l:ranged s 0 1000000
 · go_wp2;go_ret;exact⟨aX (by rw [<- b.z]; simp [fG,c,d,h,l]),a⟩
 go_wp2_with fail
 refine Calls.mono (dG _ _ _ _) ?_;rintro e i ⟨rfl,rfl⟩;cases q:ranged x 0 100
 · go_wp2;go_ret;exact⟨aX (by rw [<- b.z]; simp [fG,c,d,h,l,q]),a⟩
 go_wp2;go_ret;exact⟨aX (by rw [<- b.z]; simp [fG,c,d,h,l,q]),a⟩
theorem uC (n:av) (w:World) (i:n.name.size<=9223372036854775807) (j:n.zone.size<=9223372036854775807) :
 ψ 43 #[.agg (aH n).toArray] w fun e w'=>e = .returned (.int .i64 (dE n))/\Below w w w':=by
 obtain⟨E,d⟩:∃ E,dE n=E:=⟨_,rfl⟩;rw [d];have b:=ω d;clear d;obtain⟨l,o,q⟩:=n;unfold aH;simp only at i j |-;have a:=ω ((Below.refl w w).alloc lQ (.cells #[l,o,q] 81));go_enter Tryz.func43,Tryz.ntmps43
 go_wp2_with fail
 refine Calls.mono (lV _ _ i) ?_;rintro e p ⟨rfl,rfl⟩;cases c:cP l
 · go_wp2;go_ret;exact⟨aX (by rw [<- b.z]; simp [dE,c]),a⟩
 go_wp2_with fail
 refine Calls.mono (vg _ _ j) ?_;rintro e p ⟨rfl,rfl⟩;cases h:lG q
 · go_wp2;go_ret;exact⟨aX (by rw [<- b.z]; simp [dE,c,h]),a⟩
 go_wp2_with fail
 refine Calls.mono (dG _ _ _ _) ?_;rintro e p ⟨rfl,rfl⟩;cases k:ranged o 0 1000000
 · go_wp2;go_ret;exact⟨aX (by rw [<- b.z]; simp [dE,c,h,k]),a⟩
 go_wp2;go_ret;exact⟨aX (by rw [<- b.z]; simp [dE,c,h,k]),a⟩
def FV:Array Value:=Array.replicate 256 (.int .u32 0)
theorem Ig (w:World):(zeroValue 256).run Tryz.prog w = .ok (.agg FV) w:=by kernel_rfl
def yX (cs:Array Value) (k:Nat):Prop:=cs.size=256/\(∀ j,j<k->cs[j]? = some (.int .u32 ((oh 8 j:Nat):Int)))/\cs.all (·.oneCell')=true
theorem yX.zero:yX FV 0:=⟨by simp [FV],fun j h=>absurd h (by omega),by decide +kernel⟩
theorem yX.step {cs:Array Value} {k:Nat} (h:yX cs k) (d:k<256):yX (cs.setIfInBounds k (.int .u32 ((oh 8 k:Nat):Int))) (k+1):=by
 refine⟨by simpa using h.1,fun j c=>?_,?_⟩
 · rw [Array.getElem?_setIfInBounds];have:=h.1;by_cases e:k=j
   · subst e; rw [if_pos rfl,if_pos (by omega)]
   · rw [if_neg e]; exact h.2.1 j (by omega)
 · have:=h.2.2;rw [Array.all_eq_true_iff_forall_mem] at this |-;intro x b;rcases Array.mem_or_eq_of_mem_setIfInBounds b with a | a
   · exact this x a
   · subst a; rfl
def MU (w:World) (i:Value) (wr:World):Prop:=∃ (k:Nat) (cs:Array Value),k<=256/\i = .int .i64 k/\yX cs k/\wr=w.alloc (.cells cs 256)
theorem below_setRow (w:World) (g:Nat) (cs:Array Value):Below g w (w.setRow g cs):=by
 refine⟨rfl,rfl,rfl,by simp [World.setRow],fun k a=>?_⟩;simp only [World.setRow,Array.getElem?_modify];rw [if_neg (by omega)]
theorem KI (w:World):ψ 180 #[] w fun o w'=>∃ cs,yX cs 256/\o = .returned (.agg cs)/\Below w w w':=by
 have E:=Ig;go_enter Tryz.func180,Tryz.ntmps180;go_wp2
 go_loopw [1,2,3,4,9] (fun _ _ _ i _ wr=>MU w i wr) (fun _ _ _ i _ _=>256 - (intOf i).toNat)
 case atStart=>exact⟨0,FV,by omega,rfl,yX.zero,rfl⟩
 case round=>
  obtain⟨k,cs,z,rfl,j,rfl⟩:=hrel;have a:=ω j;clear j;by_cases hlt:k<256
  · go_wp2
    go_loop [2,3,9] (fun x _ i=>∃ (m:Nat),m<=8/\i = .int .i64 m/\x = .int .u32 ((oh m k:Nat):Int)) (fun _ _ i=>8 - (intOf i).toNat)
    case atStart=>exact⟨0,by omega,rfl,rfl⟩
    case round=>
     obtain⟨m,C,rfl,rfl⟩:=hrel;have q:=wC (x:=k) (by omega) m;have b:=BL (oh m k) q;have s:=b.2.1;have u:=b.2.2;have l:=ω b.1;clear b;by_cases D:m<8
     · go_wp2
       go_round
       case rel=>exact⟨m+1,by omega,by go_num,by rw [l.z]; rfl⟩
       case measure=>simp [intOf]; omega
     · obtain rfl:m=8:=by omega
       obtain⟨r,y⟩:∃ v,cs[k]? = some v:=⟨_,Array.getElem?_eq_getElem (by rw [a.z.1]; exact hlt)⟩;go_wp2
       go_roundw
       case rel=>exact⟨k+1,_,by omega,by go_num,a.step hlt,rfl⟩
       case measure=>simp [intOf]; omega
  · obtain rfl:k=256:=by omega
    have e:=n5 w (.cells cs 256);have h:(Tryz.prog.info? 256).map (·.size)=some cs.size:=by rw [a.z.1]; kernel_rfl
    have c:=ω e;have d:=ω h;clear e h
    go_wp2_with (first | (refine wpList_load_row rfl _ _ rfl w rfl 256 cs (0,0) _ c.z Tryz.underlying256 rfl d.z ?_) | (refine wpList_store_row rfl _ _ _ rfl w cs rfl rfl 256 cs c.z d.z rfl a.z.2.2 ?_))
    have p:((w.alloc (.cells cs 256)).setRow w cs).heap[w.heap.size]? = some (.cells cs 256 (0,0)):=setRow_heap _ _ _ _ _ _ c.z;refine bodyPost_ret (results_cell_row rfl _ _ w _ cs (0,0) _ rfl p Tryz.underlying256 rfl d.z) rfl ⟨cs,a,rfl,?_⟩;exact (θ).alloc lQ _ |>.trans (below_setRow _ _ _)
theorem FW (w:World) (c b:Array Value) (t:TypeId):(w.alloc (.cells c t)).setRow w b=w.alloc (.cells b t):=by
 have j:∀ (a:Array Obj) (x:Obj) (f:Obj->Obj),(a.push x).modify a.size f=a.push (f x):=by
  intro a x f
  apply Array.ext
  · simp
  · intro i d k;simp only [Array.getElem_modify,Array.getElem_push];by_cases h:a.size=i
    · subst h;simp
    · have e:i<a.size:=by simp at d; omega
      simp [h,e]
 unfold World.setRow
 show ({ w.alloc (.cells c t) with heap:=(w.heap.push (.cells c t)).modify w _ }:World)=_
 rw [j];rfl
def KJ (s:ByteArray) (x i:Value):Prop:=∃ (k n:Nat),k<=s.size/\i = .int .i64 k/\x = .int .u32 n/\n=CX (s.data.toList.take k)
theorem MV (s:ByteArray) (w:World) (P:s.size<=9223372036854775807):ψ 139 #[s] w fun q w'=>q = .returned (.int .u32 ((gR s.data.toList:Nat):Int))/\Below w w w':=by
 have R:=Ig;go_enter Tryz.func139,Tryz.ntmps139
 go_wp2_with fail
 refine Calls.mono (KI w) ?_;rintro q l ⟨e,z,rfl,h⟩;have b:=ω z;have u:=n5 l (.cells FV 256);have v:(Tryz.prog.info? 256).map (·.size)=some e.size:=by rw [b.z.1]; kernel_rfl
 have D:=ω u;have E:=ω v;have r:Below w w (χ l e 256):=h.alloc h.size _;have F:=ω r;clear u v z r h
 go_wp2_with (refine wpList_store_row rfl _ _ _ rfl l e rfl rfl 256 FV D.z E.z (by rw [b.z.1]; simp [FV]) b.z.2.2 ?_; rw [FW])
 go_loop [4,5,9] (fun x _ j=>KJ s x j) (fun _ _ j=>s.size - (intOf j).toNat)
 case atStart=>exact⟨0,_,by omega,rfl,rfl,rfl⟩
 case round=>
  obtain⟨k,x,O,rfl,rfl,i⟩:=hrel;have hlt:x<4294967296:=by rw [i]; exact CY _
  have o:=ω i;clear i;by_cases y:k<s.size
  · obtain⟨c,d⟩:∃ c:Nat,s[k].toNat=c:=⟨_,rfl⟩;have G:c<256:=by rw [<- d]; exact s[k].toNat_lt
    have L:=jo y d;have a:=MW x c G;have p:=ω (show x / 256 ^^^ oh 8 (x % 256 ^^^ c)=CX (s.data.toList.take (k+1)) from by rw [qK y,B0,<- o.z,d]; rfl);clear d;generalize J:(x % 256) ^^^ c=C at a p;clear J;have M:=b.z.2.1 C a.2;have K:=a.2;have N:=a.1;have Q:=CZ x C hlt K;clear a;go_wp2
    go_round
    case rel=>exact⟨k+1,_,by omega,by go_num,rfl,p⟩
    case measure=>simp [intOf]; omega
  · have I:=ω (MX x hlt)
    have H:=ω (show 4294967295 - x=gR s.data.toList from by
     unfold gR; rw [o.z,List.take_of_length_le (by simp; omega)])
    go_wp2;go_ret;exact⟨aX (by rw [I.z,H.z]),F⟩
theorem KK (s:ByteArray) (w:World) (J:s.size<=9223372036854775807):ψ 174 #[s] w fun u w'=>u = .returned (.int .u32 ((gR s.data.toList:Nat):Int))/\w=w':=by
 go_enter Tryz.func174,Tryz.ntmps174;go_wp2
 go_loop [3,4,5,8,17] (fun x _ _ i _=>KJ s x i) (fun _ _ _ i _=>s.size - (intOf i).toNat)
 case atStart=>exact⟨0,_,by omega,rfl,rfl,rfl⟩
 case round=>
  obtain⟨k,x,G,rfl,rfl,d⟩:=hrel;have hlt:x<4294967296:=by rw [d]; exact CY _
  have h:=ω d;clear d;by_cases p:k<s.size
  · obtain⟨c,a⟩:∃ c:Nat,s[k].toNat=c:=⟨_,rfl⟩;have z:c<256:=by rw [<- a]; exact s[k].toNat_lt
    have F:=jo p a;have D:=u32_xor_nat x c hlt (by omega);have j:=ω (show oh 8 (x ^^^ c)=CX (s.data.toList.take (k+1)) from by rw [qK p,B0,<- h.z,a,Ih z]);have q:x ^^^ c<4294967296:=Nat.xor_lt_two_pow (n:=32) hlt (by omega);clear a;generalize E:x ^^^ c=y at D j q;clear E;go_wp2
    go_loop [3,5,17] (fun x _ i=>∃ (m:Nat),m<=8/\i = .int .i64 m/\x = .int .u32 ((oh m y:Nat):Int)) (fun _ _ i=>8 - (intOf i).toNat)
    case atStart=>exact⟨0,by omega,rfl,rfl⟩
    case round=>
     obtain⟨m,H,rfl,rfl⟩:=hrel;have l:=wC q m;by_cases I:m<8
     · have o:oh (m+1) y=wD (oh m y):=rfl;have b:=ω o;clear o;generalize oh m y=n at l b;by_cases e:n % 2=0
       · have r:=ω (Jb e);have v:((n:Int) % 2 == 1)=false:=by rw [beq_eq_false_iff_ne]; omega
         clear e;go_wp2
         go_round
         case rel=>exact⟨m+1,by omega,by go_num,by rw [r.z,b.z]⟩
         case measure=>simp [intOf]; omega
       · have t:=ω (KL (n:=n) l (by omega));have v:((n:Int) % 2 == 1)=true:=by rw [beq_iff_eq]; omega
         clear e;go_wp2
         go_round
         case rel=>exact⟨m+1,by omega,by go_num,by rw [t.z,b.z]⟩
         case measure=>simp [intOf]; omega
     · obtain rfl:m=8:=by omega
       go_wp2
       go_round
       case rel=>exact⟨k+1,_,by omega,by go_num,rfl,j⟩
       case measure=>simp [intOf]; omega
  · have C:=ω (show 4294967295 - (x:Int)=((gR s.data.toList:Nat):Int) from by
     unfold gR; rw [h.z,List.take_of_length_le (by simp; omega)]; have:=CY s.data.toList; omega)
    go_wp2;go_ret;exact⟨aX C.z,rfl⟩
theorem AD (n lo hi:Int) (c:lo<=n) (a:n<=hi) (w:World):ψ 138 #[n,lo,hi] w fun e w'=>e = .returned (.bool true)/\w=w':=by
 have b:decide (n<=hi)=true:=t7 a;go_enter Tryz.func138,Tryz.ntmps138;go_wp2;go_ret;exact⟨rfl,rfl⟩
theorem B1 (n lo hi:Int) (h:n<lo\/hi<n) (w:World):ψ 138 #[n,lo,hi] w fun e w'=>e = .returned (.bool false)/\w=w':=by
 by_cases a:lo<=n
 · have d:hi<n:=by omega
   have c:decide (n<=hi)=false:=fQ (by omega);clear h;go_enter Tryz.func138,Tryz.ntmps138;go_wp2;go_ret;exact⟨rfl,rfl⟩
 · have b:decide (lo<=n)=false:=fQ a;clear h;go_enter Tryz.func138,Tryz.ntmps138;go_wp2;go_ret;exact⟨rfl,rfl⟩
theorem nK (n:Int) (a:1<=n) (b:n<=3) (w:World):ψ 68 #[n] w fun e w'=>e = .returned (.bool true)/\w=w':=by
 go_enter Tryz.func68,Tryz.ntmps68
 go_wp2_with (go_at_call 138; refine (AD _ _ _ a b _).mono ?_; rintro e w' ⟨rfl,rfl⟩)
 go_ret;exact⟨rfl,rfl⟩
theorem vU (n:Int) (h:n<1\/3<n) (w:World):ψ 68 #[n] w fun e w'=>e = .returned (.bool false)/\w=w':=by
 have H:=ω h;clear h;go_enter Tryz.func68,Tryz.ntmps68
 go_wp2_with (go_at_call 138; refine (B1 _ _ _ H.z _).mono ?_; rintro e w' ⟨rfl,rfl⟩)
 go_ret;exact⟨rfl,rfl⟩
theorem uP (n:Int) (a:1<=n) (b:n<=4) (w:World):ψ 69 #[n] w fun e w'=>e = .returned (.bool true)/\w=w':=by
 go_enter Tryz.func69,Tryz.ntmps69
 go_wp2_with (go_at_call 138; refine (AD _ _ _ a b _).mono ?_; rintro e w' ⟨rfl,rfl⟩)
 go_ret;exact⟨rfl,rfl⟩
theorem BW (n:Int) (h:n<1\/4<n) (w:World):ψ 69 #[n] w fun e w'=>e = .returned (.bool false)/\w=w':=by
 have H:=ω h;clear h;go_enter Tryz.func69,Tryz.ntmps69
 go_wp2_with (go_at_call 138; refine (B1 _ _ _ H.z _).mono ?_; rintro e w' ⟨rfl,rfl⟩)
 go_ret;exact⟨rfl,rfl⟩
theorem DF (s:ByteArray) (w:World) (p:s.size<=9223372036854775807):ψ 71 #[s] w fun e w'=>e = .returned (.string ⟨(pC s.data.toList).toArray⟩)/\Below w w w':=by
 have hlt:=B2 s.data.toList;go_enter Tryz.func71,Tryz.ntmps71
 go_wp2_with fail
 refine Calls.mono (MV s w p) ?_;rintro e q ⟨rfl,d⟩;have a:=ω (show pC s.data.toList=[UInt8.ofNat (gR s.data.toList / 16777216),UInt8.ofNat (gR s.data.toList / 65536),UInt8.ofNat (gR s.data.toList / 256),UInt8.ofNat (gR s.data.toList)] from rfl);generalize gR s.data.toList=n at hlt a;have b:=fun (m:Nat)=>show (m:Int) % 256=(((UInt8.ofNat m).toNat:Nat):Int) from by rw [UInt8.toNat_ofNat']; omega
 have h:=sW (P:=Tryz.prog) (w:=q) (n:=4) (c:=4) (cs:=#[.int .u8 ((n:Int) / 16777216),.int .u8 ((n:Int) / 65536 % 256),.int .u8 ((n:Int) / 256 % 256),.int .u8 ((n:Int) % 256)]) (l:=[UInt8.ofNat (n / 16777216),UInt8.ofNat (n / 65536),UInt8.ofNat (n / 256),UInt8.ofNat n]) Tryz.underlying56 Tryz.underlying5 Tryz.underlying9 (by
  simp only [bM,List.map_cons,List.map_nil];rw [<- b,<- b,<- b,<- b];have j:(((n / 16777216:Nat):Int)) % 256=(n:Int) / 16777216:=by omega
  have k:(((n / 65536:Nat):Int)) % 256=(n:Int) / 65536 % 256:=by omega
  have o:(((n / 256:Nat):Int)) % 256=(n:Int) / 256 % 256:=by omega
  rw [j,k,o]) rfl
 have i:=ω h;clear b h
 go_wp2_with fail
 rw [i.z];go_wp2;go_ret;exact⟨kW (by rw [a.z]),d.alloc d.size _⟩
theorem BZ (s:ByteArray) (w:World) (l:s.size<=9223372036854775807):ψ 88 #[s] w fun e w'=>e = .returned (.string ⟨(pC s.data.toList).toArray⟩)/\Below w w w':=by
 have hlt:=B2 s.data.toList;go_enter Tryz.func88,Tryz.ntmps88
 go_wp2_with fail
 refine Calls.mono (KK s w l) ?_;rintro e o ⟨rfl,rfl⟩;have d:=ω (show pC s.data.toList=[UInt8.ofNat (gR s.data.toList / 16777216),UInt8.ofNat (gR s.data.toList / 65536),UInt8.ofNat (gR s.data.toList / 256),UInt8.ofNat (gR s.data.toList)] from rfl);generalize gR s.data.toList=n at hlt d
 go_wp2_with fail
 refine Calls.mono (p9 ((n:Int) / 16777216) _ (by omega) (by omega)) ?_;rintro e o ⟨rfl,a⟩
 go_wp2_with fail
 refine Calls.mono (p9 ((n:Int) / 65536) _ (by omega) (by omega)) ?_;rintro e p ⟨rfl,h⟩;have b:=a.trans (h.mono a.size);clear a h
 go_wp2_with fail
 refine Calls.mono (p9 ((n:Int) / 256) _ (by omega) (by omega)) ?_;rintro e q ⟨rfl,i⟩;have c:=b.trans (i.mono b.size);clear b i
 go_wp2_with fail
 refine Calls.mono (p9 (n:Int) _ (by omega) (by omega)) ?_;rintro e r ⟨rfl,j⟩;have k:=c.trans (j.mono c.size);clear c j;go_wp2;go_ret;exact⟨kW (by rw [d.z]; simp [ByteArray.mk_append_mk]),k⟩
def uQ (v k:Int) (p:ByteArray):ByteArray × Int:=
 if v<1\/3<v\/k<1\/4<k then (⟨#[]⟩,1) else if 6000<p.size then (⟨#[]⟩,2) else (⟨(pR v.toNat k.toNat p.data.toList).toArray⟩,0)
def gY (v k:Int) (p:ByteArray) (w:World) (e:Ending) (w':World):Prop:=e = .returned (.tuple #[.string (uQ v k p).1,.int .i64 (uQ v k p).2])/\Below w w w'
theorem gY.arg {v k:Int} {p:ByteArray} {w w':World} (h:v<1\/3<v\/k<1\/4<k) (a:Below w w w'):gY v k p w (.returned (.tuple #[.string ⟨#[]⟩,(1:Int)])) w':=⟨by unfold uQ; rw [if_pos h],a⟩
theorem gY.large {v k:Int} {p:ByteArray} {w w':World} (h:¬ (v<1\/3<v\/k<1\/4<k)) (a:6000<p.size) (b:Below w w w'):gY v k p w (.returned (.tuple #[.string ⟨#[]⟩,(2:Int)])) w':=⟨by unfold uQ; rw [if_neg h,if_pos a],b⟩
theorem gY.ok {v k:Int} {p:ByteArray} {w w':World} {s:ByteArray} (h:¬ (v<1\/3<v\/k<1\/4<k)) (a:¬ 6000<p.size) (c:s.data.toList=pR v.toNat k.toNat p.data.toList) (b:Below w w w'):gY v k p w (.returned (.tuple #[s,(0:Int)])) w':=
 ⟨by unfold uQ; rw [if_neg h,if_neg a,<- c],b⟩
end Go.Proofs.YtimglglgcgpjgabGreatDoor
