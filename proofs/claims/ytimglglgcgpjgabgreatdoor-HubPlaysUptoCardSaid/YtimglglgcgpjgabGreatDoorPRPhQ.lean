/- Of the proof of a statement: StChk, RPhQ, FrmDecR, Rq. -/
import Derived.Lib.QuietBelow
import Derived.Test.YtimglglgcgpjgabGreatDoorPClone
import Derived.Test.YtimglglgcgpjgabGreatDoorPCopyK
set_option linter.unusedVariables false
set_option linter.unusedSimpArgs false
set_option maxRecDepth 100000
set_option maxHeartbeats 8000000
namespace Go.Proofs.YtimglglgcgpjgabGreatDoor
open Go.RowKit
open Go.Sort (grow)
theorem I5 (st:ah) (x:StA) (w:World) (hS:StAt w w st x) (hT:Tabs w) :
 ψ 63 #[.agg (stC st x)] w (CE st w):=by
 have d:=ω hS;have ay:Below w w (χ w (stC st x) 26):=(θ).alloc lQ _;have aD:Blk (χ w (stC st x) 26) w 26 (stC st x):=n5 w _;have K:=ω (fun (E:Int) (aY:aE st=E) (hE:E≠0) w'=>CE.bad (w:=w) (w':=w') aY hE);have I:=ω ay;have ap:=ω aD;have aq:=ω (hT.below ay);clear ay aD hS hT;obtain⟨rev,jobs,nodes,leases⟩:=st;obtain⟨G,u,C,B,h,s,z,g,D⟩:=x;simp only [stC] at *;go_enter Tryz.func63,Tryz.ntmps63
 go_wp2_with fail
 refine Calls.mono (kE _ _ _ _) ?_;rintro au w0 ⟨rfl,rfl⟩;cases N:ranged rev 0 1099511627776
 · have r:=ω (K.z 1 (zS N) (by omega) _ I.z);go_wp2;go_ret2;exact r
 have aM:=d.lj;have a2:=d.ln;have aN:=d.ll;have aJ:=d.bj;have aK:=d.bn;have aZ:=d.bl;simp only at aM a2 aN aJ aK aZ;by_cases s1:u<=40;rotate_left
 · have r:=ω (K.z 2 (nQ N (by unfold dW; rw [decide_eq_false (by simp only; omega)]; rfl)) (by omega) _ I.z);have d1:decide ((40:Int)<(u:Int))=true:=t7 (by omega);go_wp2;go_ret2;exact r
 have d1:decide ((40:Int)<(u:Int))=false:=fQ (by omega);by_cases s2:g<=40;rotate_left
 · have r:=ω (K.z 2 (nQ N (by unfold dW; simp only; rw [decide_eq_false (p:=leases.length<=40) (by omega)]; simp)) (by omega) _ I.z);have d2:decide ((40:Int)<(g:Int))=true:=t7 (by omega);go_wp2;go_ret2;exact r
 have d2:decide ((40:Int)<(g:Int))=false:=fQ (by omega);by_cases s3:h<=20;rotate_left
 · have r:=ω (K.z 2 (nQ N (by unfold dW; simp only; rw [decide_eq_false (p:=nodes.length<=20) (by omega)]; simp)) (by omega) _ I.z);have d3:decide ((20:Int)<(h:Int))=true:=t7 (by omega);go_wp2;go_ret2;exact r
 have d3:decide ((20:Int)<(h:Int))=false:=fQ (by omega);have a3:=ω (show dW ⟨rev,jobs,nodes,leases⟩=true by unfold dW; simp; omega);have ai:=ω ((d.below I.z).more I.size)
 go_wp2_with fail
 refine Calls.mono (nN.1 jobs G u C _ ai.j ai.lj aJ ai.oj aq.z) ?_;rintro au w2 ⟨rfl,al⟩;have X:=ω (I.trans (al.mono I.size));have ae:=ω (ap.below al ap.lt);have aA:=ω (aq.below al);have y2:ζ w2 w 2 (.slice B h s):=ae.cell 2;clear d1 d2 d3 al aq ap;obtain⟨EJ,Z⟩:∃ E,cu fG aC.name jobs=E:=⟨_,rfl⟩;rw [Z];by_cases c:EJ=0;rotate_left
 · have r:=ω (K.z EJ (by rw [CF N a3.z (by rw [Z]; exact c)]; exact Z) c _ X.z);have e1:(EJ == 0)=false:=beq_eq_false_iff_ne.2 c;have e2:(EJ != 0)=true:=bne_iff_ne.2 c;go_wp2;go_ret2;exact r
 subst c;have ag:=ω Z;clear Z;have aj:=ω ((d.below X.z).more X.size)
 go_wp2_with fail
 refine Calls.mono (nN.2 nodes B h s _ aj.n aj.ln aK aj.on_ aA.z) ?_;rintro au a ⟨rfl,az⟩;have Y:=ω (X.trans (az.mono X.size));have af:=ω (ae.below az ae.lt);clear y2 az aA ae aj ai;obtain⟨EN,T⟩:∃ E,cu dE av.name nodes=E:=⟨_,rfl⟩;rw [T];by_cases c:EN=0;rotate_left
 · have r:=ω (K.z EN (by rw [zT N a3.z ag.z (by rw [T]; exact c)]; exact T) c _ Y.z);have e1:(EN == 0)=false:=beq_eq_false_iff_ne.2 c;have e2:(EN != 0)=true:=bne_iff_ne.2 c;go_wp2;go_ret2;exact r
 subst c;have aW:=ω T;have sS:=ω (CG N a3.z ag.z T);clear T;have aG:=af.lt;have bb:=fun t aX=>run_makeMap (P:=Tryz.prog) t aX;have z1:ζ (DA a) w 1 (.slice G u C):=((sI a).cell (p:=⟨w,1,none⟩) aG).trans (af.cell 1)
 have a9:=ω (show Dz w (DA a) ⟨rev,jobs,nodes,leases⟩ ⟨G,u,C,B,h,s,z,g,D⟩ w (a.heap.size+1+1+1) a (a.heap.size+1) (a.heap.size+1+1) 0 0 0 noG noG noG from
  ⟨Y.trans ((sI a).mono Y.size),af.below (sI a) aG,Fx a⟩)
 have bg:=Y.size;clear af Y;unfold DA at z1;go_wp2;clear z1 bb
 go_loopw [8,56] (fun _ v wr=>PM w wr ⟨rev,jobs,nodes,leases⟩ ⟨G,u,C,B,h,s,z,g,D⟩ a u v) (fun _ v _=>u - (intOf v).toNat)
 case atStart=>exact⟨0,Nat.zero_le _,rfl,a9⟩
 case round=>
  obtain⟨k,hk,rfl,b⟩:=hrel;by_cases hlt:k<u
  · obtain⟨y,o⟩:∃ y,jobs[k]? = some y:=⟨_,δ (by omega)⟩;obtain⟨J,ad,rfl,aI,L⟩:=(d.j.below b.below).dL aU aM o;have ab:=ω (d.oj y (m8 o));have O:=ω (IJ ag.z o);obtain⟨e,a5,a4,a8,a7⟩:=y;obtain⟨c0,c1,c2,c3,c4⟩:=rc5 L;have ao:=b.below.size;have aL:J<wr.heap.size:=by omega
    have i:=((Below.refl wr wr).alloc lQ (.cells #[e,a5,a4,a8,a7] 86)).drew;have q:=b.tabs.below i;have aH:=b.tabs.t.lt;have t0:ζ (χ wr #[e,a5,a4,a8,a7] 86) (a.heap.size+1+1+1) 0 (.map (some a)):=q.t.cell 0;obtain⟨w5,bd,aa,H⟩:=q.m1.put Tryz.underlying197 (by unfold maxLen; omega) e ab.z.1 (.agg #[e,a5,a4,a8,a7])
    have U:=ω (show Dz w w5 ⟨rev,jobs,nodes,leases⟩ ⟨some ⟨J,ad,none⟩,u,C,B,h,s,z,g,D⟩ w (a.heap.size+1+1+1) a (a.heap.size+1) (a.heap.size+1+1) (k+1) 0 0 (sH (jobs.take (k+1))) noG noG from
     ⟨below_grown (b.below.trans (i.mono ao)) H (by omega),(H.block _ (by simp; omega) (by simp; omega)).trans (b.box.below i (by omega)),q.MG H (by omega) (by omega) (by omega) (aa.congr (fun a6=>(O.z a6).symm))⟩)
    clear L o aa H q b i;go_wp2
    go_region
    go_wp2
    go_roundw
    case rel=>exact⟨k+1,by omega,by go_num,U⟩
    case measure=>simp [intOf]; omega
  · obtain rfl:k=u:=by omega
    have ac:List.take k jobs=jobs:=List.take_of_length_le (by omega);simp only [ac] at b;have M:=ω b;have y2:ζ wr w 2 (.slice B h s):=b.box.cell 2;clear b a9 ac;go_wp2;clear y2
    go_loopw [10,71] (fun _ v wr=>PN w wr ⟨rev,jobs,nodes,leases⟩ ⟨G,k,C,B,h,s,z,g,D⟩ a k h v) (fun _ v _=>h - (intOf v).toNat)
    case atStart=>exact⟨0,Nat.zero_le _,rfl,M⟩
    case round=>
     clear M;obtain⟨m,hm,rfl,b⟩:=hrel;by_cases hlt:m<h
     · obtain⟨y,o⟩:∃ y,nodes[m]? = some y:=⟨_,δ (by omega)⟩;obtain⟨J,ad,rfl,aI,L⟩:=(d.n.below b.below).dL aO a2 o;have ab:=ω (d.on_ y (m8 o));have O:=ω (Fw aW.z o);obtain⟨e,F,Q⟩:=y;obtain⟨c0,c1,c2⟩:=rc3 L;have ao:=b.below.size;have aL:J<wr.heap.size:=by omega
       have i:=((Below.refl wr wr).alloc lQ (.cells #[e,F,Q] 81)).drew;have q:=b.tabs.below i;have aH:=b.tabs.t.lt;have t0:ζ (χ wr #[e,F,Q] 81) (a.heap.size+1+1+1) 1 (.map (some (a.heap.size+1))):=q.t.cell 1;obtain⟨w5,bd,aa,H⟩:=q.m2.put Tryz.underlying198 (by unfold maxLen; omega) e ab.z.1 (.agg #[e,F,Q])
       have U:=ω (show Dz w w5 ⟨rev,jobs,nodes,leases⟩ ⟨G,k,C,some ⟨J,ad,none⟩,h,s,z,g,D⟩ w (a.heap.size+1+1+1) a (a.heap.size+1) (a.heap.size+1+1) k (m+1) 0 (sH jobs) (pA (nodes.take (m+1))) noG from
        ⟨below_grown (b.below.trans (i.mono ao)) H (by omega),(H.block _ (by simp; omega) (by simp; omega)).trans (b.box.below i (by omega)),q.Kf H (by omega) (by omega) (by omega) (aa.congr (fun a6=>(O.z a6).symm))⟩)
       clear L o aa H q b i;go_wp2
       go_region
       go_wp2
       go_roundw
       case rel=>exact⟨m+1,by omega,by go_num,U⟩
       case measure=>simp [intOf]; omega
     · obtain rfl:m=h:=by omega
       have ac:List.take m nodes=nodes:=List.take_of_length_le (by omega);simp only [ac] at b;have M:=ω b;have ao:=b.below.size;have aH:=b.tabs.t.lt;have y3:ζ wr w 3 (.slice z g D):=b.box.cell 3;have aR:=ω (BK ⟨rev,jobs,nodes,leases⟩ z g D wr (a.heap.size+1+1+1) a (a.heap.size+1) (a.heap.size+1+1) k m noG ((d.l.below b.below).more (by omega)) aN s2 d.ol (As ag.z) (by omega) (by omega) (by omega) (fun _=>rfl) b.tabs);clear b ac
       go_wp2_with fail
       refine aR.mono ?_;rintro au w6 ⟨rfl,am,aV⟩;have a1:=ω (below_grown M.below am (by omega));have Om:=ω (show Blk w6 w 26 _ from (am.block _ (by omega) (by simp; omega)).trans M.box);have aF:=ω am;have ax:=ω aV;clear aR y3 am aV;obtain⟨R,hR⟩:∃ R,cu (dN ⟨rev,jobs,nodes,leases⟩) ak.job leases=R:=⟨_,rfl⟩;simp only [hR] at ax |-;rw [hR] at sS;by_cases c:R=0;rotate_left
       · have r:=ω (K.z R (by rw [sS.z,if_pos c]) c _ a1.z);have e1:(R == 0)=false:=beq_eq_false_iff_ne.2 c;have e2:(R != 0)=true:=bne_iff_ne.2 c;go_wp2;go_ret2;exact r
       subst c;obtain⟨g3,aP,aS⟩:=ax.z rfl;have aT:=ω aS
       have aw:=ω (show Dz w w6 ⟨rev,jobs,nodes,leases⟩ ⟨G,k,C,B,m,s,z,g,D⟩ w (a.heap.size+1+1+1) a (a.heap.size+1) (a.heap.size+1+1) k m g (sH jobs) (pA nodes) g3 from
        ⟨a1,Om,M.tabs.used aF.z (by omega) (by omega) (by omega) aP⟩)
       have y2:ζ w6 w 2 (.slice B m s):=aw.box.cell 2;clear aP aS ax aF Om a1 M;have aB:=ω (show aE ⟨rev,jobs,nodes,leases⟩=if lM ⟨rev,jobs,nodes,leases⟩=true then 0 else 9 by rw [sS.z,if_neg (by simp)]);clear sS hR;go_wp2;clear y2
       go_loopw [2,3,13,94] (fun _ _ _ v wr=>PO w wr ⟨rev,jobs,nodes,leases⟩ ⟨G,k,C,B,m,s,z,g,D⟩ a k m g g3 m v) (fun _ _ _ v _=>m - (intOf v).toNat)
       case atStart=>exact⟨0,Nat.zero_le _,rfl,aw,rfl⟩
       case round=>
        clear aw;obtain⟨W,hq,rfl,b,aQ⟩:=hrel;have uE:=ω aQ;clear aQ;by_cases bf:W<m
        · obtain⟨y,o⟩:∃ y,nodes[W]? = some y:=⟨_,δ (by omega)⟩;obtain⟨J,ad,rfl,aI,L⟩:=(d.n.below b.below).dL aO a2 o;have ab:=ω (d.on_ y (m8 o));have O:=ω (uB (st:=⟨rev,jobs,nodes,leases⟩) o);obtain⟨e,F,Q⟩:=y;obtain⟨c0,c1,c2⟩:=rc3 L;have OH:=b.below.size;have aL:J<wr.heap.size:=by omega
          have i:=((Below.refl wr wr).alloc lQ (.cells #[e,F,Q] 81)).drew;have q:=b.tabs.below i;have be:=b.tabs.t.lt;have t0:ζ (χ wr #[e,F,Q] 81) (a.heap.size+1+1+1) 2 (.map (some (a.heap.size+1+1))):=q.t.cell 2;have h3:=q.m3.look Tryz.underlying199 (If _) e ab.z.1;rw [aT.z e] at h3
          have U:=ω (show Dz w (wr.alloc (.cells #[e,F,Q] 81)).drew ⟨rev,jobs,nodes,leases⟩ ⟨G,k,C,some ⟨J,ad,none⟩,m,s,z,g,D⟩ w (a.heap.size+1+1+1) a (a.heap.size+1) (a.heap.size+1+1) k m g (sH jobs) (pA nodes) g3 from
           ⟨b.below.trans (i.mono OH),b.box.below i (by omega),q⟩)
          generalize rV ⟨rev,jobs,nodes,leases⟩ e=ar at h3 O;clear L o q b i;by_cases hU:ar<=F
          · have d1:decide (F<ar)=false:=fQ (by omega);have bc:=ω (show qB ⟨rev,jobs,nodes,leases⟩ (nodes.drop (W+1))=lM ⟨rev,jobs,nodes,leases⟩ by rw [<- uE.z,O.z,decide_eq_true hU]; rfl);go_wp2
            go_region
            go_wp2
            go_roundw
            case rel=>exact⟨W+1,by omega,by go_num,U,bc⟩
            case measure=>simp [intOf]; omega
          · have d1:decide (F<ar)=true:=t7 (by omega)
            have Qh:=ω (show aE ⟨rev,jobs,nodes,leases⟩=9 by
             have:lM ⟨rev,jobs,nodes,leases⟩=false:=by rw [<- uE.z,O.z,decide_eq_false hU]; rfl
             rw [aB.z,this]; rfl)
            go_wp2
            go_region
            go_wp2;go_ret2;exact K.z 9 Qh.z (by omega) _ U.below
        · obtain rfl:W=m:=by omega
          have ba:=ω (show aE ⟨rev,jobs,nodes,leases⟩=0 by
           have:lM ⟨rev,jobs,nodes,leases⟩=true:=by rw [<- uE.z,List.drop_of_length_le (by show nodes.length<=W; omega)]; rfl
           rw [aB.z,if_pos this])
          have HC:=ω b;clear b;go_wp2;go_ret2;exact⟨HC.below,.inr ⟨ba,_,_,_,_,_,_,_,g3,rfl,HC.tabs,aT⟩⟩
section
variable {Γ:Type} {P:Program} {ops:Array Oper} {V:Γ->Nat->Value->Prop} {a0:Act} {S:List Nat} {Ph:Nat->Γ->World->Prop}
def GC (ops:Array Oper) (n:Nat):Bool:=
 (List.range ops.size).all fun i=>match ops[i]? with
  | some o=>(match o.dst with | some t=>decide (t<n) && (List.range i).all (fun j=>match ops[j]? with | some p=>p.dst != some t | none=>true) | none=>true) && o.after.all (fun e=>!Region.binds .any e || decide (e.on<i))
  | none=>true
theorem qS {n:Nat} (h:GC ops n=true) {i:Nat} {o:Oper} (c:ops[i]? = some o) :
 (∀ t,o.dst=some t->t<n/\∀ (j:Nat) (p:Oper),ops[j]? = some p->j<i->p.dst≠some t)/\∀ e ∈ o.after,Region.binds .any e=true->e.on<i:=by
 unfold GC at h;rw [List.all_eq_true] at h;have k:i<ops.size:=(Array.getElem?_eq_some_iff.1 c).1;have a:=h i (List.mem_range.2 k);rw [c] at a;simp only [Bool.and_eq_true] at a;obtain⟨a,d⟩:=a;refine⟨fun t q=>?_,fun e g f=>?_⟩
 · rw [q] at a;simp only [Bool.and_eq_true,decide_eq_true_eq] at a;refine⟨a.1,fun j p m l=>?_⟩;have b:=List.all_eq_true.1 a.2 j (List.mem_range.2 l);rw [m] at b;simpa using b
 · have:=(Array.all_eq_true_iff_forall_mem.1 d) e g;rw [f] at this;simpa using this
theorem oA {n:Nat} (f:GC ops n=true) {a:Array Bool} (o:a.size=ops.size) (k:Region.ready .any ops a=[]):∀ i,i<ops.size->a.getD i false=true:=by
 intro i
 induction i using Nat.strongRecOn with
 | _ i m=>
  intro j;have d:ops[i]? = some ops[i]:=Array.getElem?_eq_getElem j;by_cases b:a.getD i false=true
  · exact b
  · exfalso
    have c:i ∈ Region.ready .any ops a:=mem_ready.2 ⟨by
     have l:a[i]? = some a[i]:=Array.getElem?_eq_getElem (by omega);rw [Array.getD_eq_getD_getElem?,l] at b |-;simpa using b,_,d,fun e h g=>?_⟩
    · rw [k] at c; cases c
    · have hlt:=(qS f d).2 e h g;exact m e.on hlt (by omega)
theorem wP.Qi {n:Nat} (q:GC ops n=true) (E:a0.tmps.size=n) {l:Array Bool} {a:Act} {w:World} (K:l.size=ops.size)
 {z m:Γ} (h:wP ops V S Ph a0 z l a w) {i:Nat} {o:Oper} (f:ops[i]? = some o) (H:∀ j,waitsFor o j=true->l.getD j false=true) {u:Value} {w':World} (D:∀ j v,j≠i->V z j v->V m j v) (G:V m i u) (b:∃ p,LU S (l.setIfInBounds i true) p/\Ph p m w') :
 wP ops V S Ph a0 m (l.setIfInBounds i true) (a.put o.dst u) w':=by
 have J:i<ops.size:=(Array.getElem?_eq_some_iff.1 f).1
 have y:∀ t,o.dst≠some t->(a.put o.dst u).tmps[t]? = a.tmps[t]?:=by
  intro t c;unfold Act.put
  cases k:o.dst with
  | none=>rfl
  | some A=>
   have F:A≠t:=fun g=>c (by rw [k,g]);simp [Array.getElem?_setIfInBounds,F]
 refine⟨b,?_,?_,fun t c=>?_,fun j p t b e c=>?_,fun j p r b e x=>?_⟩
 · unfold Act.put; split <;> simp [h.size]
 · unfold Act.put; split <;> simp [h.defers]
 · rw [y t (fun k=>by
    have:=c i o f k;rw [jM (by omega),if_pos rfl] at this; cases this)]
   exact h.keep t fun j p b k=>by
    have:=c j p b k;rw [jM (by omega)] at this
    split at this
    · cases this
    · exact this
 · rw [jM (by omega)] at e;by_cases d:i=j
   · subst d;rw [f] at b; injection b with b; subst b;have hlt:=((qS q f).1 t c).1;refine⟨u,?_,G⟩;unfold Act.put;rw [c];simp only [Array.getElem?_setIfInBounds];rw [if_pos trivial,if_pos (by rw [h.size,E]; exact hlt)]
   · rw [if_neg d] at e;obtain⟨I,B,C⟩:=h.done j p t b e c;refine⟨I,?_,D _ _ (fun g=>d g.symm) C⟩;rw [y t ?_]; exact B;intro g;rcases Nat.lt_or_gt_of_ne d with hlt | hlt
     · exact ((qS q b).1 t c).2 i o f hlt g
     · exact ((qS q f).1 t g).2 j p b hlt c
 · rw [jM (by omega)] at e |-;by_cases s:i=r
   · rw [if_pos s]
   · rw [if_neg s];by_cases d:i=j
     · subst d;rw [f] at b; injection b with b; subst b;exact H r x
     · rw [if_neg d] at e;exact h.closed j p r b e x
def vF (P:Program) (ops:Array Oper) (o:Oper) (a:Act) (w:World) (K:Act->World->Prop) (Q:Exit->Act->World->Prop):Prop:=
 if Region.wanted o (yielded ops a.tmps)=true then o.wp P a w K Q else K (a.put o.dst undef) w
theorem zh {P:Program} {ops:Array Oper} {o:Oper} {a:Act} {w:World} {K c:Act->World->Prop} {Q:Exit->Act->World->Prop} (h:∀ a w,K a w->c a w) (b:vF P ops o a w K Q) :
 (if Region.wanted o (yielded ops a.tmps)=true then o.wp P a w c Q\/(o.asks P a w/\LetsOut Q) else c (a.put o.dst undef) w):=by
 unfold vF at b
 split at b
 · rename_i d
   rw [if_pos d];exact .inl (Oper.wp_mono h b)
 · rename_i d
   rw [if_neg d];exact h _ _ b
def Cs {Γ:Type} (P:Program) (ops:Array Oper) (V:Γ->Nat->Value->Prop) (S:List Nat) (Ph:Nat->Γ->World->Prop) (a0:Act) (Q:Exit->Act->World->Prop) (i:Nat) (o:Oper):Prop:=
 ((∃ k,S[k]? = some i/\∀ b a w,Ph k b w->Knows ops (V b) a0 i o a->vF P ops o a w (fun d e=>∃ u c,d=a.put o.dst u/\(∀ j v,j≠i->V b j v->V c j v)/\V c i u/\Ph (k+1) c e) Q) \/
  (i ∉ S/\∃ lo hi,loB S o lo=true/\hiB ops S i hi=true/\∀ p b a w,lo<=p->p<=hi->Ph p b w->Knows ops (V b) a0 i o a->vF P ops o a w (fun d e=>∃ u c,d=a.put o.dst u/\(∀ j v,j≠i->V b j v->V c j v)/\V c i u/\Ph p c e) Q))
theorem yD {n:Nat} {Q:Exit->Act->World->Prop} (M:GC ops n=true) (N:chainB ops S=true) (hn:a0.tmps.size=n)
 (am:∀ (i:Nat) (o:Oper),ops[i]? = some o->Cs P ops V S Ph a0 Q i o)
 (hQ:∀ f a w,(∀ b,(∀ i,i<ops.size->b.getD i false=true)->wP ops V S Ph a0 f b a w)->Q .normal a w) :
 ∀ (y:Nat) (f:Γ) (b:Array Bool) (a:Act) (w:World),b.size=ops.size->(b.toList.filter (! ·)).length<=y->wP ops V S Ph a0 f b a w->wpAny P .any ops Q y b a w:=by
 have Be:∀ {f:Γ} {b:Array Bool} {a:Act} {w:World},wP ops V S Ph a0 f b a w->(∀ i,i<ops.size->b.getD i false=true)->∀ l':Array Bool,(∀ i,i<ops.size->l'.getD i false=true)->wP ops V S Ph a0 f l' a w:=by
  intro f b a w h R l' ab;refine⟨?_,h.size,h.defers,fun x I=>h.keep x fun i o e hd=>absurd (I i o e hd) (by rw [ab i (Array.getElem?_eq_some_iff.1 e).1]; simp),fun i o x e _ I=>h.done i o x e (R i (Array.getElem?_eq_some_iff.1 e).1) I,fun i o j e _ d=>?_⟩
  · obtain⟨p,⟨ae,q⟩,U⟩:=h.at_;refine⟨p,⟨ae,fun k i m=>?_⟩,U⟩;have A:=(iM N m).1;rw [<- q k i m,R i A,ab i A]
  · refine ab j ?_;have aq:=d;unfold waitsFor at d;obtain⟨g,Y,c⟩:=Array.any_eq_true'.1 d;simp only [Bool.and_eq_true,beq_iff_eq] at c;have:=(qS M e).2 g Y c.2;have A:=(Array.getElem?_eq_some_iff.1 e).1;omega
 intro y
 induction y with
 | zero=>
  intro f b a w H hf h
  have B:Region.ready .any ops b=[]:=by
   cases B:Region.ready .any ops b with
   | nil=>rfl
   | cons i av=>
    exfalso;have l:i ∈ Region.ready .any ops b:=by rw [B]; exact List.mem_cons_self
    obtain⟨z,o,e,_⟩:=mem_ready.1 l;have A:i<ops.size:=(Array.getElem?_eq_some_iff.1 e).1;have C:b[i]? = some b[i]:=Array.getElem?_eq_getElem (by omega);rw [Array.getD_eq_getD_getElem?,C] at z;have c:false ∈ b.toList.filter (! ·):=List.mem_filter.2 ⟨by rw [<- show b[i]=false from by simpa using z]; exact Array.getElem_mem_toList (by omega),rfl⟩;have:=List.length_pos_of_mem c;omega
  exact⟨B,hQ f a w (Be h (oA M H B))⟩
 | succ y ih=>
  intro f b a w H hf h;refine⟨fun B=>hQ f a w (Be h (oA M H B)),fun i A=>?_⟩;obtain⟨z,o,e,ag⟩:=mem_ready.1 A;have ap:i<ops.size:=(Array.getElem?_eq_some_iff.1 e).1;have K:i<b.size:=by omega
  have G:b.getD i false=false:=by
   have C:b[i]? = some b[i]:=Array.getElem?_eq_getElem K;rw [Array.getD_eq_getD_getElem?,C] at z |-;simpa using z
  have W:∀ j,waitsFor o j=true->b.getD j false=true:=by
   intro j d;unfold waitsFor at d;obtain⟨g,Y,c⟩:=Array.any_eq_true'.1 d;simp only [Bool.and_eq_true,beq_iff_eq] at c;obtain⟨c,L⟩:=c;subst c;exact ag g Y L
  have EZ:Knows ops (V f) a0 i o a:=⟨fun x v hv hn=>by rw [h.keep x (Cr hn G h.closed)]; exact hv,fun j p x hp I d=>h.done j p x hp (W j d) I,h.defers⟩;obtain⟨p,⟨ae,q⟩,U⟩:=h.at_;have m:=am i o e;unfold wpOp;rw [e];dsimp only
  have next:∀ u s w',(∀ j v,j≠i->V f j v->V s j v)->V s i u->(∃ p,LU S (b.setIfInBounds i true) p/\Ph p s w')->wpAny P .any ops Q y (b.setIfInBounds i true) (a.put o.dst u) w':=by
   intro u s w' F J hp;refine ih _ _ _ _ (by simpa using H) ?_ (h.Qi M hn H e W F J hp);have C:b[i]? = some b[i]:=Array.getElem?_eq_getElem K
   have c:b.toList[i]? = some false:=by
    rw [Array.getElem?_toList,C];rw [Array.getD_eq_getD_getElem?,C] at G;simpa using G
   have L:=count_set b.toList i c;simp only [Array.toList_setIfInBounds];omega
  rcases m with ⟨k,m,hw⟩ | ⟨al,D,t,ac,aa,hw⟩
  · have ak:p=k:=by
     have X:=q k i m;rw [G] at X
     have z:¬ k<p:=by
      intro hlt; rw [decide_eq_true hlt] at X; cases X
     rcases (iM N m).2.1 with E | ⟨o',j,T,d,ao⟩
     · omega
     · rw [e] at T; injection T with T; subst T;have e2:=q (k - 1) j d;rw [W j ao] at e2;have c:k - 1<p:=of_decide_eq_true e2.symm;omega
    subst ak;refine zh (fun a' w' Z=>?_) (hw f a w U EZ);obtain⟨u,s,rfl,F,J,af⟩:=Z;refine next u s w' F J ⟨p+1,⟨(List.getElem?_eq_some_iff.1 m).1,fun r j l=>?_⟩,af⟩;rw [jM K];by_cases O:i=j
    · rw [if_pos O];subst O
      have ar:r=p:=by
       rcases Nat.lt_trichotomy r p with hlt | ah | ai
       · exact absurd rfl ((iM N m).2.2 r i hlt l)
       · exact ah
       · exact absurd rfl ((iM N l).2.2 p i ai m)
      rw [decide_eq_true (by omega)]
    · rw [if_neg O,q r j l];have au:r≠p:=fun g=>by subst g; rw [m] at l; injection l with l; exact O l
      by_cases hlt:r<p
      · rw [decide_eq_true hlt,decide_eq_true (by omega)]
      · rw [decide_eq_false hlt,decide_eq_false (by omega)]
  · have R:D<=p:=by
     unfold loB at ac;simp only [Bool.or_eq_true,Bool.and_eq_true,beq_iff_eq,decide_eq_true_eq] at ac;rcases ac with E | ⟨E,c⟩
     · omega
     · rcases Nat.eq_zero_or_pos D with L | L
       · omega
       · have d:S[D - 1]? = some S[D - 1]:=δ (by omega);rw [show S.getD (D - 1) 0=S[D - 1] by rw [List.getD_eq_getElem?_getD,d]; rfl] at c;have g:=q _ _ d;rw [W _ c] at g;have:=of_decide_eq_true g.symm;omega
    have aj:p<=t:=by
     unfold hiB at aa;simp only [Bool.or_eq_true,Bool.and_eq_true,beq_iff_eq,decide_eq_true_eq] at aa;rcases aa with E | ⟨E,c⟩
     · omega
     · have d:S[t]? = some S[t]:=δ E;rw [show S.getD t 0=S[t] by rw [List.getD_eq_getElem?_getD,d]; rfl] at c
       cases ad:ops[S[t]]? with
       | none=>rw [ad] at c; cases c
       | some o'=>
        rw [ad] at c;have g:=q _ _ d;by_cases hlt:t<p
        · rw [decide_eq_true hlt] at g;have:=h.closed _ o' i ad g c;rw [G] at this; cases this
        · omega
    refine zh (fun a' w' Z=>?_) (hw p f a w R aj U EZ);obtain⟨u,s,rfl,F,J,af⟩:=Z;refine next u s w' F J ⟨p,⟨ae,fun r j l=>?_⟩,af⟩;rw [jM K,if_neg (fun g=>al (by subst g; exact List.mem_of_getElem? l))];exact q r j l
theorem okQ {Q:Exit->Act->World->Prop} {i:Nat} {o:Oper} (lo hi:Nat) (h:∀ p b a w,lo<=p->p<=hi->Ph p b w->Knows ops (V b) a0 i o a->o.wp P a w (fun d r=>∃ u c,d=a.put o.dst u/\(∀ j v,j≠i->V b j v->V c j v)/\V c i u/\Ph p c r) Q)
 (e:i ∉ S:=by decide) (f:loB S o lo=true:=by decide +kernel) (g:hiB ops S i hi=true:=by decide +kernel) (k:o.guard=none:=by rfl):Cs P ops V S Ph a0 Q i o:=
 .inr ⟨e,lo,hi,f,g,fun p b a w n l q m=>by
  unfold vF Region.wanted;rw [k,if_pos rfl];exact h p b a w n l q m⟩
theorem ok1 {Q:Exit->Act->World->Prop} {i:Nat} {o:Oper} (lo hi j t:Nat) {p:Oper} {v u:Value} (e:ops[j]? = some p) (f:p.dst=some t) (z:∀ b x,V b j x->x=v) (y:∀ b,V b i u)
 (m:∀ (a:Act) (w:World) (K:Act->World->Prop),a.tmps[t]? = some v->K (a.put o.dst u) w->o.wp P a w K Q:=by intro a w K h c; simp [go_sem,Oper.wp,execOp,Act.eval,h]; exact c)
 (d:i ∉ S:=by decide) (r:loB S o lo=true:=by decide +kernel) (q:hiB ops S i hi=true:=by decide +kernel) (k:waitsFor o j=true:=by decide +kernel) (n:o.guard=none:=by rfl):Cs P ops V S Ph a0 Q i o:=
 okQ lo hi (fun p b a w _ _ s c=>m a w _ (by obtain⟨x,A,l⟩:=c.g j t e f k; rw [A,z b x l]) ⟨u,b,rfl,fun _ _ _ h=>h,y b,s⟩) d r q n
theorem ok0 {Q:Exit->Act->World->Prop} {i:Nat} {o:Oper} (lo hi t:Nat) {v u:Value} (e:a0.tmps[t]? = some v) (p:∀ b,V b i u)
 (g:∀ (a:Act) (w:World) (K:Act->World->Prop),a.tmps[t]? = some v->K (a.put o.dst u) w->o.wp P a w K Q:=by intro a w K h c; simp [go_sem,Oper.wp,execOp,Act.eval,h]; exact c)
 (d:i ∉ S:=by decide) (m:loB S o lo=true:=by decide +kernel) (l:hiB ops S i hi=true:=by decide +kernel) (f:wQ ops i t=true:=by decide +kernel) (j:o.guard=none:=by rfl):Cs P ops V S Ph a0 Q i o:=
 okQ lo hi (fun q b a w _ _ n c=>g a w _ (c.k t e f) ⟨u,b,rfl,fun _ _ _ h=>h,p b,n⟩) d m l j
def Bh {Γ:Type} (P:Program) (ops:Array Oper) (V:Γ->Nat->Value->Prop) (S:List Nat) (Ph:Nat->Γ->World->Prop) (a0:Act) (Q:Exit->Act->World->Prop):Nat->List Oper->Prop
 | _,[]=>True
 | i,o :: l=>Cs P ops V S Ph a0 Q i o/\Bh P ops V S Ph a0 Q (i+1) l
theorem Bh.all {Q:Exit->Act->World->Prop}:∀ {l:List Oper} {k:Nat},Bh P ops V S Ph a0 Q k l->∀ (i:Nat) (o:Oper),l[i]? = some o->Cs P ops V S Ph a0 Q (k+i) o
 | [],_,_,i,o,h=>by simp at h
 | x :: l,k,a,0,o,h=>by
  have e:x=o:=by simpa using h
  subst e; exact a.1
 | x :: l,k,a,i+1,o,h=>by
  have:=a.2.all i o (by simpa using h);rwa [show k+(i+1)=k+1+i from by omega]
theorem wS {E:Nat} {n:Nat} {l:List Oper} {w0:World} {Q:Exit->Act->World->Prop} (y:P.follows .mixedOrders=true) (V:Γ->Nat->Value->Prop) (S:List Nat) (Ph:Nat->Γ->World->Prop) (q:Γ) (s:GC l.toArray n=true) (m:chainB l.toArray S=true) (z:a0.tmps.size=n)
 (e:Ph 0 q w0.drew) (A:Bh P l.toArray V S Ph a0 Q 0 l) (u:∀ h a w,Bf l.toArray V S Ph a0 h a w->Q .normal a w):(Code.region E l.toArray true).wp P Q a0 w0:=by
 refine wp_region_any y (yD s m z (fun i o b=>by
  have:=A.all i o (by simpa using b);rwa [Nat.zero_add] at this) (fun h a w r=>u h a w ?_) l.toArray.size q (Array.replicate l.toArray.size false) a0 _ (by simp) ?_ ?_)
 · have c:=r (Array.replicate l.toArray.size true) (fun i x=>by rw [Array.getD_eq_getD_getElem?,Array.getElem?_replicate,if_pos x]; rfl);obtain⟨F,⟨G,B⟩,C⟩:=c.at_
   have D:F=S.length:=by
    rcases Nat.eq_zero_or_pos S.length with e | e
    · omega
    · have p:S[S.length - 1]? = some S[S.length - 1]:=δ (by omega);have j:=B _ _ p;rw [Array.getD_eq_getD_getElem?,Array.getElem?_replicate,if_pos (iM m p).1] at j;have:=of_decide_eq_true j.symm;omega
   subst D;exact⟨C,c.size,c.defers,fun t g=>c.keep t fun i o b v=>absurd v (g i o b),fun i o t b g=>c.done i o t b (by rw [Array.getD_eq_getD_getElem?,Array.getElem?_replicate,if_pos (Array.getElem?_eq_some_iff.1 b).1]; rfl) g⟩
 · exact v6 (List.length_filter_le _ _) (by simp)
 · have f:∀ i,(Array.replicate l.toArray.size false).getD i false=false:=by
    intro i;rw [Array.getD_eq_getD_getElem?,Array.getElem?_replicate]
    split <;> rfl
   exact⟨⟨0,⟨Nat.zero_le _,fun k i _=>by rw [f]; rfl⟩,e⟩,rfl,rfl,fun _ _=>rfl,fun i o t b d _=>(by rw [f] at d; cases d),fun i o H b d _=>(by rw [f] at d; cases d)⟩
theorem rq {j:Nat} {l:List Oper} {w0:World} {Q:Exit->Act->World->Prop} (n:Nat) (V:Γ->Nat->Value->Prop) (S:List Nat) (Ph:Nat->Γ->World->Prop) (b:Γ)
 (c:Ph 0 b w0.drew) (i:Bh P l.toArray V S Ph a0 Q 0 l) (f:∀ k a w,Bf l.toArray V S Ph a0 k a w->Q .normal a w) (g:P.follows .mixedOrders=true:=by kernel_rfl) (d:GC l.toArray n=true:=by decide +kernel) (e:chainB l.toArray S=true:=by decide +kernel) (h:a0.tmps.size=n:=by rfl):(Code.region j l.toArray true).wp P Q a0 w0:=
 wS g V S Ph b d e h c i f
end
theorem aJ {P:Program} {ops:Array Oper} {o:Oper} {a:Act} {w:World} {K:Act->World->Prop} {Q:Exit->Act->World->Prop} (h:o.guard=none) (b:o.wp P a w K Q):vF P ops o a w K Q:=by
 unfold vF Region.wanted;rw [h,if_pos rfl];exact b
theorem LV (s:ByteArray) (w:World) (hs:s.size<=9223372036854775807) :
 ψ 44 #[s] w (eK s w):=by
 by_cases I:mY s=0
 case neg=>exact IP s w hs I
 have h:=JM I;clear I;have o:=(h.h0 (by omega)).2;have y:=(h.h1 (by omega)).2;have ac:=(h.h2 (by omega)).2;have ad:=(h.h3 (by omega)).2;have af:=(zI h).2;have m:=ω (zI h);clear h;have Z:((aD s 0:Int) != 66)=false:=by simp; omega
 have aa:((aD s 0:Int) == 66)=true:=by simp; omega
 have e1:((aD s 1:Int) != 75)=false:=by simp; omega
 have i0:∀ W:World,(Instr.index 9 (.string s) (.int .i64 0)).run Tryz.prog W = .ok (.int .u8 ((aD s 0:Nat):Int)) W:=fK (k:=0) (by omega);have i1:∀ W:World,(Instr.index 9 (.string s) (.int .i64 1)).run Tryz.prog W = .ok (.int .u8 ((aD s 1:Nat):Int)) W:=fK (k:=1) (by omega);have i2:∀ W:World,(Instr.index 9 (.string s) (.int .i64 2)).run Tryz.prog W = .ok (.int .u8 ((aD s 2:Nat):Int)) W:=fK (k:=2) (by omega);have i3:∀ W:World,(Instr.index 9 (.string s) (.int .i64 3)).run Tryz.prog W = .ok (.int .u8 ((aD s 3:Nat):Int)) W:=fK (k:=3) (by omega);have v2:IntKind.i64.wrap (aD s 2:Int)=aD s 2:=by rw [IntKind.wrap_i64]; have:=qE s 2; omega
 have v3:IntKind.i64.wrap (aD s 3:Int)=aD s 3:=by rw [IntKind.wrap_i64]; have:=qE s 3; omega
 have l0:decide ((0:Int)<(s.size:Int))=true:=t7 (by omega);have l1:decide ((1:Int)<(s.size:Int))=true:=t7 (by omega);have l2:decide ((2:Int)<(s.size:Int))=true:=t7 (by omega);have l3:decide ((3:Int)<(s.size:Int))=true:=t7 (by omega);have U:=ω (show (1:Int)<=(aD s 2:Int) from by omega);have X:=ω (show (aD s 2:Int)<=3 from by omega);have Y:=ω (show (1:Int)<=(aD s 3:Int) from by omega);have c2:=ω (show (aD s 3:Int)<=4 from by omega);have l4:decide ((s.size:Int)<4)=false:=fQ (by omega);have hT:=ω (show (s.extract 4 s.size).size<=9223372036854775807 from by rw [ByteArray.size_extract]; omega);clear o y ac ad;obtain⟨n,k,x,K⟩:∃ n k x,rdNum (s.extract 4 s.size)=(n,k,x):=⟨_,_,_,rfl⟩;have l:=ω K;obtain⟨u,f2,f3,D⟩:=gX K;clear K;go_enter Tryz.func44,Tryz.ntmps44
 go_wp2_with fail
 refine Calls.mono (dh _ _ _ U.z X.z _) ?_;rintro i a ⟨rfl,rfl⟩
 go_wp2_with fail
 refine Calls.mono (dh _ _ _ Y.z c2.z _) ?_;rintro i a ⟨rfl,rfl⟩
 go_wp2_with fail
 refine Calls.mono (Bi l.z _ hT.z) ?_;rintro i a ⟨rfl,rfl⟩;clear U X Y c2 i0 i1 i2 i3 v2 v3 l0 l1 l2 l3 l4 Z aa e1;by_cases L:x=0
 · subst L;have E:=D rfl;clear D f3;have f6:k<=s.size - 4:=by have:=E.2; rw [ByteArray.size_extract] at this; omega
   have f7:=E.1;clear E;by_cases z:6000<n
   · have c:=ω (fun (a:World)=>eK.mk' (w:=w) (w':=a) (zX m.z.1 l.z z));clear u
     go_wp2_with fail
     refine Calls.mono (gT _ _) ?_;rintro i a ⟨rfl,rfl⟩;go_wp2;refine bodyPost_ret (v:=.tuple #[.agg #[.int .i64 0,.int .i64 0,.string ⟨#[]⟩],.int .i64 0,.int .i64 2]) (by simp [results,Tryz.results44,go_sem]) rfl ?_;exact c.z _ (by repeat (first | exact θ | refine Below.alloc ?_ (by first | (simp; done) | (simp; omega)) _ | refine Below.setCell ?_ (by first | (simp; done) | (simp; omega)) _))
   by_cases J:s.size<8+k+n
   · have c:=ω (fun (a:World)=>eK.mk' (w:=w) (w':=a) (zY m.z.1 l.z z J));clear u
     go_wp2_with fail
     refine Calls.mono (gT _ _) ?_;rintro i a ⟨rfl,rfl⟩;go_wp2;refine bodyPost_ret (v:=.tuple #[.agg #[.int .i64 0,.int .i64 0,.string ⟨#[]⟩],.int .i64 0,.int .i64 3]) (by simp [results,Tryz.results44,go_sem]) rfl ?_;exact c.z _ (by repeat (first | exact θ | refine Below.alloc ?_ (by first | (simp; done) | (simp; omega)) _ | refine Below.setCell ?_ (by first | (simp; done) | (simp; omega)) _))
   clear u
   have q1:∀ W:World,(Instr.slice 9 (.string s) none (some (.int .i64 (4+(k:Int)+n))) none).run Tryz.prog W = .ok (.string (s.extract 0 (4+k+n))) W:=fun W=>by
    rw [run_slice_string_to_if (P:=Tryz.prog) (w:=W) 9 s .i64 (4+(k:Int)+n) Tryz.underlying9,if_pos ⟨by omega,by omega⟩,show (4+(k:Int)+n).toNat=4+k+n from by omega]
   have q2:∀ W:World,(Instr.slice 9 (.string s) (some (.int .i64 (4+(k:Int)+n))) (some (.int .i64 (4+(k:Int)+n+4))) none).run Tryz.prog W = .ok (.string (s.extract (4+k+n) (8+k+n))) W:=fun W=>by
    rw [run_slice_string W 9 s .i64 .i64 (4+(k:Int)+n) (4+(k:Int)+n+4) Tryz.underlying9 (by omega) (by omega) (by omega),show (4+(k:Int)+n).toNat=4+k+n from by omega,show (4+(k:Int)+n+4).toNat=8+k+n from by omega]
   have q3:IntKind.i64.wrap (4+(k:Int)+n+4 - 4)=4+(k:Int)+n:=by rw [IntKind.wrap_i64]; omega
   have ah:IntKind.i64.wrap (4+(k:Int)+n)=4+(k:Int)+n:=by rw [IntKind.wrap_i64]; omega
   have q4:=ω (show (s.extract 0 (4+k+n)).size<=9223372036854775807 from by rw [ByteArray.size_extract]; omega)
   go_wp2_with fail
   generalize B:(w.alloc (.cells #[(0:Int),(0:Int),.string ⟨#[]⟩] 69)).alloc (.cells #[(aD s 2),(aD s 3),.string ⟨#[]⟩] 69)=r;have o:=ω (show Below w w r from by rw [<- B]; exact ((θ).alloc lQ _).alloc (by simp) _);have F:=ω (show Blk r w 69 #[(0:Int),(0:Int),.string ⟨#[]⟩] from by rw [<- B]; exact Blk.alloc (n5 w _) _)
   have G:=ω (show Blk r (w.heap.size+1) 69 #[(aD s 2),(aD s 3),.string ⟨#[]⟩] from by
    rw [<- B];have:=n5 (χ w #[(0:Int),(0:Int),.string ⟨#[]⟩] 69) (.cells #[(aD s 2),(aD s 3),.string ⟨#[]⟩] 69);simpa [Blk] using this)
   clear B;refine wp_region_quiet_below (by kernel_rfl) (by kernel_rfl) ?_
   repeat (quiet_step ((go_at_call 88; exact Calls.regrown_of (BZ _ _ q4.z))))
   refine wpQuiet_nil ?_;intro _ ae;obtain⟨⟨nq,osq⟩,hw''⟩:=ae;subst hw'';have q:=below_regrown r nq osq;dsimp only;generalize grow (redrawn r nq) osq=b at q;have y:=ω (o.trans (q.mono o.size));have d:Blk b w 69 #[(0:Int),(0:Int),.string ⟨#[]⟩]:=F.below q F.lt;have g:Blk b (w.heap.size+1) 69 #[(aD s 2),(aD s 3),.string ⟨#[]⟩]:=G.below q G.lt;have z0:ζ b w 0 (.int .i64 0):=d.cell 0;have z1:ζ b w 1 (.int .i64 0):=d.cell 1;have z2:ζ b w 2 (.string ⟨#[]⟩):=d.cell 2;have t0:=d.thaw 0;have t1:=d.thaw 1;have t2:=d.thaw 2;have x0:ζ b (w.heap.size+1) 0 (.int .i64 (aD s 2)):=g.cell 0;have x1:ζ b (w.heap.size+1) 1 (.int .i64 (aD s 3)):=g.cell 1;have x2:ζ b (w.heap.size+1) 2 (.string ⟨#[]⟩):=g.cell 2;have r0:=g.thaw 0;have r1:=g.thaw 1;have r2:=g.thaw 2;have hlt:=d.lt;have ag:=g.lt;have Q:=ω d;have R:=ω (show (s.extract 0 (4+k+n)).data.toList=List.take (4+k+n) s.data.toList from by rw [Lib.extract_data]; simp);have T:=ω (ByteArray.toList_eq (s.extract (4+k+n) (8+k+n)));clear d g q o F G q1 q2;by_cases j:(s.extract (4+k+n) (8+k+n)).data.toList=pC (s.extract 0 (4+k+n)).data.toList
   · have c:=ω (fun (a:World)=>eK.mk' (w:=w) (w':=a) (DG m.z.1 l.z z J j))
     have C:(!(pC (List.take (4+k+n) s.data.toList) == (s.extract (4+k+n) (8+k+n)).toList))=false:=by
      have:(pC (List.take (4+k+n) s.data.toList) == (s.extract (4+k+n) (8+k+n)).toList)=true:=by rw [beq_iff_eq,T.z,j,R.z]
      rw [this]; rfl
     have q5:∀ W:World,(Instr.slice 9 (.string s) (some (.int .i64 (4+(k:Int)))) (some (.int .i64 (4+(k:Int)+n))) none).run Tryz.prog W = .ok (.string (s.extract (4+k) (4+k+n))) W:=fun W=>by
      rw [run_slice_string W 9 s .i64 .i64 (4+(k:Int)) (4+(k:Int)+n) Tryz.underlying9 (by omega) (by omega) (by omega),show (4+(k:Int)).toNat=4+k from by omega,show (4+(k:Int)+n).toNat=4+k+n from by omega]
     have e:Blk (sQ (sQ (sQ (sQ b (w.heap.size+1) 2 (.string (s.extract (4+k) (4+k+n)))) w 0 (.int .i64 (aD s 2))) w 1 (.int .i64 (aD s 3))) w 2 (.string (s.extract (4+k) (4+k+n)))) w 69 #[(aD s 2),(aD s 3),.string (s.extract (4+k) (4+k+n))]:=(((Q.below (Below.setCell (p:=⟨w.heap.size+1,2,none⟩) (Below.refl (w.heap.size+1) b) lQ (.string (s.extract (4+k) (4+k+n)))) (Nat.lt_succ_self _)).set 0 _).set 1 _).set 2 _;have H:=ω ((((y.setCell (p:=⟨w.heap.size+1,2,none⟩) (Nat.le_succ _) (.string (s.extract (4+k) (4+k+n)))).setCell (p:=⟨w,0,none⟩) lQ (.int .i64 (aD s 2))).setCell (p:=⟨w,1,none⟩) lQ (.int .i64 (aD s 3))).setCell (p:=⟨w,2,none⟩) lQ (.string (s.extract (4+k) (4+k+n))));have M:=e.cell 0;have N:=e.cell 1;have O:=e.cell 2;clear j e;rw [C];go_wp2;refine bodyPost_ret (v:=.tuple #[.agg #[.int .i64 (aD s 2),.int .i64 (aD s 3),.string (s.extract (4+k) (4+k+n))],.int .i64 (4+(k:Int)+n+4),.int .i64 0]) (by simp [results,Tryz.results44,go_sem,M,N,O]) rfl ?_;rw [show (4+(k:Int)+n+4)=((8+k+n:Nat):Int) from by omega];exact c.z _ H.z
   · have c:=ω (fun (a:World)=>eK.mk' (w:=w) (w':=a) (DH m.z.1 l.z z J j))
     have C:(!(pC (List.take (4+k+n) s.data.toList) == (s.extract (4+k+n) (8+k+n)).toList))=true:=by
      have:(pC (List.take (4+k+n) s.data.toList) == (s.extract (4+k+n) (8+k+n)).toList)=false:=by
       rw [beq_eq_false_iff_ne,T.z]; intro ab; exact j (by rw [<- ab,R.z])
      rw [this]; rfl
     have e:Blk ((((b.setCell ⟨w,0,none⟩ (.int .i64 0)).setCell ⟨w,1,none⟩ (.int .i64 0)).setCell ⟨w,2,none⟩ (.string ⟨#[]⟩)).alloc (.cells #[(0:Int),(0:Int),.string ⟨#[]⟩] 69)) w 69 #[(0:Int),(0:Int),.string ⟨#[]⟩]:=(((Q.set 0 _).set 1 _).set 2 _).alloc _;have H:=ω ((((y.setCell (p:=⟨w,0,none⟩) lQ (.int .i64 0)).setCell (p:=⟨w,1,none⟩) lQ (.int .i64 0)).setCell (p:=⟨w,2,none⟩) lQ (.string ⟨#[]⟩)).alloc (by have:=hlt; simp [World.setCell]; omega) (.cells #[(0:Int),(0:Int),.string ⟨#[]⟩] 69));have M:=e.cell 0;have N:=e.cell 1;have O:=e.cell 2;clear j e;rw [C]
     go_wp2_with fail
     refine Calls.mono (gT _ _) ?_;rintro i a ⟨rfl,rfl⟩;go_wp2;refine bodyPost_ret (v:=.tuple #[.agg #[.int .i64 0,.int .i64 0,.string ⟨#[]⟩],.int .i64 0,.int .i64 5]) (by simp [results,Tryz.results44,go_sem,M,N,O]) rfl ?_;exact c.z _ H.z
 · have c:=ω (fun (a:World)=>eK.mk' (w:=w) (w':=a) (DI m.z.1 l.z L));have e9:((x:Int) != 0)=true:=by simp; omega
   clear L D u
   go_wp2_with fail
   refine Calls.mono (gT _ _) ?_;rintro i a ⟨rfl,rfl⟩;go_wp2;refine bodyPost_ret (v:=.tuple #[.agg #[.int .i64 0,.int .i64 0,.string ⟨#[]⟩],.int .i64 0,.int .i64 x]) (by simp [results,Tryz.results44,go_sem]) rfl ?_;exact c.z _ (by repeat (first | exact θ | refine Below.alloc ?_ (by first | (simp; done) | (simp; omega)) _ | refine Below.setCell ?_ (by first | (simp; done) | (simp; omega)) _))
def jZ (c r:Int):Bool:=ranged c 0 10 && ranged r 0 1099511627776
def rJ (c r:Int):List UInt8:=bf c.toNat ++ bf r.toNat
def gP (c r:Int):ByteArray × Int:=if jZ c r=true then (⟨(rJ c r).toArray⟩,0) else (⟨#[]⟩,1)
theorem yE {c r:Int} (h:jZ c r=false):gP c r=(⟨#[]⟩,1):=by unfold gP; rw [if_neg (by rw [h]; decide)]
theorem Bj {c r:Int} (h:jZ c r=true):gP c r=(⟨(rJ c r).toArray⟩,0):=by unfold gP; rw [if_pos h]
theorem E5 {c r:Int}:jZ c r=true↔(0<=c/\c<=10)/\(0<=r/\r<=1099511627776):=by unfold jZ; rw [Bool.and_eq_true,aM,aM]
theorem E6 (n:Int) (w:World):ψ 200 #[n] w fun e d=>e = .returned (.bool (ranged n 0 1099511627776))/\w=d:=by
 cases h:ranged n 0 1099511627776
 · have a:=fT.1 h;by_cases g:n<0
   · have b:decide (0<=n)=false:=fQ (by omega);clear h a;go_enter Tryz.func200,Tryz.ntmps200;go_wp2;go_ret;exact⟨rfl,rfl⟩
   · have b:decide (0<=n)=true:=t7 (by omega);have c:decide (n<=1099511627776)=false:=fQ (by omega);clear h a;go_enter Tryz.func200,Tryz.ntmps200;go_wp2;go_ret;exact⟨rfl,rfl⟩
 · have a:=aM.1 h;have b:decide (0<=n)=true:=t7 a.1;have c:decide (n<=1099511627776)=true:=t7 a.2;clear h a;go_enter Tryz.func200,Tryz.ntmps200;go_wp2;go_ret;exact⟨rfl,rfl⟩
theorem zi (c r:Int) (w:World):ψ 158 #[.agg #[c,r]] w fun e j=>e = .returned (.bool (jZ c r))/\Below w w j:=by
 have g:=(Below.refl w w).alloc lQ (.cells #[c,r] 93);have b:=ω g;clear g;unfold jZ;cases h:ranged c 0 10
 · have a:=fT.1 h;by_cases k:c<0
   · have d:decide (0<=c)=false:=fQ (by omega);clear h a;go_enter Tryz.func158,Tryz.ntmps158;go_wp2;go_ret;exact⟨rfl,b⟩
   · have d:decide (0<=c)=true:=t7 (by omega);have i:decide (c<=10)=false:=fQ (by omega);clear h a;go_enter Tryz.func158,Tryz.ntmps158;go_wp2;go_ret;exact⟨rfl,b⟩
 · have a:=aM.1 h;have d:decide (0<=c)=true:=t7 a.1;have i:decide (c<=10)=true:=t7 a.2;clear h a;go_enter Tryz.func158,Tryz.ntmps158
   go_wp2_with fail
   refine Calls.mono (E6 r _) ?_;rintro e l ⟨rfl,rfl⟩;go_wp2;go_ret;exact⟨rfl,b⟩
theorem tF (n lo hi:Int) (w:World):ψ 20 #[n,lo,hi] w fun e a=>e = .returned (.bool (!ranged n lo hi))/\w=a:=by
 cases h:ranged n lo hi
 · exact eC n lo hi (fT.1 h) w
 · exact dh n lo hi (aM.1 h).1 (aM.1 h).2 w
def AU (c r:Int) (w:World) (e:Ending) (w':World):Prop:=e = .returned (.tuple #[.string (gP c r).1,.int .i64 (gP c r).2])/\Below w w w'
theorem On (n:Int) (w:World) (a:0<=n) (c:n<=9223372036854775807):ψ 59 #[n] w (wT n.toNat w):=by
 have H:=ω (qc 10 n w a (by omega) (by have:=(by decide:(128:Nat) ^ 10=1180591620717411303424); omega) (by decide));unfold wT at H |-;go_enter Tryz.func59,Tryz.ntmps59
 go_wp2_with fail
 refine H.mono ?_;rintro e d ⟨rfl,b⟩;go_wp2;go_ret;exact⟨rfl,b⟩
theorem Jq (c r:Int) (w:World):ψ 80 #[.agg #[c,r]] w (AU c r w):=by
 have D:=(Below.refl w w).alloc lQ (.cells #[c,r] 93);have y:Blk (χ w #[c,r] 93) w 93 #[c,r]:=n5 w _;have d:=ω D;have i:=ω y;clear D y;unfold AU;cases h:jZ c r
 · rw [yE h];have l:=ω h;clear h;go_enter Tryz.func80,Tryz.ntmps80
   go_wp2_with fail
   refine Calls.mono (zi c r _) ?_;rintro m a ⟨rfl,e⟩;rw [l.z];go_wp2;exact bodyPost_ret (v:=.tuple #[.string ⟨#[]⟩,.int .i64 1]) (by simp [results,Tryz.results80,go_sem]) rfl ⟨rfl,d.trans (e.mono d.size)⟩
 · rw [Bj h];have H:=E5.1 h;have l:=ω h;clear h;go_enter Tryz.func80,Tryz.ntmps80
   go_wp2_with fail
   refine Calls.mono (zi c r _) ?_;rintro m a ⟨rfl,e⟩;rw [l.z];have j:=ω (i.below e i.lt);have k:=ω (d.trans (e.mono d.size));have E:=j.lt;clear e i d;have n:=(Below.refl a a).alloc lQ (.cells #[.slice none 0 0] 239);have C:tC (χ a #[.slice none 0 0] 239) a a []:=⟨lQ,none,0,0,n5 a _,World.ownsRow_nil _ _ _ _⟩;have s:=ω (AY a a [] c _ H.1.1 (by omega) C (by simp));have q:=ω (j.below n E);have g:=ω n;have c0:ζ a w 0 (.int .i64 c):=j.cell 0;clear n C
   go_wp2_with fail
   refine s.mono ?_;rintro m p ⟨rfl,I,F⟩;have o:=g.size;have b:=F.below lQ o;have z:Blk p w 93 #[c,r]:=(b.block w E).trans q.z;have M:ζ p w 1 (.int .i64 r):=z.cell 1;have u:=ω (AY a a _ r p H.2.1 (by omega) I (by have:=dR c.toNat; simp; omega));have x:=ω (k.trans ((g.trans b).mono k.size));have O:=v6 o b.size;clear I F b z s q g o c0
   go_wp2_with fail
   refine u.mono ?_;rintro m R ⟨rfl,J,b⟩;have L:=ω (x.trans ((b.below lQ O).mono k.size));rw [show [] ++ bf c.toNat ++ bf r.toNat=rJ c r by simp [rJ]] at J;obtain⟨_,K,Q,N,B,G⟩:=J;have U:ζ R a 0 (.slice K Q N):=B.cell 0;have T:=iX Tryz.underlying56 Tryz.underlying5 Tryz.underlying9 G;clear b B G u x M;go_wp2;exact bodyPost_ret (v:=.tuple #[.string ⟨(rJ c r).toArray⟩,.int .i64 0]) (by simp [results,Tryz.results80,go_sem]) rfl ⟨rfl,L⟩
theorem Gh (c r:Int) (w:World):ψ 53 #[.agg #[c,r]] w (AU c r w):=by
 have y:=(Below.refl w w).alloc lQ (.cells #[c,r] 93);have x:Blk (χ w #[c,r] 93) w 93 #[c,r]:=n5 w _;have e:=ω y;have g:=ω x;clear y x;unfold AU;have d:=ω (tF c 0 10);have l:=ω (tF r 0 1099511627776);cases h:ranged c 0 10
 · rw [yE (show jZ c r=false by unfold jZ; rw [h]; rfl)];rw [h] at d;clear h;go_enter Tryz.func53,Tryz.ntmps53
   go_wp2_with fail
   refine Calls.mono (d.z _) ?_;rintro m a ⟨rfl,rfl⟩;go_wp2;exact bodyPost_ret (v:=.tuple #[.string ⟨#[]⟩,.int .i64 1]) (by simp [results,Tryz.results53,go_sem]) rfl ⟨rfl,e⟩
 · cases b:ranged r 0 1099511627776
   · rw [yE (show jZ c r=false by unfold jZ; rw [h,b]; rfl)];rw [h] at d;rw [b] at l;clear h b;go_enter Tryz.func53,Tryz.ntmps53
     go_wp2_with fail
     refine Calls.mono (d.z _) ?_;rintro m a ⟨rfl,rfl⟩
     go_wp2_with fail
     refine Calls.mono (l.z _) ?_;rintro m a ⟨rfl,rfl⟩;go_wp2;exact bodyPost_ret (v:=.tuple #[.string ⟨#[]⟩,.int .i64 1]) (by simp [results,Tryz.results53,go_sem]) rfl ⟨rfl,e⟩
   · rw [Bj (show jZ c r=true by unfold jZ; rw [h,b]; rfl)];have H:=aM.1 h;have I:=aM.1 b;rw [h] at d;rw [b] at l;have i:=fun W=>(On c W H.1 (by omega));have j:=fun W=>(On r W I.1 (by omega));unfold wT at i j;have K:(⟨(bf c.toNat).toArray⟩:ByteArray).size<=17:=by have:=dR c.toNat; show (bf c.toNat).toArray.size<=17; simp; omega
     have L:(⟨(bf r.toNat).toArray⟩:ByteArray).size<=17:=by have:=dR r.toNat; show (bf r.toNat).toArray.size<=17; simp; omega
     have k:(⟨(bf c.toNat).toArray⟩:ByteArray) ++ ⟨(bf r.toNat).toArray⟩=⟨(rJ c r).toArray⟩:=by unfold rJ; rw [ByteArray.mk_append_mk]; try simp
     generalize (⟨(bf c.toNat).toArray⟩:ByteArray)=D at i K k;generalize (⟨(bf r.toNat).toArray⟩:ByteArray)=E at j L k;have q:=ω i;have s:=ω j;obtain⟨a,o⟩:∃ a,w.alloc (.cells #[c,r] 93)=a:=⟨_,rfl⟩;rw [o] at g e;have u:=ω o;have F:=fun n p=>cell_regrown (show ζ a w 0 (.int .i64 c) from g.cell 0) n p;have G:=fun n p=>cell_regrown (show ζ a w 1 (.int .i64 r) from g.cell 1) n p;have C:=ω k;clear h b i j o g k;go_enter Tryz.func53,Tryz.ntmps53
     go_wp2_with fail
     refine Calls.mono (d.z _) ?_;rintro m B ⟨rfl,rfl⟩
     go_wp2_with fail
     refine Calls.mono (l.z _) ?_;rintro m B ⟨rfl,rfl⟩
     go_wp2_with fail
     rw [u.z];refine wp_region_quiet_below (by kernel_rfl) (by kernel_rfl) ?_
     go_big_quiet_step ((fail))
     go_big_quiet_step ((fail))
     go_big_quiet_step ((go_at_call 59; exact Calls.regrown_of (q.z _)))
     go_big_quiet_step ((fail))
     go_big_quiet_step ((fail))
     go_big_quiet_step ((go_at_call 59; exact Calls.regrown_of (s.z _)))
     repeat (go_big_quiet_step ((fail)))
     refine wpQuiet_nil ?_;intro _ J;obtain⟨⟨nq,osq⟩,hw''⟩:=J;subst hw'';have z:=ω (e.trans ((below_regrown a nq osq).mono e.size));clear u F G q s;dsimp only;generalize Sort.grow (redrawn a nq) osq=B at z |-;go_wp2;refine bodyPost_ret (v:=.tuple #[.string (D ++ E),.int .i64 0]) (by simp [results,Tryz.results53,go_sem]) rfl ?_;rw [C.z];exact⟨rfl,z⟩
end Go.Proofs.YtimglglgcgpjgabGreatDoor
