/- Of the proof of a statement: PlSrv, DDec, SameR, PlFrs, FrmEncP, WPutD. -/
import Derived.Deep.RegionWith
import Derived.Deep.Cut
import Derived.Deep.CutRange
import Derived.Deep.DeepCutAuto
import Derived.Test.YtimglglgcgpjgabGreatDoorPFits
set_option linter.unusedVariables false
set_option linter.unusedSimpArgs false
set_option maxRecDepth 100000
set_option maxHeartbeats 8000000
namespace Go.Proofs.YtimglglgcgpjgabGreatDoor
open Go.Op (bytesLess)
open Go.RowKit
section
variable {α:Type} {E:α->Int} {key:α->ByteArray}
theorem CA:∀ (p:Option ByteArray) (l:List α),(∀ x ∈ l,E x=0/\before p (key x)=true)->cF key l->eF E key p l=0
 | _,[],_,_=>rfl
 | p,x :: l,h,e=>by
  obtain⟨c,d⟩:=List.pairwise_cons.1 e;have a:=h x List.mem_cons_self;unfold eF;rw [if_pos a.1,if_pos a.2];exact CA (some (key x)) l (fun y b=>⟨(h y (List.mem_cons_of_mem _ b)).1,c y b⟩) d
theorem Fk {l:List α}:cu E key l=0↔(∀ x ∈ l,E x=0)/\cF key l:=
 ⟨fun h=>⟨fun x a=>fB h a,kC h⟩,fun h=>CA none l (fun x a=>⟨h.1 x a,rfl⟩) h.2⟩
theorem By {b:α->Int} {l a:List α} (h:cu E key l=0) (c:a.Sublist l) (g:∀ x ∈ a,E x=0->b x=0):cu b key a=0:=by
 obtain⟨e,f⟩:=Fk.1 h;exact Fk.2 ⟨fun x d=>g x d (e x (c.subset d)),List.Pairwise.sublist c f⟩
end
theorem cV {st:ah}:aE st=0↔ranged st.rev 0 1099511627776=true/\dW st=true/\cu fG aC.name st.jobs=0/\cu dE av.name st.nodes=0/\cu (dN st) ak.job st.leases=0/\lM st=true:=by
 unfold aE;constructor
 · intro h
   split at h
   · omega
   split at h
   · omega
   split at h
   · omega
   split at h
   · omega
   split at h
   · omega
   split at h
   · rename_i a b c d e f
     exact⟨by simpa using a,by simpa using b,Decidable.not_not.1 c,Decidable.not_not.1 d,Decidable.not_not.1 e,f⟩
   · omega
 · rintro⟨a,b,c,d,e,f⟩;rw [if_neg (by rw [a]; decide),if_neg (by rw [b]; decide),if_neg (by rw [c]; decide),if_neg (by rw [d]; decide),if_neg (by rw [e]; decide),if_pos f]
theorem yK {st st':ah} (c:tN st) (s:ByteArray):∀ {d l:List ak},d.Sublist l->(∀ x ∈ d,fS st' x s=fS st x s)->fW st' s d<=fW st s l
 | _,_,.slnil,_=>Int.le_refl _
 | _,_,.cons a h,b=>by
  have f:=yK c s h b;have:=(xg c a s).1
  show _<=fS st a s+fW st s _
  omega
 | _,_,.cons_cons a h,b=>by
  have f:=yK c s h (fun x e=>b x (List.mem_cons_of_mem _ e));have:=b a List.mem_cons_self
  show fS st' a s+fW st' s _<=fS st a s+fW st s _
  omega
theorem Bz {st st':ah} (h:st'.jobs=st.jobs) (s:ByteArray):∀ l:List ak,fW st' s l=fW st s l
 | []=>rfl
 | a :: l=>by
  show fS st' a s+fW st' s l=fS st a s+fW st s l
  rw [Bz h s l];unfold fS;rw [h]
theorem uq {st st':ah} (h:aE st=0) (q:st'.rev=st.rev) (k:st'.jobs.Sublist st.jobs) (d:st'.nodes.Sublist st.nodes) (c:st'.leases.Sublist st.leases)
 (e:∀ l ∈ st'.leases,cD st'.jobs l.job=cD st.jobs l.job/\bU st'.nodes l.node=bU st.nodes l.node):aE st'=0:=by
 obtain⟨m,f,g,o,p,b⟩:=cV.1 h;refine cV.2 ⟨by rw [q]; exact m,?_,By g k (fun _ _ h=>h),By o d (fun _ _ h=>h),By p c (fun l a j=>?_),?_⟩
 · unfold dW at f |-;simp only [Bool.and_eq_true,decide_eq_true_eq] at f |-;have s:=k.length_le;have t:=d.length_le;have u:=c.length_le;omega
 · unfold dN at j |-;rw [(e l a).1,(e l a).2];exact j
 · unfold lM at b |-;rw [List.all_eq_true] at b |-;intro n a;have i:=b n (d.subset a);simp only [decide_eq_true_eq] at i |-;refine Int.le_trans ?_ i;unfold rV;refine yK (As g) n.name c fun x r=>?_;unfold fS;rw [(e x r).1]
theorem tJ {α:Type} (key:α->ByteArray) (s q:ByteArray) (h:s≠q):∀ l:List α,(l.filter fun a=>!decide (key a=q)).find? (fun a=>decide (key a=s))=l.find? fun a=>decide (key a=s)
 | []=>rfl
 | a :: l=>by
  have c:=tJ key s q h l;by_cases e:key a=q
  · have b:¬ key a=s:=fun b=>h (b.symm.trans e);rw [List.filter_cons,List.find?_cons,decide_eq_true e,decide_eq_false b];simpa using c
  · rw [List.filter_cons,decide_eq_false e];simp only [Bool.not_false,if_true];rw [List.find?_cons,List.find?_cons,c]
theorem GS {st:ah} (h:aE st=0) (s:ByteArray):aE (nk st s)=0:=by
 refine uq h rfl List.filter_sublist (List.Sublist.refl _) List.filter_sublist fun l a=>⟨?_,rfl⟩;have:=(List.mem_filter.1 a).2;exact tJ aC.name l.job s (by simpa using this) _
theorem GT {st:ah} (h:aE st=0) (s:ByteArray):aE (nu st s)=0:=by
 refine uq h rfl (List.Sublist.refl _) List.filter_sublist List.filter_sublist fun l a=>⟨rfl,?_⟩;have:=(List.mem_filter.1 a).2;exact tJ av.name l.node s (by simpa using this) _
theorem GU {st:ah} (h:aE st=0) (s:ByteArray):aE (mN st s)=0:=
 uq h rfl (List.Sublist.refl _) (List.Sublist.refl _) List.filter_sublist fun _ _=>⟨rfl,rfl⟩
theorem GV {st:ah} (h:aE st=0) (t:Int):aE (ny st t)=0:=
 uq h rfl (List.Sublist.refl _) (List.Sublist.refl _) List.filter_sublist fun _ _=>⟨rfl,rfl⟩
def nextR (st:ah) (now:Int) (q:aL):Int × ah × Int:=
 if q.kind=1 then (aE (mL st q.job),mL st q.job,now)
 else if q.kind=2 then (aE (mM st q.node),mM st q.node,now)
 else if q.kind=3 then (if (cD st.jobs q.name).isSome=true then (aE (nk st q.name),nk st q.name,now) else (6,st,now))
 else if q.kind=4 then (if (bU st.nodes q.name).isSome=true then (aE (nu st q.name),nu st q.name,now) else (6,st,now))
 else if q.kind=5 then (match cD st.jobs q.lease.job with
  | none=>(6,st,now)
  | some j=>if (bU st.nodes q.lease.node).isSome=false then (6,st,now)
   else if (cE st.leases q.lease.job).isSome=true then (7,st,now)
   else if q.lease.till<=now then (1,st,now)
   else if 100<j.tries+1 then (2,st,now)
   else (aE (jY st j q.lease),jY st j q.lease,now))
 else if q.kind=6 then (if (cE st.leases q.name).isSome=true then (aE (mN st q.name),mN st q.name,now) else (6,st,now))
 else if q.kind=7 then (if 1099511627776<now+q.n then (1,st,now+q.n) else (aE (ny st (now+q.n)),ny st (now+q.n),now+q.n))
 else (aE st,st,now)
theorem wM {st:ah} (h:aE st=0):∀ j ∈ st.jobs,0<=j.tries/\j.tries<=100:=fun _ a=>(oT (fB (cV.1 h).2.2.1 a)).2.2.2.2
theorem Is {st:ah} (h:aE st=0) (now:Int) (q:aL):(nextR st now q).1=(doR st now q).1/\((doR st now q).1=0->nextR st now q=doR st now q):=by
 unfold nextR doR
 split
 · exact⟨rfl,fun _=>rfl⟩
 split
 · exact⟨rfl,fun _=>rfl⟩
 split
 · split
   · rw [GS h]; exact⟨rfl,fun _=>rfl⟩
   · exact⟨rfl,fun h=>by cases h⟩
 split
 · split
   · rw [GT h]; exact⟨rfl,fun _=>rfl⟩
   · exact⟨rfl,fun h=>by cases h⟩
 split
 · unfold oG
   cases c:cD st.jobs q.lease.job with
   | none=>exact⟨rfl,fun _=>rfl⟩
   | some j=>
    dsimp only
    split
    · exact⟨rfl,fun _=>rfl⟩
    split
    · exact⟨rfl,fun _=>rfl⟩
    split
    · exact⟨rfl,fun _=>rfl⟩
    have d:=wM h j (List.mem_of_find?_eq_some c);by_cases a:j.tries=100
    · rw [if_pos (by omega),if_pos a]; exact⟨rfl,fun _=>rfl⟩
    · rw [if_neg (by omega),if_neg a]; exact⟨rfl,fun _=>rfl⟩
 split
 · split
   · rw [GU h]; exact⟨rfl,fun _=>rfl⟩
   · exact⟨rfl,fun h=>by cases h⟩
 split
 · by_cases b:1099511627776<now+q.n
   · rw [if_pos b,if_pos (by omega)]; exact⟨rfl,fun h=>by cases h⟩
   · rw [if_neg b,if_neg (by omega),GV h]; exact⟨rfl,fun _=>rfl⟩
 · rw [h]; exact⟨rfl,fun _=>rfl⟩
def tD (st:ah):ah:=⟨st.rev+1,st.jobs,st.nodes,st.leases⟩
def lK (a b:ah):Prop:=a.jobs=b.jobs/\a.nodes=b.nodes/\a.leases=b.leases
noncomputable def lD (st:ah) (now:Int) (q:aL):Int × ah × Int:=if cN q=0 then doR st now q else (cN q,st,now)
structure mF where
 e:Int
 ch:Bool
 st:ah
 now:Int
open Classical in
noncomputable def lO (st:ah) (now:Int) (R:Int × ah × Int):mF:=
 if R.1=0 then (if lK st R.2.1 then ⟨0,false,st,R.2.2⟩
  else if 1099511627776<st.rev+1 then ⟨2,false,st,now⟩ else ⟨0,true,tD R.2.1,R.2.2⟩)
 else ⟨R.1,false,st,now⟩
theorem zN (st:ah) (now:Int) (q:aL):(doR st now q).2.1.rev=st.rev:=by
 unfold doR oG
 repeat' split
 all_goals rfl
theorem uf {st:ah} (h:aE st=0) {now:Int} {q:aL} (f:(doR st now q).1=0):aE (doR st now q).2.1=0:=by
 have e:=Is h now q;rw [f] at e;rw [<- e.2 rfl];have a:=e.1;clear f e;unfold nextR at a |-
 split at a
 · rename_i b; rw [if_pos b]; exact a
 rename_i b; rw [if_neg b]
 split at a
 · rename_i b; rw [if_pos b]; exact a
 rename_i b; rw [if_neg b]
 split at a
 · rename_i b; rw [if_pos b]
   split at a
   · rename_i d; rw [if_pos d]; exact a
   · cases a
 rename_i b; rw [if_neg b]
 split at a
 · rename_i b; rw [if_pos b]
   split at a
   · rename_i d; rw [if_pos d]; exact a
   · cases a
 rename_i b; rw [if_neg b]
 split at a
 · rename_i b; rw [if_pos b]
   cases g:cD st.jobs q.lease.job with
   | none=>rw [g] at a; cases a
   | some j=>
    rw [g] at a;dsimp only at a |-
    split at a
    · cases a
    rename_i c; rw [if_neg c]
    split at a
    · cases a
    rename_i c; rw [if_neg c]
    split at a
    · cases a
    rename_i c; rw [if_neg c]
    split at a
    · cases a
    rename_i c; rw [if_neg c]
    exact a
 rename_i b; rw [if_neg b]
 split at a
 · rename_i b; rw [if_pos b]
   split at a
   · rename_i d; rw [if_pos d]; exact a
   · cases a
 rename_i b; rw [if_neg b]
 split at a
 · rename_i b; rw [if_pos b]
   split at a
   · cases a
   · rename_i d; rw [if_neg d]; exact a
 rename_i b; rw [if_neg b]
 exact a
theorem vE {st:ah} (h:aE st=0) (i:¬ 1099511627776<st.rev+1):aE (tD st)=0:=by
 obtain⟨b,c,d,e,f,a⟩:=cV.1 h;have g:=aM.1 b;refine cV.2 ⟨aM.2 ⟨by show 0<=st.rev+1; omega,by show st.rev+1<=1099511627776; omega⟩,c,d,e,f,?_⟩;unfold lM rV at a |-;simp only [Bz (show (tD st).jobs=st.jobs from rfl)];exact a
theorem Il {st:ah} {now:Int} {q:aL} (h:aE st=0) (f:0<=now/\now<=1099511627776):aE (lO st now (lD st now q)).st=0/\0<=(lO st now (lD st now q)).now/\(lO st now (lD st now q)).now<=1099511627776:=by
 unfold lO
 split
 · rename_i a
   have b:cN q=0:=by
    unfold lD at a
    split at a
    · assumption
    · exact a
   have ha:lD st now q=doR st now q:=by unfold lD; rw [if_pos b]
   rw [ha] at a |-;have i:=uf h a;have j:=zN st now q
   have g:0<=(doR st now q).2.2/\(doR st now q).2.2<=1099511627776:=by
    by_cases e:q.kind=7
    · have d:eL q=0:=by
       unfold cN at b
       split at b
       · cases b
       split at b
       · cases b
       exact b
      have c:ranged q.n 0 1099511627776=true:=by
       unfold eL at d;rw [e] at d;simp only [show ¬ (7:Int)=1 from by decide,show ¬ (7:Int)=2 from by decide,show ¬ (7:Int)=3 from by decide,show ¬ (7:Int)=4 from by decide,show ¬ (7:Int)=5 from by decide,show ¬ (7:Int)=6 from by decide,or_false,if_false,if_true] at d;by_cases c:ranged q.n 0 1099511627776=true
       · exact c
       · rw [if_neg c] at d; cases d
      have c:=aM.1 c;unfold doR at a |-;simp only [e,show ¬ (7:Int)=1 from by decide,show ¬ (7:Int)=2 from by decide,show ¬ (7:Int)=3 from by decide,show ¬ (7:Int)=4 from by decide,show ¬ (7:Int)=5 from by decide,show ¬ (7:Int)=6 from by decide,if_false,if_true] at a |-
      split at a
      · cases a
      · rename_i hlt
        rw [if_neg hlt];dsimp only;omega
    · have:(doR st now q).2.2=now:=by
       unfold doR oG
       repeat' split
       all_goals first | rfl | (exfalso; exact e ‹_›)
      rw [this]; exact f
   split
   · exact⟨h,g⟩
   split
   · exact⟨h,f⟩
   · rename_i k c
     exact⟨vE i (by rw [j]; exact c),g⟩
 · exact⟨h,f⟩
structure tB (w:World) (g:Nat) (d:aY) (x:eG):Prop where
 j:∃ b,g<b/\w.ownsRow b 86 5 (.slice x.aj x.nj x.cj) x.nj (au aS d.jobs)
 n:∃ b,g<b/\w.ownsRow b 81 3 (.slice x.an x.nn x.cn) x.nn (au aH d.nodes)
 l:∃ b,g<b/\w.ownsRow b 77 3 (.slice x.al x.nl x.cl) x.nl (au aB d.leases)
 gj:∃ b,g<b/\w.ownsRow b 9 1 (.slice x.agj x.ngj x.cgj) x.ngj (au kQ d.gj)
 gn:∃ b,g<b/\w.ownsRow b 9 1 (.slice x.agn x.ngn x.cgn) x.ngn (au kQ d.gn)
 gl:∃ b,g<b/\w.ownsRow b 9 1 (.slice x.agl x.ngl x.cgl) x.ngl (au kQ d.gl)
 lj:d.jobs.length=x.nj
 ln:d.nodes.length=x.nn
 ll:d.leases.length=x.nl
 lgj:d.gj.length=x.ngj
 lgn:d.gn.length=x.ngn
 lgl:d.gl.length=x.ngl
theorem yL {w w':World} {g sz n:Nat} {e:TypeId} {v:Value} {xs:List Value} (h:∃ b,g<b/\w.ownsRow b e sz v n xs) (c:w.grownBy w' (some g)):∃ b,g<b/\w'.ownsRow b e sz v n xs:=by
 obtain⟨b,a,d⟩:=h; exact⟨b,a,bZ d c a⟩
theorem tB.grow {w w':World} {g:Nat} {d:aY} {x:eG} (h:tB w g d x) (a:w.grownBy w' (some g)):tB w' g d x:=
 ⟨yL h.j a,yL h.n a,yL h.l a,yL h.gj a,yL h.gn a,yL h.gl a,h.lj,h.ln,h.ll,h.lgj,h.lgn,h.lgl⟩
structure IA (d:aY):Prop where
 j:d.jobs.length<=40
 n:d.nodes.length<=20
 l:d.leases.length<=40
 gj:d.gj.length<=40
 gn:d.gn.length<=20
 gl:d.gl.length<=40
 oj:oC d.jobs
 on_:mB d.nodes
 ol:lB d.leases
 ogj:nL d.gj
 ogn:nL d.gn
 ogl:nL d.gl
theorem oZ {w:World} {g sz n c:Nat} {A:Option Addr} {e:TypeId} {xs:List Value} (h:∃ b,g<b/\w.ownsRow b e sz (.slice A n c) n xs):bg w w sz A n xs:=by
 obtain⟨b,d,a⟩:=h; exact cS a
theorem tB.at_ {w:World} {g:Nat} {d:aY} {x:eG} (h:tB w g d x) (z:IA d):dB w w d x:=
 ⟨oZ h.j,oZ h.n,oZ h.l,oZ h.gj,oZ h.gn,oZ h.gl,h.lj,h.ln,h.ll,h.lgj,h.lgn,h.lgl,
  by have:=z.j; have:=h.lj; omega,by have:=z.n; have:=h.ln; omega,by have:=z.l; have:=h.ll; omega,by have:=z.gj; have:=h.lgj; omega,by have:=z.gn; have:=h.lgn; omega,by have:=z.gl; have:=h.lgl; omega,
  z.oj,z.on_,z.ol,z.ogj,z.ogn,z.ogl⟩
def pP (st st':ah) (w:World) (e:Ending) (w':World):Prop:=∃ t:Bool,e = .returned (.bool t)/\(t=true↔st=st')/\Below w w w'
theorem pP.no {st st':ah} {w w':World} (h:st≠st') (b:Below w w w'):pP st st' w (.returned (.bool false)) w':=⟨false,rfl,⟨fun h=>(by cases h),fun a=>absurd a h⟩,b⟩
theorem StAt.up {w w':World} {st:ah} {x:StA} (b:StAt w w st x) (a:Below w w w'):StAt w' w' st x:=(b.below a).more a.size
theorem bg.up {w w':World} {sz n:Nat} {A:Option Addr} {xs:List Value} (h:bg w w sz A n xs) (a:Below w w w'):bg w' w' sz A n xs:=(h.below a).more a.size
theorem A7 (st st':ah) (x g:StA) (w:World) (P:StAt w w st x) (Q:StAt w w st' g) :
 ψ 55 #[.agg (stC st x),.agg (stC st' g)] w (pP st st' w):=by
 have C:Below w w (χ w (stC st x) 26):=(θ).alloc lQ _;have R:=C.alloc C.size (.cells (stC st' g) 26);have u:=ω (show Blk ((w.alloc (.cells (stC st x) 26)).alloc (.cells (stC st' g) 26)) w 26 (stC st x) from Blk.alloc (show Blk _ _ _ _ from n5 w _) _)
 have v:=ω (show Blk ((w.alloc (.cells (stC st x) 26)).alloc (.cells (stC st' g) 26)) (w.heap.size+1) 26 (stC st' g) from by
  have h:=n5 (χ w (stC st x) 26) (.cells (stC st' g) 26);rwa [show (w.alloc (.cells (stC st x) 26)).heap.size=w.heap.size+1 by simp] at h)
 have m:=ω R;have d:=ω P;have e:=ω Q;clear C R P Q;obtain⟨rev,jobs,nodes,leases⟩:=st;obtain⟨aj,nj,cj,I,U,M,G,S,K⟩:=x;obtain⟨B,k,o,p⟩:=st';obtain⟨ac,ae,ad,J,V,N,H,T,L⟩:=g;unfold stC at *;dsimp only at *;by_cases s:rev=B;rotate_left
 · have e1:(rev == B)=false:=beq_eq_false_iff_ne.2 s;have i:=ω (pP.no (st:=⟨rev,jobs,nodes,leases⟩) (st':=⟨B,k,o,p⟩) (fun h=>s (by injection h)) m.z);clear s;go_enter Tryz.func55,Tryz.ntmps55;go_wp2;go_ret;exact i
 subst s;have D:=ω (Ap.1 jobs k aj ac nj ae cj ad _ (d.j.up m.z) (e.j.up m.z) d.lj e.lj d.bj e.bj);have F:=ω (fun W (a:Below w w W)=>Ap.2.1 nodes o I J U V M N W (d.n.up a) (e.n.up a) d.ln e.ln d.bn e.bn);have Z:=ω (fun W (a:Below w w W)=>Ap.2.2 leases p G H S T K L W (d.l.up a) (e.l.up a) d.ll e.ll d.bl e.bl);go_enter Tryz.func55,Tryz.ntmps55
 go_wp2_with fail
 refine D.mono ?_;rintro O X ⟨t,rfl,b,a⟩;have c:=m.trans (a.mono m.size);cases t
 · have i:=ω (pP.no (st:=⟨rev,jobs,nodes,leases⟩) (st':=⟨rev,k,o,p⟩) (fun h=>absurd (b.2 (by injection h)) (by decide)) c);clear b a c;go_wp2;go_ret;exact i
 have Hj:=ω (b.1 rfl);have q:=ω (u.below a u.lt);have r:=ω (v.below a v.lt);have y:=ω c;have y2:ζ X w 2 (.slice I U M):=q.cell 2;have z2:ζ X (w.heap.size+1) 2 (.slice J V N):=r.cell 2;clear b a c u v D
 go_wp2_with fail
 refine Calls.mono (F.z _ y.z) ?_;rintro O Y ⟨t,rfl,b,a⟩;have c:=y.trans (a.mono y.size);cases t
 · have i:=ω (pP.no (st:=⟨rev,jobs,nodes,leases⟩) (st':=⟨rev,k,o,p⟩) (fun h=>absurd (b.2 (by injection h)) (by decide)) c);clear b a c;go_wp2;go_ret;exact i
 have Hn:=ω (b.1 rfl);have aa:=ω (q.below a q.lt);have ab:=ω (r.below a r.lt);have z:=ω c;clear y2 z2;have y3:ζ Y w 3 (.slice G S K):=aa.cell 3;have z3:ζ Y (w.heap.size+1) 3 (.slice H T L):=ab.cell 3;clear b a c q r F
 go_wp2_with fail
 refine Calls.mono (Z.z _ z.z) ?_;rintro O w3 ⟨t,rfl,b,a⟩;have c:=z.trans (a.mono z.size);have i:=ω (show pP ⟨rev,jobs,nodes,leases⟩ ⟨rev,k,o,p⟩ w (.returned (.bool t)) w3 from ⟨t,rfl,⟨fun h=>by rw [Hj.z,Hn.z,b.1 h],fun h=>b.2 (by injection h)⟩,c⟩);clear b a c;go_wp2;go_ret;exact i
theorem GW {s:ByteArray} {f:cL} {n e:Nat} (h:jF s=(f,n,e)):(e≠0->f = .zero/\n=0)/\(e=0->9<=n/\n<=s.size):=by
 unfold jF at h;by_cases b:mY s=0
 · rw [if_pos b] at h;obtain⟨i,k,x,g⟩:∃ n k x,rdNum (s.extract 4 s.size)=(n,k,x):=⟨_,_,_,rfl⟩;have j:=gX g;rw [g] at h;dsimp only at h;by_cases a:x=0
   · rw [if_pos a] at h;have l:=(j.2.2.2 a).1;by_cases d:6000<i
     · rw [if_pos d] at h; cases h; exact⟨fun _=>⟨rfl,rfl⟩,fun h=>absurd h (by omega)⟩
     · rw [if_neg d] at h;by_cases c:s.size<8+k+i
       · rw [if_pos c] at h; cases h; exact⟨fun _=>⟨rfl,rfl⟩,fun h=>absurd h (by omega)⟩
       · rw [if_neg c] at h
         split at h
         · cases h; exact⟨fun h=>absurd rfl h,fun _=>⟨by omega,by omega⟩⟩
         · cases h; exact⟨fun _=>⟨rfl,rfl⟩,fun h=>absurd h (by omega)⟩
   · rw [if_neg a] at h; cases h; exact⟨fun _=>⟨rfl,rfl⟩,fun h=>absurd h a⟩
 · rw [if_neg b] at h; cases h; exact⟨fun _=>⟨rfl,rfl⟩,fun h=>absurd h b⟩
inductive Frs:ByteArray->List cL->Nat->Nat->Prop
 | stop {s:ByteArray} {e:Nat}:jF s=(.zero,0,e)->e≠0->Frs s [] 0 e
 | step {s:ByteArray} {f:cL} {n:Nat} {fs:List cL} {m e:Nat}:jF s=(f,n,0)->1<=n->n<=s.size->Frs (s.extract n s.size) fs m e->Frs s (f :: fs) (n+m) e
theorem Frs.all_:∀ (k:Nat) (s:ByteArray),s.size<=k->∃ c m e,Frs s c m e
 | k,s,b=>by
  obtain⟨f,n,e,h⟩:∃ f n e,jF s=(f,n,e):=⟨_,_,_,rfl⟩;obtain⟨d,g⟩:=GW h;by_cases a:e=0
  · subst a;obtain⟨l,i⟩:=g rfl
    match k,b with
    | 0,b=>omega
    | k+1,b=>
     obtain⟨c,m,e,j⟩:=Frs.all_ k (s.extract n s.size) (by rw [ByteArray.size_extract]; omega);exact⟨_,_,_,.step h (by omega) i j⟩
  · obtain⟨rfl,rfl⟩:=d a;exact⟨_,_,_,.stop h a⟩
theorem Frs.all (s:ByteArray):∃ a m e,Frs s a m e:=Frs.all_ s.size s lQ
theorem Frs.facts {s:ByteArray} {a:List cL} {m e:Nat} (h:Frs s a m e):m<=s.size/\e≠0/\a.length<=m:=by
 induction h with
 | stop _ c=>exact⟨Nat.zero_le _,c,lQ⟩
 | step _ d f _ b=>
  rw [ByteArray.size_extract] at b;refine⟨by omega,b.2.1,?_⟩;rw [List.length_cons]; omega
def NQ (g:Nat) (v k:Int) (p:ByteArray):Nat->Value->World->Prop
 | 0,u,_=>u = π g 0
 | 1,u,_=>u = .int .i64 v
 | 2,u,_=>u = .int .u8 v
 | 3,u,_=>u = π g 1
 | 4,u,_=>u = .int .i64 k
 | 5,u,_=>u = .int .u8 k
 | 6,u,w=>∃ b,u = .slice (some ⟨b,0,none⟩) 2 2/\ζ w b 0 (.int .u8 v)/\ζ w b 1 (.int .u8 k)
 | 7,u,_=>u = .string ⟨#[UInt8.ofNat v.toNat,UInt8.ofNat k.toNat]⟩
 | 8,u,_=>u = .string (⟨#[66,75]⟩ ++ ⟨#[UInt8.ofNat v.toNat,UInt8.ofNat k.toNat]⟩)
 | 9,u,_=>u = π g 2
 | 10,u,_=>u = .string p
 | 11,u,_=>u = .int .i64 p.size
 | 12,u,_=>u = .int .u64 p.size
 | 13,u,_=>u = .string ⟨(bf p.size).toArray⟩
 | 14,u,_=>u = .string (⟨#[66,75]⟩ ++ ⟨#[UInt8.ofNat v.toNat,UInt8.ofNat k.toNat]⟩ ++ ⟨(bf p.size).toArray⟩)
 | 15,u,_=>u = π g 2
 | 16,u,_=>u = .string p
 | _,u,_=>u = .string (⟨#[66,75]⟩ ++ ⟨#[UInt8.ofNat v.toNat,UInt8.ofNat k.toNat]⟩ ++ ⟨(bf p.size).toArray⟩ ++ p)
theorem Fm (g:Nat) (v k:Int) (p:ByteArray) (i:Nat) (u:Value) (w w':World) (h:NQ g v k p i u w) (a:Ext w w'):NQ g v k p i u w':=by
 unfold NQ at *
 split at h
 case h_7=>obtain⟨b,e,c,d⟩:=h; exact⟨b,e,gH c a,gH d a⟩
 all_goals exact h
theorem G9 (v k:Int) (p:ByteArray) (w:World) :
 ψ 160 #[.agg #[v,k,p]] w (gY v k p w):=by
 by_cases C:v<1\/3<v
 · have i:=ω (fun (d:World)=>gY.arg (v:=v) (k:=k) (p:=p) (w:=w) (w':=d) (by omega));have U:=ω C;clear C;go_enter Tryz.func160,Tryz.ntmps160
   go_wp2_with (go_at_call 68; refine (vU _ U.z _).mono ?_; rintro e d ⟨rfl,rfl⟩)
   go_ret2;exact i.z _ ((θ).alloc lQ _)
 have D:1<=v:=by omega
 have F:v<=3:=by omega
 clear C;by_cases B:k<1\/4<k
 · have i:=ω (fun (d:World)=>gY.arg (v:=v) (k:=k) (p:=p) (w:=w) (w':=d) (by omega));have T:=ω B;clear B;go_enter Tryz.func160,Tryz.ntmps160
   go_wp2_with (first | (go_at_call 68; refine (nK _ D F _).mono ?_; rintro e d ⟨rfl,rfl⟩) | (go_at_call 69; refine (BW _ T.z _).mono ?_; rintro e d ⟨rfl,rfl⟩))
   go_ret2;exact i.z _ ((θ).alloc lQ _)
 have N:1<=k:=by omega
 have O:k<=4:=by omega
 clear B;by_cases Q:6000<p.size
 · have i:=ω (fun (d:World)=>gY.large (v:=v) (k:=k) (p:=p) (w:=w) (w':=d) (by omega) Q);go_enter Tryz.func160,Tryz.ntmps160
   go_wp2_with (first | (go_at_call 68; refine (nK _ D F _).mono ?_; rintro e d ⟨rfl,rfl⟩) | (go_at_call 69; refine (uP _ N O _).mono ?_; rintro e d ⟨rfl,rfl⟩))
   go_ret2;exact i.z _ ((θ).alloc lQ _)
 have R:v=(((UInt8.ofNat v.toNat).toNat:Nat):Int):=by rw [UInt8.toNat_ofNat']; omega
 have P:k=(((UInt8.ofNat k.toNat).toNat:Nat):Int):=by rw [UInt8.toNat_ofNat']; omega
 have V:∀ (W:World) (g:Nat),ζ W g 0 (.int .u8 v)->ζ W g 1 (.int .u8 k)->(convert 56 9 (.slice (some ⟨g,0,none⟩) 2 2)).run Tryz.prog W = .ok (.string ⟨#[UInt8.ofNat v.toNat,UInt8.ofNat k.toNat]⟩) W:=by
  intro W g h0 b;exact Qo W g (by rw [<- R]; exact h0) (by rw [<- P]; exact b)
 clear R P;have wv:IntKind.u8.wrap v=v:=by rw [IntKind.wrap_u8']; omega
 have wk:IntKind.u8.wrap k=k:=by rw [IntKind.wrap_u8']; omega
 have wp:IntKind.u64.wrap (p.size:Int)=p.size:=by rw [IntKind.wrap_u64]; omega
 have hl:=(dR p.size).2;have c1:¬ 9223372036854775807<4+(bf p.size).length:=by omega
 have c2:¬ 9223372036854775807<4+(bf p.size).length+p.size:=by omega
 have H:=ω (DW v.toNat k.toNat p.data.toList);have i:=ω (fun (s:ByteArray) (d:World)=>gY.ok (v:=v) (k:=k) (p:=p) (w:=w) (w':=d) (s:=s) (by omega) Q);clear hl;go_enter Tryz.func160,Tryz.ntmps160
 go_upto_region 5 with (first | (go_at_call 68; refine (nK _ D F _).mono ?_; rintro e d ⟨rfl,rfl⟩) | (go_at_call 69; refine (uP _ N O _).mono ?_; rintro e d ⟨rfl,rfl⟩))
 go_cut [4] (fun s r=>∃ S:ByteArray,s = .string S/\S.data.toList=BJ v.toNat k.toNat p.data.toList/\Below w w r)
 case first=>
  generalize m:w.alloc (.cells #[v,k,p] 69)=q;have K:Below w w q:=by rw [<- m]; exact (θ).alloc lQ _
  have g0:ζ q w 0 (.int .i64 v):=by rw [<- m]; simp [go_sem]
  have g1:ζ q w 1 (.int .i64 k):=by rw [<- m]; simp [go_sem]
  have I:ζ q w 2 (.string p):=by rw [<- m]; simp [go_sem]
  have hg:w.heap.size<q.heap.size:=by rw [<- m]; simp
  clear m;refine oM (n:=43) (by kernel_rfl) (NQ w v k p) (by decide +kernel) rfl (Fm _ _ _ _) ?_ ?_
  · refine⟨?_,?_,?_,?_,?_,?_,?_,?_,?_,?_,?_,?_,?_,?_,?_,?_,?_,?_,?_,trivial⟩
    all_goals (intro X r l x c; refine⟨rfl,?_⟩)
    · have b:=x 1 _ rfl (by decide +kernel);simp [go_sem,Oper.wp,execOp,Act.eval,b];exact⟨_,rfl,θ,rfl⟩
    · obtain⟨u1,b,a⟩:=c 0 _ 21 rfl rfl (by decide +kernel);replace a:u1=_:=a;subst a;have j:=gH g0 l;simp [go_sem,Oper.wp,execOp,Act.eval,b,j];exact⟨_,rfl,θ,rfl⟩
    · obtain⟨u1,b,a⟩:=c 1 _ 22 rfl rfl (by decide +kernel);replace a:u1=_:=a;subst a;simp [go_sem,Oper.wp,execOp,Act.eval,b,wv];exact⟨_,rfl,θ,rfl⟩
    · have b:=x 1 _ rfl (by decide +kernel);simp [go_sem,Oper.wp,execOp,Act.eval,b];exact⟨_,rfl,θ,rfl⟩
    · obtain⟨u1,b,a⟩:=c 3 _ 24 rfl rfl (by decide +kernel);replace a:u1=_:=a;subst a;have j:=gH g1 l;simp [go_sem,Oper.wp,execOp,Act.eval,b,j];exact⟨_,rfl,θ,rfl⟩
    · obtain⟨u1,b,a⟩:=c 4 _ 25 rfl rfl (by decide +kernel);replace a:u1=_:=a;subst a;simp [go_sem,Oper.wp,execOp,Act.eval,b,wk];exact⟨_,rfl,θ,rfl⟩
    · obtain⟨u1,b,a⟩:=c 2 _ 23 rfl rfl (by decide +kernel);replace a:u1=_:=a;subst a;obtain⟨u2,o,h⟩:=c 5 _ 26 rfl rfl (by decide +kernel);replace h:u2=_:=h;subst h;simp [go_sem,Oper.wp,execOp,Act.eval,b,o];exact⟨_,rfl,(θ).alloc lQ _,r.heap.size,rfl,by simp [go_sem],by simp [go_sem]⟩
    · obtain⟨u1,b,Z,e1,x0,x1⟩:=c 6 _ 27 rfl rfl (by decide +kernel);subst e1;have hr:=V r Z x0 x1;simp [go_sem,Oper.wp,execOp,Act.eval,b,hr];exact⟨_,rfl,θ,rfl⟩
    · obtain⟨u1,b,a⟩:=c 7 _ 28 rfl rfl (by decide +kernel);replace a:u1=_:=a;subst a;simp [go_sem,Oper.wp,execOp,Act.eval,b];exact⟨_,rfl,θ,rfl⟩
    · have b:=x 1 _ rfl (by decide +kernel);simp [go_sem,Oper.wp,execOp,Act.eval,b];exact⟨_,rfl,θ,rfl⟩
    · obtain⟨u1,b,a⟩:=c 9 _ 30 rfl rfl (by decide +kernel);replace a:u1=_:=a;subst a;have j:=gH I l;simp [go_sem,Oper.wp,execOp,Act.eval,b,j];exact⟨_,rfl,θ,rfl⟩
    · obtain⟨u1,b,a⟩:=c 10 _ 31 rfl rfl (by decide +kernel);replace a:u1=_:=a;subst a;simp [go_sem,Oper.wp,execOp,Act.eval,b];exact⟨_,rfl,θ,rfl⟩
    · obtain⟨u1,b,a⟩:=c 11 _ 32 rfl rfl (by decide +kernel);replace a:u1=_:=a;subst a;simp [go_sem,Oper.wp,execOp,Act.eval,b,wp];exact⟨_,rfl,θ,rfl⟩
    · obtain⟨u1,b,a⟩:=c 12 _ 33 rfl rfl (by decide +kernel);replace a:u1=_:=a;subst a;simp [go_sem,Oper.wp,execOp,Act.eval,b];refine (Bt _ _ (by omega) (by omega)).mono ?_;rintro e d ⟨rfl,u⟩;exact⟨_,rfl,u,rfl⟩
    · obtain⟨u1,b,a⟩:=c 8 _ 29 rfl rfl (by decide +kernel);replace a:u1=_:=a;subst a;obtain⟨u2,o,h⟩:=c 13 _ 34 rfl rfl (by decide +kernel);replace h:u2=_:=h;subst h;simp [go_sem,Oper.wp,execOp,Act.eval,b,o,c1];exact⟨_,rfl,θ,rfl⟩
    · have b:=x 1 _ rfl (by decide +kernel);simp [go_sem,Oper.wp,execOp,Act.eval,b];exact⟨_,rfl,θ,rfl⟩
    · obtain⟨u1,b,a⟩:=c 15 _ 36 rfl rfl (by decide +kernel);replace a:u1=_:=a;subst a;have j:=gH I l;simp [go_sem,Oper.wp,execOp,Act.eval,b,j];exact⟨_,rfl,θ,rfl⟩
    · obtain⟨u1,b,a⟩:=c 14 _ 35 rfl rfl (by decide +kernel);replace a:u1=_:=a;subst a;obtain⟨u2,o,h⟩:=c 16 _ 37 rfl rfl (by decide +kernel);replace h:u2=_:=h;subst h;simp [go_sem,Oper.wp,execOp,Act.eval,b,o,c2];exact⟨_,rfl,θ,rfl⟩
    · obtain⟨u1,b,a⟩:=c 17 _ 38 rfl rfl (by decide +kernel);replace a:u1=_:=a;subst a;simp [go_sem,Oper.wp,execOp,Act.eval,b];exact⟨_,rfl,θ,rfl⟩
  · intro X r z;obtain⟨f,aa,M⟩:=z.frame' [21,22,23,24,25,26,27,28,29,30,31,32,33,34,35,36,37,38,4] rfl;have r4:f 4=_:=M 18 _ 4 rfl rfl;have l:=z.le;clear z M;subst aa;simp only [List.foldl_cons,List.foldl_nil,List.setIfInBounds_toArray,List.set_cons_succ,List.set_cons_zero,r4];clear r4
    go_wp2_with fail
    go_meet
    exact⟨_,rfl,by
     simp only [ByteArray.toList_data_append,BJ];have e:p.data.toList.length=p.size:=by rw [Array.length_toList]; rfl
     rw [e]; simp,K.trans (l.mono K.size)⟩
 case rest=>
  obtain⟨S,rfl,J,y⟩:=hcut;have G:=ω J
  have ab:S.size<=6015:=by
   have b:=H.z;rw [<- G.z] at b;have e:p.data.toList.length=p.size:=by rw [Array.length_toList]; rfl
   have e2:S.data.toList.length=S.size:=by rw [Array.length_toList]; rfl
   omega
  clear J H
  go_wp2_with fail
  refine Calls.mono (DF S _ (by omega)) ?_;rintro e w2 ⟨rfl,L⟩;have u:=y.trans (L.mono y.size);clear y L;have ac:(pC S.data.toList).length<=4:=Nat.le_refl 4;have Y:=ω (i.z (S ++ ⟨(pC S.data.toList).toArray⟩) w2 (by rw [ByteArray.toList_data_append,G.z]; rfl) u);clear i u;go_wp2;go_ret2;exact Y
theorem PK (base g p:Nat) (l:List UInt8) (x:aC) (w:World) (d:uz x) (h:gA w base g l) (u:l.length<=90000000) (b:Blk w p 237 #[π g 0]) :
 ψ 164 #[.agg (aS x).toArray,π p 0] w (iJ base g (l ++ eP x 3) w):=by
 have o:=ω d;obtain⟨e,j,i,m,k⟩:=x;generalize c:l ++ eP _ 3=K;have n:=ω c;unfold aS;have a:=ω (WGo.start h 86 #[e,j,i,m,k] (by decide));have z:ζ w p 0 (π g 0):=b.cell 0;have v:=b.lt;clear h d b c;go_enter Tryz.func164,Tryz.ntmps164
 go_wp2_with fail
 refine Calls.mono (LE base g _ ⟨e,j,i,m,k⟩ 3 _ (by decide) (by decide) o.z a.ok (by have:=a.len; omega)) ?_;rintro s y ⟨rfl,ok1,r⟩;rw [n.z] at ok1;have q:=a.keep.trans r;go_wp2;go_end0;exact⟨rfl,ok1,q⟩
theorem NR (base g p:Nat) (l:List UInt8) (x:av) (w:World) (d:qh x) (h:gA w base g l) (r:l.length<=90000000) (b:Blk w p 237 #[π g 0]) :
 ψ 167 #[.agg (aH x).toArray,π p 0] w (iJ base g (l ++ cW x 3) w):=by
 have m:=ω d;obtain⟨e,i,j⟩:=x;generalize c:l ++ cW _ 3=K;have k:=ω c;unfold aH;have a:=ω (WGo.start h 81 #[e,i,j] (by decide));have v:ζ w p 0 (π g 0):=b.cell 0;have s:=b.lt;clear h d b c;go_enter Tryz.func167,Tryz.ntmps167
 go_wp2_with fail
 refine Calls.mono (It base g _ ⟨e,i,j⟩ 3 _ (by decide) m.z a.ok (by have:=a.len; omega)) ?_;rintro q u ⟨rfl,ok1,o⟩;rw [k.z] at ok1;have n:=a.keep.trans o;go_wp2;go_end0;exact⟨rfl,ok1,n⟩
theorem qU :
 (∀ (base g p:Nat) (l:List UInt8) (xs:List aC) (A:Option Addr) (n c:Nat) (w:World) (j:bg w base 5 A n (au aS xs)) (a:xs.length=n) (F:n<=1000000) (e:∀ x ∈ xs,uz x) (h:gA w base g l) (D:l.length<=1000000) (G:Blk w p 237 #[π g 0]) (H:p≠g),ψ 163 #[π g 0,.slice A n c,.func (.func 164) #[] #[π p 0]] w (iJ base g (l ++ fY (fun x=>eP x 3) xs) w)) /\
 (∀ (base g p:Nat) (l:List UInt8) (xs:List av) (A:Option Addr) (n c:Nat) (w:World) (j:bg w base 3 A n (au aH xs)) (a:xs.length=n) (F:n<=1000000) (e:∀ x ∈ xs,qh x) (h:gA w base g l) (D:l.length<=1000000) (G:Blk w p 237 #[π g 0]) (H:p≠g),ψ 166 #[π g 0,.slice A n c,.func (.func 167) #[] #[π p 0]] w (iJ base g (l ++ fY (fun x=>cW x 3) xs) w)) /\
 (∀ (base g p:Nat) (l:List UInt8) (xs:List ByteArray) (A:Option Addr) (n c:Nat) (w:World) (j:bg w base 1 A n (au kQ xs)) (a:xs.length=n) (F:n<=1000000) (e:∀ x ∈ xs,x.size<=9223372036854775807) (h:gA w base g l) (D:l.length<=1000000),ψ 171 #[π g 0,.slice A n c,.func (.func 172) #[π g 0] #[]] w (iJ base g (l ++ fY dU xs) w)):=by
 refine⟨@fun base g p l xs A n c w j a F e h D G H=>(fun(m ag:Unit)=>?_) () (),@fun base g p l xs A n c w j a F e h D G H=>(fun(o ag:Unit)=>?_) () (),@fun base g p l xs A n c w j a F e h D=>(fun(b:Unit)=>?_) ()⟩<;>(
 first|(guard_hyp m;have V:=@aU)|(guard_hyp o;have V:=@aO)|(have V:=@gE)
 first
  |(
   guard_hyp m
   have s:∀ k,((xs.take k).flatMap (fun x=>eP x 3)).length<=85*n:=fun k=>by
    have h1:=iT (enc:=fun x=>eP x 3) (fun x=>mH _ 3) (xs.take k);have h2:(xs.take k).length<=n:=by rw [List.length_take]; omega
    omega)
  |(
   guard_hyp o
   have s:∀ k,((xs.take k).flatMap (fun x=>cW x 3)).length<=85*n:=fun k=>by
    have h1:=iT (enc:=fun x=>cW x 3) (fun x=>kS _ 3) (xs.take k);have h2:(xs.take k).length<=n:=by rw [List.length_take]; omega
    omega)
  |(
   guard_hyp b
   have s:∀ k,((xs.take k).flatMap dU).length<=85*n:=fun k=>by
    have h1:=iT (enc:=dU) (by have:=dw; intro x; have:=this x; omega) (xs.take k);have h2:(xs.take k).length<=n:=by rw [List.length_take]; omega
    omega)
 have af:=bT n
 first
  |(
   guard_hyp m
   have L:=ω (show ∀ k,(l ++ bf n ++ (xs.take k).flatMap (fun x=>eP x 3)).length<=90000000 from fun k=>by have:=s k; simp only [List.length_append]; omega);have R:=ω (show l ++ fY (fun x=>eP x 3) xs=l ++ bf n ++ (xs.take n).flatMap (fun x=>eP x 3) from by unfold fY; rw [<- a,List.take_length,List.append_assoc]))
  |(
   guard_hyp o
   have L:=ω (show ∀ k,(l ++ bf n ++ (xs.take k).flatMap (fun x=>cW x 3)).length<=90000000 from fun k=>by have:=s k; simp only [List.length_append]; omega);have R:=ω (show l ++ fY (fun x=>cW x 3) xs=l ++ bf n ++ (xs.take n).flatMap (fun x=>cW x 3) from by unfold fY; rw [<- a,List.take_length,List.append_assoc]))
  |(
   guard_hyp b
   have L:=ω (show ∀ k,(l ++ bf n ++ (xs.take k).flatMap dU).length<=90000000 from fun k=>by have:=s k; simp only [List.length_append]; omega);have R:=ω (show l ++ fY dU xs=l ++ bf n ++ (xs.take n).flatMap dU from by unfold fY; rw [<- a,List.take_length,List.append_assoc]))
 have HN:=ω (p8 base g l (n:Int) w (by omega) h (by omega));have Hw:=ω e;have Hl:=ω a;have Hx:=ω j;have Ho:=ω h
 first
  |(
   guard_hyp ag
   have Hp:=ω G;clear e a j h s af G)
  |(
   guard_hyp b
   clear e a j h s af)
 first|(guard_hyp m;go_enter Tryz.func163,Tryz.ntmps163)|(guard_hyp o;go_enter Tryz.func166,Tryz.ntmps166)|go_enter Tryz.func171,Tryz.ntmps171
 go_wp2_with fail
 refine HN.mono ?_;rintro q w0 ⟨rfl,ok0,k0⟩;rw [show ((n:Int)).toNat=n from by omega] at ok0;have ah:=ω ok0;have K0:=ω k0;clear ok0 k0;go_wp2
 first
  |(
   guard_hyp m
   go_loopw [7,14] (fun _ i wr=>tS (fun x=>eP x 3) xs n base g l w i wr) (fun _ i _=>n - (intOf i).toNat))
  |(
   guard_hyp o
   go_loopw [7,14] (fun _ i wr=>tS (fun x=>cW x 3) xs n base g l w i wr) (fun _ i _=>n - (intOf i).toNat))
  |(
   guard_hyp b
   go_loopw [7,14] (fun _ i wr=>tS dU xs n base g l w i wr) (fun _ i _=>n - (intOf i).toNat))
 case atStart=>exact⟨0,Nat.zero_le _,rfl,by simpa using ah.z,K0⟩
 case round=>
  obtain⟨k,hk,rfl,T,S⟩:=hrel;have O:=ω T;have u:=ω S;have al:=T.size;have M:=Ho.keep S;clear T S;by_cases hlt:k<n
  · obtain⟨x,d⟩:∃ x,xs[k]? = some x:=⟨_,δ (by rw [Hl.z]; exact hlt)⟩;obtain⟨ae,ai,rfl,aj,v⟩:=(Hx.below M).dL V Hl.z d;have U:=ω (Hw.z x (m8 d))
    first
     |(
      guard_hyp m
      have z:=ω (iU (fun x=>eP x 3) d);obtain⟨X,B⟩:∃ X,X=x:=⟨_,rfl⟩;have HX:=ω B;obtain⟨r,Y,W,ab,aa⟩:=x;obtain⟨c0,c1,c2,c3,c4⟩:=rc5 v;clear v d B M)
     |(
      guard_hyp o
      have z:=ω (iU (fun x=>cW x 3) d);obtain⟨X,B⟩:∃ X,X=x:=⟨_,rfl⟩;have HX:=ω B;obtain⟨r,Z,ac⟩:=x;obtain⟨c0,c1,c2⟩:=rc3 v;clear v d B M)
     |(
      guard_hyp b
      have z:=ω (iU dU d);have c0:ζ wr ae (ai+k*1) (.string x):=v 0 _ rfl;rw [Nat.mul_one] at c0;clear v d M)
    have ak:ae<wr.heap.size:=by omega
    first
     |(
      guard_hyp m
      have C:Below wr wr (χ wr #[r,Y,W,ab,aa] 86):=(θ).alloc lQ _)
     |(
      guard_hyp o
      have C:Below wr wr (χ wr #[r,Z,ac] 81):=(θ).alloc lQ _)
     |skip
    first|(guard_hyp b;have J:=ω O.z)|have ad:=ω C
    first|(guard_hyp b;have K:=ω (L.z k))|have J:=ω (O.below C)
    first
     |(
      guard_hyp b
      go_wp2_with fail
      refine Calls.mono (qx base g _ x _ U.z J.z (by have:=K.z; omega)) ?_;rintro q I ⟨rfl,ok1,y⟩)
     |skip
    first|(guard_hyp b;have N:=ω (u.trans y))|have K:=ω (L.z k)
    first
     |(
      guard_hyp m
      have P:=ω ((u.blk Hp.z (by decide) (by intro q; subst q; exact H rfl)).alloc (.cells #[r,Y,W,ab,aa] 86));clear C
      go_wp2_with fail
      refine Calls.mono (PK base g p _ ⟨r,Y,W,ab,aa⟩ _ U.z J.z K.z P.z) ?_;rintro q I ⟨rfl,ok1,y⟩;have N:=ω (u.trans ((dF.of_below ad.z).trans y));have Q:=ω (show gA I base g (l ++ bf n ++ (xs.take (k+1)).flatMap (fun x=>eP x 3)) from by rw [z.z,<- List.append_assoc]; exact ok1))
     |(
      guard_hyp o
      have P:=ω ((u.blk Hp.z (by decide) (by intro q; subst q; exact H rfl)).alloc (.cells #[r,Z,ac] 81));clear C
      go_wp2_with fail
      refine Calls.mono (NR base g p _ ⟨r,Z,ac⟩ _ U.z J.z K.z P.z) ?_;rintro q I ⟨rfl,ok1,y⟩;have N:=ω (u.trans ((dF.of_below ad.z).trans y));have Q:=ω (show gA I base g (l ++ bf n ++ (xs.take (k+1)).flatMap (fun x=>cW x 3)) from by rw [z.z,<- List.append_assoc]; exact ok1))
     |(
      guard_hyp b
      have Q:=ω (show gA I base g (l ++ bf n ++ (xs.take (k+1)).flatMap dU) from by rw [z.z,<- List.append_assoc]; exact ok1))
    clear ok1 y;go_wp2
    go_roundw
    case rel=>exact⟨k+1,by omega,by go_num,Q,N⟩
    case measure=>simp [intOf]; omega
  · obtain rfl:k=n:=by omega
    go_wp2;go_end0;exact⟨rfl,by rw [R.z]; exact O.z,u⟩)
end Go.Proofs.YtimglglgcgpjgabGreatDoor
