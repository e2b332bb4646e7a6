/- Of the proof of a statement: PlSrv, SvOwn, RBytes. -/
import Derived.Lib.QuietBelow
import Derived.Test.YtimglglgcgpjgaaGreatDoorQFrsR
set_option linter.unusedVariables false
set_option linter.unusedSimpArgs false
set_option maxRecDepth 100000
set_option maxHeartbeats 8000000
namespace Go.Proofs.YtimglglgcgpjgaaGreatDoor
open Go.Op (bytesLess)
open Go.RowKit
section
variable {α:Type} {E:α->Int} {key:α->ByteArray}
theorem Cu:∀ (p:Option ByteArray) (l:List α),(∀ x ∈ l,E x=0/\before p (key x)=true)->cH key l->eG E key p l=0
 | _,[],_,_=>rfl
 | p,x :: l,h,e=>by
  obtain⟨c,d⟩:=List.pairwise_cons.1 e;have a:=h x List.mem_cons_self;unfold eG;rw [if_pos a.1,if_pos a.2];exact Cu (some (key x)) l (fun y b=>⟨(h y (List.mem_cons_of_mem _ b)).1,c y b⟩) d
theorem Fe {l:List α}:cE E key l=0↔(∀ x ∈ l,E x=0)/\cH key l:=
 ⟨fun h=>⟨fun x a=>fC h a,kH h⟩,fun h=>Cu none l (fun x a=>⟨h.1 x a,rfl⟩) h.2⟩
theorem Bt {b:α->Int} {l a:List α} (h:cE E key l=0) (c:a.Sublist l) (g:∀ x ∈ a,E x=0->b x=0):cE b key a=0:=by
 obtain⟨e,f⟩:=Fe.1 h;exact Fe.2 ⟨fun x d=>g x d (e x (c.subset d)),List.Pairwise.sublist c f⟩
end
theorem cV {st:ah}:aE st=0↔ranged st.rev 0 1099511627776=true/\dR st=true/\cE fS aC.name st.jobs=0/\cE dP av.name st.nodes=0/\cE (dN st) ak.job st.leases=0/\lU st=true:=by
 unfold aE;constructor
 · intro h
   split at h
   · omega
   split at h
   · omega
   split at h
   · omega
   split at h
   · omega
   split at h
   · omega
   split at h
   · rename_i a b c d e f
     exact⟨by simpa using a,by simpa using b,Decidable.not_not.1 c,Decidable.not_not.1 d,Decidable.not_not.1 e,f⟩
   · omega
 · rintro⟨a,b,c,d,e,f⟩;rw [if_neg (by rw [a]; decide),if_neg (by rw [b]; decide),if_neg (by rw [c]; decide),if_neg (by rw [d]; decide),if_neg (by rw [e]; decide),if_pos f]
theorem yO {st st':ah} (c:uh st) (s:ByteArray):∀ {d l:List ak},d.Sublist l->(∀ x ∈ d,fV st' x s=fV st x s)->fX st' s d<=fX st s l
 | _,_,.slnil,_=>Int.le_refl _
 | _,_,.cons a h,b=>by
  have f:=yO c s h b;have:=(wQ c a s).1
  show _<=fV st a s+fX st s _
  omega
 | _,_,.cons_cons a h,b=>by
  have f:=yO c s h (fun x e=>b x (List.mem_cons_of_mem _ e));have:=b a List.mem_cons_self
  show fV st' a s+fX st' s _<=fV st a s+fX st s _
  omega
theorem Bu {st st':ah} (h:st'.jobs=st.jobs) (s:ByteArray):∀ l:List ak,fX st' s l=fX st s l
 | []=>rfl
 | a :: l=>by
  show fV st' a s+fX st' s l=fV st a s+fX st s l
  rw [Bu h s l];unfold fV;rw [h]
theorem uz {st st':ah} (h:aE st=0) (q:st'.rev=st.rev) (k:st'.jobs.Sublist st.jobs) (d:st'.nodes.Sublist st.nodes) (c:st'.leases.Sublist st.leases)
 (e:∀ l ∈ st'.leases,cC st'.jobs l.job=cC st.jobs l.job/\bU st'.nodes l.node=bU st.nodes l.node):aE st'=0:=by
 obtain⟨m,f,g,o,p,b⟩:=cV.1 h;refine cV.2 ⟨by rw [q]; exact m,?_,Bt g k (fun _ _ h=>h),Bt o d (fun _ _ h=>h),Bt p c (fun l a j=>?_),?_⟩
 · unfold dR at f |-;simp only [Bool.and_eq_true,decide_eq_true_eq] at f |-;have s:=k.length_le;have t:=d.length_le;have u:=c.length_le;omega
 · unfold dN at j |-;rw [(e l a).1,(e l a).2];exact j
 · unfold lU at b |-;rw [List.all_eq_true] at b |-;intro n a;have i:=b n (d.subset a);simp only [decide_eq_true_eq] at i |-;refine Int.le_trans ?_ i;unfold rV;refine yO (AS g) n.name c fun x r=>?_;unfold fV;rw [(e x r).1]
theorem tP {α:Type} (key:α->ByteArray) (s q:ByteArray) (h:s≠q):∀ l:List α,(l.filter fun a=>!decide (key a=q)).find? (fun a=>decide (key a=s))=l.find? fun a=>decide (key a=s)
 | []=>rfl
 | a :: l=>by
  have c:=tP key s q h l;by_cases e:key a=q
  · have b:¬ key a=s:=fun b=>h (b.symm.trans e);rw [List.filter_cons,List.find?_cons,decide_eq_true e,decide_eq_false b];simpa using c
  · rw [List.filter_cons,decide_eq_false e];simp only [Bool.not_false,if_true];rw [List.find?_cons,List.find?_cons,c]
theorem GG {st:ah} (h:aE st=0) (s:ByteArray):aE (nB st s)=0:=by
 refine uz h rfl List.filter_sublist (List.Sublist.refl _) List.filter_sublist fun l a=>⟨?_,rfl⟩;have:=(List.mem_filter.1 a).2;exact tP aC.name l.job s (by simpa using this) _
theorem GH {st:ah} (h:aE st=0) (s:ByteArray):aE (nC st s)=0:=by
 refine uz h rfl (List.Sublist.refl _) List.filter_sublist List.filter_sublist fun l a=>⟨rfl,?_⟩;have:=(List.mem_filter.1 a).2;exact tP av.name l.node s (by simpa using this) _
theorem GI {st:ah} (h:aE st=0) (s:ByteArray):aE (mR st s)=0:=
 uz h rfl (List.Sublist.refl _) (List.Sublist.refl _) List.filter_sublist fun _ _=>⟨rfl,rfl⟩
theorem GJ {st:ah} (h:aE st=0) (t:Int):aE (nF st t)=0:=
 uz h rfl (List.Sublist.refl _) (List.Sublist.refl _) List.filter_sublist fun _ _=>⟨rfl,rfl⟩
def nextR (st:ah) (now:Int) (q:aK):Int × ah × Int:=
 if q.kind=1 then (aE (mJ st q.job),mJ st q.job,now)
 else if q.kind=2 then (aE (mK st q.node),mK st q.node,now)
 else if q.kind=3 then (if (cC st.jobs q.name).isSome=true then (aE (nB st q.name),nB st q.name,now) else (6,st,now))
 else if q.kind=4 then (if (bU st.nodes q.name).isSome=true then (aE (nC st q.name),nC st q.name,now) else (6,st,now))
 else if q.kind=5 then (match cC st.jobs q.lease.job with
  | none=>(6,st,now)
  | some j=>if (bU st.nodes q.lease.node).isSome=false then (6,st,now)
   else if (cD st.leases q.lease.job).isSome=true then (7,st,now)
   else if q.lease.till<=now then (1,st,now)
   else if 100<j.tries+1 then (2,st,now)
   else (aE (j5 st j q.lease),j5 st j q.lease,now))
 else if q.kind=6 then (if (cD st.leases q.name).isSome=true then (aE (mR st q.name),mR st q.name,now) else (6,st,now))
 else if q.kind=7 then (if 1099511627776<now+q.n then (1,st,now+q.n) else (aE (nF st (now+q.n)),nF st (now+q.n),now+q.n))
 else (aE st,st,now)
theorem wT {st:ah} (h:aE st=0):∀ j ∈ st.jobs,0<=j.tries/\j.tries<=100:=fun _ a=>(oX (fC (cV.1 h).2.2.1 a)).2.2.2.2
theorem Ip {st:ah} (h:aE st=0) (now:Int) (q:aK):(nextR st now q).1=(doR st now q).1/\((doR st now q).1=0->nextR st now q=doR st now q):=by
 unfold nextR doR
 split
 · exact⟨rfl,fun _=>rfl⟩
 split
 · exact⟨rfl,fun _=>rfl⟩
 split
 · split
   · rw [GG h]; exact⟨rfl,fun _=>rfl⟩
   · exact⟨rfl,fun h=>by cases h⟩
 split
 · split
   · rw [GH h]; exact⟨rfl,fun _=>rfl⟩
   · exact⟨rfl,fun h=>by cases h⟩
 split
 · unfold oG
   cases c:cC st.jobs q.lease.job with
   | none=>exact⟨rfl,fun _=>rfl⟩
   | some j=>
    dsimp only
    split
    · exact⟨rfl,fun _=>rfl⟩
    split
    · exact⟨rfl,fun _=>rfl⟩
    split
    · exact⟨rfl,fun _=>rfl⟩
    have d:=wT h j (List.mem_of_find?_eq_some c);by_cases a:j.tries=100
    · rw [if_pos (by omega),if_pos a]; exact⟨rfl,fun _=>rfl⟩
    · rw [if_neg (by omega),if_neg a]; exact⟨rfl,fun _=>rfl⟩
 split
 · split
   · rw [GI h]; exact⟨rfl,fun _=>rfl⟩
   · exact⟨rfl,fun h=>by cases h⟩
 split
 · by_cases b:1099511627776<now+q.n
   · rw [if_pos b,if_pos (by omega)]; exact⟨rfl,fun h=>by cases h⟩
   · rw [if_neg b,if_neg (by omega),GJ h]; exact⟨rfl,fun _=>rfl⟩
 · rw [h]; exact⟨rfl,fun _=>rfl⟩
def tK (st:ah):ah:=⟨st.rev+1,st.jobs,st.nodes,st.leases⟩
def lM (a b:ah):Prop:=a.jobs=b.jobs/\a.nodes=b.nodes/\a.leases=b.leases
noncomputable def lG (st:ah) (now:Int) (q:aK):Int × ah × Int:=if cO q=0 then doR st now q else (cO q,st,now)
structure lF where
 e:Int
 ch:Bool
 st:ah
 now:Int
open Classical in
noncomputable def lO (st:ah) (now:Int) (R:Int × ah × Int):lF:=
 if R.1=0 then (if lM st R.2.1 then ⟨0,false,st,R.2.2⟩
  else if 1099511627776<st.rev+1 then ⟨2,false,st,now⟩ else ⟨0,true,tK R.2.1,R.2.2⟩)
 else ⟨R.1,false,st,now⟩
theorem wU (st:ah) (now:Int) (q:aK):(doR st now q).2.1.rev=st.rev:=by
 unfold doR oG
 repeat' split
 all_goals rfl
theorem qU {st:ah} (h:aE st=0) {now:Int} {q:aK} (f:(doR st now q).1=0):aE (doR st now q).2.1=0:=by
 have e:=Ip h now q;rw [f] at e;rw [<- e.2 rfl];have a:=e.1;clear f e;unfold nextR at a |-
 split at a
 · rename_i b; rw [if_pos b]; exact a
 rename_i b; rw [if_neg b]
 split at a
 · rename_i b; rw [if_pos b]; exact a
 rename_i b; rw [if_neg b]
 split at a
 · rename_i b; rw [if_pos b]
   split at a
   · rename_i d; rw [if_pos d]; exact a
   · cases a
 rename_i b; rw [if_neg b]
 split at a
 · rename_i b; rw [if_pos b]
   split at a
   · rename_i d; rw [if_pos d]; exact a
   · cases a
 rename_i b; rw [if_neg b]
 split at a
 · rename_i b; rw [if_pos b]
   cases g:cC st.jobs q.lease.job with
   | none=>rw [g] at a; cases a
   | some j=>
    rw [g] at a;dsimp only at a |-
    split at a
    · cases a
    rename_i c; rw [if_neg c]
    split at a
    · cases a
    rename_i c; rw [if_neg c]
    split at a
    · cases a
    rename_i c; rw [if_neg c]
    split at a
    · cases a
    rename_i c; rw [if_neg c]
    exact a
 rename_i b; rw [if_neg b]
 split at a
 · rename_i b; rw [if_pos b]
   split at a
   · rename_i d; rw [if_pos d]; exact a
   · cases a
 rename_i b; rw [if_neg b]
 split at a
 · rename_i b; rw [if_pos b]
   split at a
   · cases a
   · rename_i d; rw [if_neg d]; exact a
 rename_i b; rw [if_neg b]
 exact a
theorem vL {st:ah} (h:aE st=0) (i:¬ 1099511627776<st.rev+1):aE (tK st)=0:=by
 obtain⟨b,c,d,e,f,a⟩:=cV.1 h;have g:=aM.1 b;refine cV.2 ⟨aM.2 ⟨by show 0<=st.rev+1; omega,by show st.rev+1<=1099511627776; omega⟩,c,d,e,f,?_⟩;unfold lU rV at a |-;simp only [Bu (show (tK st).jobs=st.jobs from rfl)];exact a
theorem Il {st:ah} {now:Int} {q:aK} (h:aE st=0) (f:0<=now/\now<=1099511627776):aE (lO st now (lG st now q)).st=0/\0<=(lO st now (lG st now q)).now/\(lO st now (lG st now q)).now<=1099511627776:=by
 unfold lO
 split
 · rename_i a
   have b:cO q=0:=by
    unfold lG at a
    split at a
    · assumption
    · exact a
   have ha:lG st now q=doR st now q:=by unfold lG; rw [if_pos b]
   rw [ha] at a |-;have i:=qU h a;have j:=wU st now q
   have g:0<=(doR st now q).2.2/\(doR st now q).2.2<=1099511627776:=by
    by_cases e:q.kind=7
    · have d:eQ q=0:=by
       unfold cO at b
       split at b
       · cases b
       split at b
       · cases b
       exact b
      have c:ranged q.n 0 1099511627776=true:=by
       unfold eQ at d;rw [e] at d;simp only [show ¬ (7:Int)=1 from by decide,show ¬ (7:Int)=2 from by decide,show ¬ (7:Int)=3 from by decide,show ¬ (7:Int)=4 from by decide,show ¬ (7:Int)=5 from by decide,show ¬ (7:Int)=6 from by decide,or_false,if_false,if_true] at d;by_cases c:ranged q.n 0 1099511627776=true
       · exact c
       · rw [if_neg c] at d; cases d
      have c:=aM.1 c;unfold doR at a |-;simp only [e,show ¬ (7:Int)=1 from by decide,show ¬ (7:Int)=2 from by decide,show ¬ (7:Int)=3 from by decide,show ¬ (7:Int)=4 from by decide,show ¬ (7:Int)=5 from by decide,show ¬ (7:Int)=6 from by decide,if_false,if_true] at a |-
      split at a
      · cases a
      · rename_i hlt
        rw [if_neg hlt];dsimp only;omega
    · have:(doR st now q).2.2=now:=by
       unfold doR oG
       repeat' split
       all_goals first | rfl | (exfalso; exact e ‹_›)
      rw [this]; exact f
   split
   · exact⟨h,g⟩
   split
   · exact⟨h,f⟩
   · rename_i k c
     exact⟨vL i (by rw [j]; exact c),g⟩
 · exact⟨h,f⟩
def Me (B:Nat) (x a:StA):Nat->Value->Prop
 | 0,u=>u = π B 1
 | 1,u=>u = .slice x.aj x.nj x.cj
 | 2,u=>u = .slice a.aj x.nj a.cj
 | 3,u=>u = π B 2
 | 4,u=>u = .slice x.an x.nn x.cn
 | 5,u=>u = .slice a.an x.nn a.cn
 | 6,u=>u = π B 3
 | 7,u=>u = .slice x.al x.nl x.cl
 | 8,u=>u = .slice a.al x.nl a.cl
 | 9,u=>u = π B 1
 | 11,u=>u = π B 2
 | 13,u=>u = π B 3
 | _,_=>True
structure GK (w0:World) (st:ah) (x γ:StA) (c k:Nat) (w:World):Prop where
 below:Below w0 w0 w
 blk:Blk w w0 26 #[st.rev,if 0<k then .slice γ.aj x.nj γ.cj else .slice x.aj x.nj x.cj,if 1<k then .slice γ.an x.nn γ.cn else .slice x.an x.nn x.cn,if 2<k then .slice γ.al x.nl γ.cl else .slice x.al x.nl x.cl]
 res:Blk w (w0.heap.size+1) 26 lP
 j:0<c->w.ownsRow (w0.heap.size+2) 85 5 (.slice γ.aj x.nj γ.cj) x.nj (au aS st.jobs)
 n:1<c->w.ownsRow (w0.heap.size+2) 70 3 (.slice γ.an x.nn γ.cn) x.nn (au aH st.nodes)
 l:2<c->w.ownsRow (w0.heap.size+2) 66 3 (.slice γ.al x.nl γ.cl) x.nl (au aB st.leases)
def Pi (w0:World) (st:ah) (x:StA) (p:Nat) (a:StA) (w:World):Prop:=GK w0 st x a p (p - 3) w
theorem Bv {B:Nat} {x b c:StA} (d:Nat) (i:d≠2->c.aj=b.aj/\c.cj=b.cj) (k:d≠5->c.an=b.an/\c.cn=b.cn) (l:d≠8->c.al=b.al/\c.cl=b.cl):∀ j v,j≠d->Me B x b j v->Me B x c j v:=by
 intro j v a h
 match j,a,h with
 | 0,_,h=>exact h
 | 1,_,h=>exact h
 | 2,a,h=>obtain⟨f,g⟩:=i (fun e=>a e.symm); exact (show v=_ by rw [f,g]; exact h)
 | 3,_,h=>exact h
 | 4,_,h=>exact h
 | 5,a,h=>obtain⟨f,g⟩:=k (fun e=>a e.symm); exact (show v=_ by rw [f,g]; exact h)
 | 6,_,h=>exact h
 | 7,_,h=>exact h
 | 8,a,h=>obtain⟨f,g⟩:=l (fun e=>a e.symm); exact (show v=_ by rw [f,g]; exact h)
 | 9,_,h=>exact h
 | 10,_,_=>trivial
 | 11,_,h=>exact h
 | 12,_,_=>trivial
 | 13,_,h=>exact h
 | _+14,_,_=>trivial
def Ff (st:ah) (x:StA) (w:World) (e:Ending) (w':World):Prop:=
 ∃ a:StA,e = .returned (.agg (stC st a))/\a.nj=x.nj/\a.nn=x.nn/\a.nl=x.nl/\StOwn w' (w.heap.size+2) st a/\Below w w w'
theorem Bs (st:ah) (x:StA) (w:World) (O:StAt w w st x) (q:x.nj<=1000) (X:x.nn<=1000) (Y:x.nl<=1000) :
 ψ 38 #[.agg (stC st x)] w (Ff st x w):=by
 have J:Below w w (χ w (stC st x) 26):=(θ).alloc lJ _;have P:=J.alloc J.size (.cells lP 26)
 have L:GK w st x x 0 0 (((w.alloc (.cells (stC st x) 26)).alloc (.cells lP 26))).drew:=
  { below:=P.drew
    blk:=Blk.alloc (show Blk _ _ _ _ from n5 w _) _
    res:=by
     have h:=n5 (χ w (stC st x) 26) (.cells lP 26);rw [show (w.alloc (.cells (stC st x) 26)).heap.size=w.heap.size+1 by simp] at h;exact h
    j:=fun h=>absurd h (by omega)
    n:=fun h=>absurd h (by omega)
    l:=fun h=>absurd h (by omega) }
 have p:=ω O;clear J P O;go_enter Tryz.func38,Tryz.ntmps38;unfold stC at *
 go_wp2_with fail
 refine kZ (n:=16) (by kernel_rfl) (Me w x) [2,5,8,10,12,14] (Pi w st x) x (by decide +kernel) (by decide +kernel) rfl L ?_ ?_
 · refine⟨?_,?_,?_,?_,?_,?_,?_,?_,?_,?_,?_,?_,?_,?_,?_,trivial⟩
   · refine⟨rfl,.inr ⟨by decide,0,6,by decide +kernel,by decide +kernel,fun z b m c _ y a e=>?_⟩⟩;have q:=e.k 1 rfl;simp [go_sem,Oper.wp,execOp,Act.eval,q];exact⟨_,rfl,rfl,a⟩
   · refine⟨rfl,.inr ⟨by decide,0,0,by decide +kernel,by decide +kernel,fun z b m c _ y a e=>?_⟩⟩;obtain⟨u1,i,d⟩:=e.g 0 3 rfl rfl;replace d:u1=_:=d;subst d
     have r:ζ c w 1 (.slice x.aj x.nj x.cj):=by
      have h:=a.blk.cell 1;simp only [List.getElem?_toArray,List.getElem?_cons_succ,List.getElem?_cons_zero] at h;rw [h,if_neg (by omega)]
     simp [go_sem,Oper.wp,execOp,Act.eval,i,r];exact⟨_,rfl,rfl,a⟩
   · refine⟨rfl,.inl ⟨0,rfl,fun b m c a e=>?_⟩⟩;obtain⟨u1,i,d⟩:=e.g 1 4 rfl rfl;replace d:u1=_:=d;subst d;simp [go_sem,Oper.wp,execOp,Act.eval,i];refine (sW.1 st.jobs x.aj x.nj x.cj c (p.j.below a.below |>.more a.below.size) p.lj (by omega)).mono ?_;rintro M Q ⟨B,C,rfl,u,o⟩;rw [p.z.lj] at u |-;exact⟨_,rfl,{ b with aj:=B,cj:=C },Bv 2 (fun h=>absurd rfl h) (fun _=>⟨rfl,rfl⟩) (fun _=>⟨rfl,rfl⟩),rfl,{ below:=a.below.trans (o.mono a.below.size),blk:=Blk.eq (a.blk.below o a.blk.lt) (by simp),res:=a.res.below o a.res.lt,j:=fun _=>cZ u (by have:=a.res.lt; omega),n:=fun h=>absurd h (by omega),l:=fun h=>absurd h (by omega) }⟩
   · refine⟨rfl,.inr ⟨by decide,0,6,by decide +kernel,by decide +kernel,fun z b m c _ y a e=>?_⟩⟩;have q:=e.k 1 rfl;simp [go_sem,Oper.wp,execOp,Act.eval,q];exact⟨_,rfl,rfl,a⟩
   · refine⟨rfl,.inr ⟨by decide,0,1,by decide +kernel,by decide +kernel,fun z b m c _ y a e=>?_⟩⟩;obtain⟨u1,i,d⟩:=e.g 3 6 rfl rfl;replace d:u1=_:=d;subst d
     have r:ζ c w 2 (.slice x.an x.nn x.cn):=by
      have h:=a.blk.cell 2;simp only [List.getElem?_toArray,List.getElem?_cons_succ,List.getElem?_cons_zero] at h;rw [h,if_neg (by omega)]
     simp [go_sem,Oper.wp,execOp,Act.eval,i,r];exact⟨_,rfl,rfl,a⟩
   · refine⟨rfl,.inl ⟨1,rfl,fun b m c a e=>?_⟩⟩;obtain⟨u1,i,d⟩:=e.g 4 7 rfl rfl;replace d:u1=_:=d;subst d;simp [go_sem,Oper.wp,execOp,Act.eval,i];refine (sW.2.1 st.nodes x.an x.nn x.cn c (p.n.below a.below |>.more a.below.size) p.ln (by omega)).mono ?_;rintro M Q ⟨B,C,rfl,u,o⟩;rw [p.z.ln] at u |-;exact⟨_,rfl,{ b with an:=B,cn:=C },Bv 5 (fun _=>⟨rfl,rfl⟩) (fun h=>absurd rfl h) (fun _=>⟨rfl,rfl⟩),rfl,{ below:=a.below.trans (o.mono a.below.size),blk:=Blk.eq (a.blk.below o a.blk.lt) (by simp),res:=a.res.below o a.res.lt,j:=fun _=>aF (a.j (by omega)) o,n:=fun _=>cZ u (by have:=a.res.lt; omega),l:=fun h=>absurd h (by omega) }⟩
   · refine⟨rfl,.inr ⟨by decide,0,6,by decide +kernel,by decide +kernel,fun z b m c _ y a e=>?_⟩⟩;have q:=e.k 1 rfl;simp [go_sem,Oper.wp,execOp,Act.eval,q];exact⟨_,rfl,rfl,a⟩
   · refine⟨rfl,.inr ⟨by decide,0,2,by decide +kernel,by decide +kernel,fun z b m c _ y a e=>?_⟩⟩;obtain⟨u1,i,d⟩:=e.g 6 9 rfl rfl;replace d:u1=_:=d;subst d
     have r:ζ c w 3 (.slice x.al x.nl x.cl):=by
      have h:=a.blk.cell 3;simp only [List.getElem?_toArray,List.getElem?_cons_succ,List.getElem?_cons_zero] at h;rw [h,if_neg (by omega)]
     simp [go_sem,Oper.wp,execOp,Act.eval,i,r];exact⟨_,rfl,rfl,a⟩
   · refine⟨rfl,.inl ⟨2,rfl,fun b m c a e=>?_⟩⟩;obtain⟨u1,i,d⟩:=e.g 7 10 rfl rfl;replace d:u1=_:=d;subst d;simp [go_sem,Oper.wp,execOp,Act.eval,i];refine (sW.2.2 st.leases x.al x.nl x.cl c (p.l.below a.below |>.more a.below.size) p.ll (by omega)).mono ?_;rintro M Q ⟨B,C,rfl,u,o⟩;rw [p.z.ll] at u |-;exact⟨_,rfl,{ b with al:=B,cl:=C },Bv 8 (fun _=>⟨rfl,rfl⟩) (fun _=>⟨rfl,rfl⟩) (fun h=>absurd rfl h),rfl,{ below:=a.below.trans (o.mono a.below.size),blk:=Blk.eq (a.blk.below o a.blk.lt) (by simp),res:=a.res.below o a.res.lt,j:=fun _=>aF (a.j (by omega)) o,n:=fun _=>aF (a.n (by omega)) o,l:=fun _=>cZ u (by have:=a.res.lt; omega) }⟩
   · refine⟨rfl,.inr ⟨by decide,0,6,by decide +kernel,by decide +kernel,fun z b m c _ y a e=>?_⟩⟩;have q:=e.k 1 rfl;simp [go_sem,Oper.wp,execOp,Act.eval,q];exact⟨_,rfl,rfl,a⟩
   · refine⟨rfl,.inl ⟨3,rfl,fun b m c a e=>?_⟩⟩;obtain⟨u1,i,d⟩:=e.g 9 12 rfl rfl;replace d:u1=_:=d;subst d;obtain⟨u2,G,s⟩:=e.g 2 5 rfl rfl;replace s:u2=_:=s;subst s
     have r:ζ c w 1 (.slice x.aj x.nj x.cj):=by
      have h:=a.blk.cell 1;simp only [List.getElem?_toArray,List.getElem?_cons_succ,List.getElem?_cons_zero] at h;rw [h,if_neg (by omega)]
     have H:κ c w 1:=a.blk.thaw 1;simp [go_sem,Oper.wp,execOp,Act.eval,i,G,r,H];exact⟨.int .i64 0,b,fun _ _ _ h=>h,trivial,{ below:=cU a.below (aR c w 1 _) lJ,blk:=Blk.eq (a.blk.set 1 _) rfl,res:=ay (aR c w 1 _) a.res (by omega),j:=fun _=>cu (a.j (by omega)) (aR c w 1 _) (by omega),n:=fun _=>cu (a.n (by omega)) (aR c w 1 _) (by omega),l:=fun _=>cu (a.l (by omega)) (aR c w 1 _) (by omega) }⟩
   · refine⟨rfl,.inr ⟨by decide,0,6,by decide +kernel,by decide +kernel,fun z b m c _ y a e=>?_⟩⟩;have q:=e.k 1 rfl;simp [go_sem,Oper.wp,execOp,Act.eval,q];exact⟨_,rfl,rfl,a⟩
   · refine⟨rfl,.inl ⟨4,rfl,fun b m c a e=>?_⟩⟩;obtain⟨u1,i,d⟩:=e.g 11 13 rfl rfl;replace d:u1=_:=d;subst d;obtain⟨u2,G,s⟩:=e.g 5 8 rfl rfl;replace s:u2=_:=s;subst s
     have r:ζ c w 2 (.slice x.an x.nn x.cn):=by
      have h:=a.blk.cell 2;simp only [List.getElem?_toArray,List.getElem?_cons_succ,List.getElem?_cons_zero] at h;rw [h,if_neg (by omega)]
     have H:κ c w 2:=a.blk.thaw 2;simp [go_sem,Oper.wp,execOp,Act.eval,i,G,r,H];exact⟨.int .i64 0,b,fun _ _ _ h=>h,trivial,{ below:=cU a.below (aR c w 2 _) lJ,blk:=Blk.eq (a.blk.set 2 _) rfl,res:=ay (aR c w 2 _) a.res (by omega),j:=fun _=>cu (a.j (by omega)) (aR c w 2 _) (by omega),n:=fun _=>cu (a.n (by omega)) (aR c w 2 _) (by omega),l:=fun _=>cu (a.l (by omega)) (aR c w 2 _) (by omega) }⟩
   · refine⟨rfl,.inr ⟨by decide,0,6,by decide +kernel,by decide +kernel,fun z b m c _ y a e=>?_⟩⟩;have q:=e.k 1 rfl;simp [go_sem,Oper.wp,execOp,Act.eval,q];exact⟨_,rfl,rfl,a⟩
   · refine⟨rfl,.inl ⟨5,rfl,fun b m c a e=>?_⟩⟩;obtain⟨u1,i,d⟩:=e.g 13 14 rfl rfl;replace d:u1=_:=d;subst d;obtain⟨u2,G,s⟩:=e.g 8 11 rfl rfl;replace s:u2=_:=s;subst s
     have r:ζ c w 3 (.slice x.al x.nl x.cl):=by
      have h:=a.blk.cell 3;simp only [List.getElem?_toArray,List.getElem?_cons_succ,List.getElem?_cons_zero] at h;rw [h,if_neg (by omega)]
     have H:κ c w 3:=a.blk.thaw 3;simp [go_sem,Oper.wp,execOp,Act.eval,i,G,r,H];exact⟨.int .i64 0,b,fun _ _ _ h=>h,trivial,{ below:=cU a.below (aR c w 3 _) lJ,blk:=Blk.eq (a.blk.set 3 _) rfl,res:=ay (aR c w 3 _) a.res (by omega),j:=fun _=>cu (a.j (by omega)) (aR c w 3 _) (by omega),n:=fun _=>cu (a.n (by omega)) (aR c w 3 _) (by omega),l:=fun _=>cu (a.l (by omega)) (aR c w 3 _) (by omega) }⟩
 · intro b m c K;have a:GK w st x b 6 3 c:=K.ph;obtain⟨W,rfl,-⟩:=K.frame [3,4,5,6,7,8,9,10,11,12,13,14] rfl;have I:Blk c w 26 #[st.rev,.slice b.aj x.nj b.cj,.slice b.an x.nn b.cn,.slice b.al x.nl b.cl]:=a.blk;have F:=a.res;have Z:=I.lt;have aa:=F.lt;obtain⟨S,T,U,V⟩:=Blk.c4 (I);obtain⟨u0,u1,u2,u3⟩:=Blk.z4 (F);obtain⟨s0,s1,s2,s3⟩:=Blk.c4 (F);obtain⟨N,D⟩:=Blk.S4 (F) (.int .i64 st.rev) (.slice b.aj x.nj b.cj) (.slice b.an x.nn b.cn) (.slice b.al x.nl b.cl);obtain⟨q0,q1,q2,q3⟩:=Blk.c4 N;have R:=ω (show Ff st x w (.returned (.agg (stC st ⟨b.aj,x.nj,b.cj,b.an,x.nn,b.cn,b.al,x.nl,b.cl⟩))) _ from ⟨⟨b.aj,x.nj,b.cj,b.an,x.nn,b.cn,b.al,x.nl,b.cl⟩,rfl,rfl,rfl,rfl,⟨cu (a.j (by omega)) D (by omega),cu (a.n (by omega)) D (by omega),cu (a.l (by omega)) D (by omega),p.lj,p.ln,p.ll⟩,cU a.below D (by omega)⟩);clear K a I F N D L;simp [Exit.then];go_wp2;refine bodyPost_ret (v:=.agg #[.int .i64 st.rev,.slice b.aj x.nj b.cj,.slice b.an x.nn b.cn,.slice b.al x.nl b.cl]) (by simp [results,Tryz.results38,go_sem, *]) rfl ?_;exact R
def bs (l:List UInt8):ByteArray:=⟨l.toArray⟩
theorem fA (a b:List UInt8):bs a ++ bs b=bs (a ++ b):=by unfold bs; rw [ByteArray.mk_append_mk]; try simp
theorem dB (a:List UInt8):(bs a).size=a.length:=by exact List.size_toArray
theorem Pj (s:ByteArray):(vS s).1=bs (dW s):=by unfold bs dW; try simp
def gq (l:List UInt8) (w:World) (e:Ending) (w':World):Prop:=e = .returned (.string (bs l))/\Below w w w'
theorem N9 (n:Int) (w:World) (h:0<=n/\n<18446744073709551616):ψ 121 #[.int .u64 n] w (gq (bg n.toNat) w):=
 qd 10 n w h.1 h.2 (by have:=(by decide:(128:Nat) ^ 10=1180591620717411303424); omega) (by decide)
theorem jJ (n:Int) (w:World) (h:0<=n/\n<=9223372036854775807):ψ 61 #[n] w (gq (bg n.toNat) w):=by
 have H:=ω (N9 n w (by omega));go_enter Tryz.func61,Tryz.ntmps61
 go_wp2_with fail
 refine H.mono ?_;rintro e b ⟨rfl,a⟩;go_wp2;go_ret;exact⟨rfl,a⟩
theorem lS (s:ByteArray) (w:World) (h:s.size<=9223372036854775807):ψ 63 #[s] w (gq (dW s) w):=by
 have H:=JN s w h;unfold jD at H;rw [Pj] at H;generalize (vS s).2=E at H;have H:=ω H;go_enter Tryz.func63,Tryz.ntmps63
 go_wp2_with fail
 refine H.mono ?_;rintro e b ⟨rfl,a⟩;go_wp2;go_ret;exact⟨rfl,a⟩
theorem Bw :
 (∀ (x:aC) (v:Int) (w:World) (c:¬ 1<v) (i:¬ 2<v) (n:uF x),ψ 122 #[.agg (aS x).toArray,v] w (gq (eK x v) w)) /\
 (∀ (x:aC) (v:Int) (w:World) (c:1<v) (i:¬ 2<v) (n:uF x),ψ 122 #[.agg (aS x).toArray,v] w (gq (eK x v) w)) /\
 (∀ (x:aC) (v:Int) (w:World) (c:1<v) (i:2<v) (n:uF x),ψ 122 #[.agg (aS x).toArray,v] w (gq (eK x v) w)):=by
 refine⟨@fun x v w c i n=>(fun(u:Unit)=>?_) (),@fun x v w c i n=>(fun(o:Unit)=>?_) (),@fun x v w c i n=>(fun(y:Unit)=>?_) ()⟩<;>(
 first|(guard_hyp u;have d1:decide (1<v)=false:=fK c)|have d1:decide (1<v)=true:=t8 c
 first|(guard_hyp y;have d2:decide (2<v)=true:=t8 i)|have d2:decide (2<v)=false:=fK i
 have p:=ω n;obtain⟨j,a,g,e,k⟩:=x
 first
  |(
   guard_hyp u
   have b:bs (dW j) ++ bs (bg (mW a).toNat) ++ bs (bg (g).toNat)=bs (eK ⟨j,a,g,e,k⟩ v):=by simp only [fA]; simp [eK,c,i])
  |(
   guard_hyp o
   have b:bs (dW j) ++ bs (bg (mW a).toNat) ++ bs (bg (g).toNat) ++ bs (bg (e).toNat)=bs (eK ⟨j,a,g,e,k⟩ v):=by simp only [fA]; simp [eK,c,i])
  |(
   guard_hyp y
   have b:bs (dW j) ++ bs (bg (mW a).toNat) ++ bs (bg (g).toNat) ++ bs (bg (e).toNat) ++ bs (dW k)=bs (eK ⟨j,a,g,e,k⟩ v):=by simp only [fA]; simp [eK,c,i])
 unfold aS;dsimp only;have H:Below w w (χ w #[j,a,g,e,k] 85):=(θ).alloc lJ _;have G:Blk (χ w #[j,a,g,e,k] 85) w 85 #[j,a,g,e,k]:=n5 w _;generalize M:w.alloc (.cells #[j,a,g,e,k] 85)=h at H G;have J:=ω M;have V:=ω H;obtain⟨b0,b1,b2,Q,b4⟩:=Blk.r5 (G);have I:=fun d m=>lS j (Sort.grow (redrawn h d) m) p.name;have N:0<=mW a/\mW a<18446744073709551616:=by have:=p.prio; dsimp only at this; unfold mW; split <;> omega
 have s:∀ d m,ψ 176 #[a] (Sort.grow (redrawn h d) m) fun F w'=>F = .returned (.int .u64 (mW a))/\Below (Sort.grow (redrawn h d) m).heap.size (Sort.grow (redrawn h d) m) w':=fun d m=>(Lu a p.prio.1 p.prio.2 _).mono (by rintro F w' ⟨c,rfl⟩; exact⟨c,θ⟩);have z:=fun d m=>N9 (mW a) (Sort.grow (redrawn h d) m) N;generalize mW a=aa at s z b;have B:=fun d m=>jJ g (Sort.grow (redrawn h d) m) p.need;have Mf:(bs (dW j)).size<=17:=by rw [dB]; exact dA _
 have P1:(bs (bg aa.toNat)).size<=17:=by rw [dB]; exact bT _
 have Y:(bs (bg (g).toNat)).size<=17:=by rw [dB]; exact bT _
 first
  |(
   guard_hyp o
   have O:(bs (bg (e).toNat)).size<=17:=by rw [dB]; exact bT _
   have C:=fun W=>jJ e W p.tries)
  |(
   guard_hyp y
   have O:(bs (bg (e).toNat)).size<=17:=by rw [dB]; exact bT _
   have C:=fun W=>jJ e W p.tries;have ae:(bs (dW k)).size<=17:=by rw [dB]; exact dA _
   have P:=fun W=>lS k W p.tag)
  |skip
 unfold gq at *;generalize bs (dW j)=P2 at b I Mf;generalize bs (bg aa.toNat)=af at b z P1
 first
  |(
   guard_hyp o
   generalize bs (bg (g).toNat)=P3 at b B Y)
  |skip
 first|(guard_hyp o;generalize bs (bg (e).toNat)=Pn at b C O)|generalize bs (bg (g).toNat)=P3 at b B Y
 first
  |(
   guard_hyp y
   generalize bs (bg (e).toNat)=Pn at b C O;generalize bs (dW k)=ag at b P ae)
  |skip
 have U:=ω I;have Z:=ω z;have zu:=ω B
 first|(guard_hyp u;have K:=ω s)|have X:=ω C
 first|(guard_hyp u;have D:=ω b)|(guard_hyp o;have K:=ω s)|have ac:=ω P
 first
  |(
   guard_hyp u
   clear H G M n b c i I z B s N)
  |(
   guard_hyp o
   have D:=ω b;clear H G M n b c i I z B C s N)
  |(
   guard_hyp y
   have K:=ω s;have D:=ω b;clear H G M n b c i I z B C P s N)
 go_enter Tryz.func122,Tryz.ntmps122
 go_wp2_with fail
 rw [J.z];refine wp_region_quiet_below (by kernel_rfl) (by kernel_rfl) ?_
 go_big_quiet_step ((fail))
 go_big_quiet_step ((fail))
 go_big_quiet_step ((go_at_call 63; exact Calls.regrown_of (U.z _ _)))
 go_big_quiet_step ((fail))
 go_big_quiet_step ((fail))
 go_big_quiet_step ((go_at_call 176; exact Calls.regrown_of (K.z _ _)))
 go_big_quiet_step ((go_at_call 121; exact Calls.regrown_of (Z.z _ _)))
 go_big_quiet_step ((fail))
 go_big_quiet_step ((fail))
 go_big_quiet_step ((fail))
 go_big_quiet_step ((go_at_call 61; exact Calls.regrown_of (zu.z _ _)))
 go_big_quiet_step ((fail))
 go_big_quiet_step ((fail))
 refine wpQuiet_nil ?_;intro _ ad;obtain⟨⟨nq,osq⟩,hw''⟩:=ad;subst hw'';have q:=ω (V.trans ((below_regrown h nq osq).mono V.size))
 first
  |(
   guard_hyp o
   have S:=Q nq osq;have l:w.heap.size<(Sort.grow (redrawn h nq) osq).heap.size:=u7 (by rw [<- J.z]; simp) (below_regrown h nq osq).size)
  |(
   guard_hyp y
   have S:=Q nq osq;have T:=b4 nq osq;have l:w.heap.size<(Sort.grow (redrawn h nq) osq).heap.size:=u7 (by rw [<- J.z]; simp) (below_regrown h nq osq).size)
  |skip
 clear J b0 b1 b2 Q b4 U Z zu K;dsimp only
 first
  |(
   guard_hyp u
   generalize Sort.grow (redrawn h nq) osq=w2 at q |-)
  |(
   guard_hyp o
   generalize Sort.grow (redrawn h nq) osq=w2 at q S l |-
   go_wp2_with fail
   refine Calls.mono (X.z _) ?_;rintro F v0 ⟨rfl,r⟩;have L:=ω (q.trans (r.mono q.size));replace l:=u7 l r.size;clear r)
  |(
   guard_hyp y
   generalize Sort.grow (redrawn h nq) osq=w2 at q S T l |-
   go_wp2_with fail
   refine Calls.mono (X.z _) ?_;rintro F v0 ⟨rfl,r⟩;have L:=ω (q.trans (r.mono q.size));replace T:=((dD r).1 _ _ l).trans T;replace l:=u7 l r.size;clear r
   go_wp2_with fail
   refine Calls.mono (ac.z _) ?_;rintro F v1 ⟨rfl,R⟩;have ab:=ω (L.trans (R.mono L.size));replace l:=u7 l R.size;clear R)
 go_wp2;go_ret
 first|(guard_hyp u;exact⟨kS D.z,q⟩)|(guard_hyp o;exact⟨kS D.z,L⟩)|exact⟨kS D.z,ab⟩)
theorem Cx :
 (∀ (x:av) (v:Int) (w:World) (g:¬ 1<v) (k:p8 x),ψ 123 #[.agg (aH x).toArray,v] w (gq (cX x v) w)) /\
 (∀ (x:av) (v:Int) (w:World) (g:1<v) (k:p8 x),ψ 123 #[.agg (aH x).toArray,v] w (gq (cX x v) w)):=by
 refine⟨@fun x v w g k=>(fun(l:Unit)=>?_) (),@fun x v w g k=>(fun(m:Unit)=>?_) ()⟩<;>(
 first|(guard_hyp l;have P:decide (1<v)=false:=fK g)|have P:decide (1<v)=true:=t8 g
 have s:=ω k;obtain⟨a,b,c⟩:=x
 first
  |(
   guard_hyp l
   have i:bs (dW a) ++ bs (bg (b).toNat)=bs (cX ⟨a,b,c⟩ v):=by simp only [fA]; simp [cX,g])
  |(
   guard_hyp m
   have i:bs (dW a) ++ bs (bg (b).toNat) ++ bs (dW c)=bs (cX ⟨a,b,c⟩ v):=by simp only [fA]; simp [cX,g])
 unfold aH;dsimp only;have p:Below w w (χ w #[a,b,c] 70):=(θ).alloc lJ _;have j:Blk (χ w #[a,b,c] 70) w 70 #[a,b,c]:=n5 w _;generalize C:w.alloc (.cells #[a,b,c] 70)=d at p j;have r:=ω C;have F:=ω p;have N:=fun e h=>cell_regrown (show ζ d w 0 (.string a) from j.cell 0) e h;have O:=fun e h=>cell_regrown (show ζ d w 1 (.int .i64 b) from j.cell 1) e h;have G:=fun e h=>cell_regrown (show ζ d w 2 (.string c) from j.cell 2) e h;have q:=fun e h=>lS a (Sort.grow (redrawn d e) h) s.name;have o:=fun e h=>jJ b (Sort.grow (redrawn d e) h) s.room;have J:(bs (dW a)).size<=17:=by rw [dB]; exact dA _
 have K:(bs (bg (b).toNat)).size<=17:=by rw [dB]; exact bT _
 first
  |(
   guard_hyp m
   have L:(bs (dW c)).size<=17:=by rw [dB]; exact dA _
   have u:=fun W=>lS c W s.zone)
  |skip
 unfold gq at *;generalize bs (dW a)=T at i q J;generalize bs (bg (b).toNat)=U at i o K
 first
  |(
   guard_hyp m
   generalize bs (dW c)=V at i u L)
  |skip
 have D:=ω q;have H:=ω o
 first|(guard_hyp l;have y:=ω i)|have M:=ω u
 first
  |(
   guard_hyp l
   clear p j C k i g q o)
  |(
   guard_hyp m
   have y:=ω i;clear p j C k i g q o u)
 go_enter Tryz.func123,Tryz.ntmps123
 go_wp2_with fail
 rw [r.z];refine wp_region_quiet_below (by kernel_rfl) (by kernel_rfl) ?_
 go_big_quiet_step ((fail))
 go_big_quiet_step ((fail))
 go_big_quiet_step ((go_at_call 63; exact Calls.regrown_of (D.z _ _)))
 go_big_quiet_step ((fail))
 go_big_quiet_step ((fail))
 go_big_quiet_step ((go_at_call 61; exact Calls.regrown_of (H.z _ _)))
 go_big_quiet_step ((fail))
 go_big_quiet_step ((fail))
 refine wpQuiet_nil ?_;intro _ Q;obtain⟨⟨nq,osq⟩,hw''⟩:=Q;subst hw'';have n:=ω (F.trans ((below_regrown d nq osq).mono F.size))
 first
  |(
   guard_hyp m
   have S:=G nq osq;have B:w.heap.size<(Sort.grow (redrawn d nq) osq).heap.size:=u7 (by rw [<- r.z]; simp) (below_regrown d nq osq).size)
  |skip
 clear r N O G D H;dsimp only
 first
  |(
   guard_hyp l
   generalize Sort.grow (redrawn d nq) osq=R at n |-)
  |(
   guard_hyp m
   generalize Sort.grow (redrawn d nq) osq=R at n S B |-
   go_wp2_with fail
   refine Calls.mono (M.z _) ?_;rintro X Y ⟨rfl,z⟩;have I:=ω (n.trans (z.mono n.size));replace B:=u7 B z.size;clear z)
 go_wp2;go_ret
 first|(guard_hyp l;exact⟨kS y.z,n⟩)|exact⟨kS y.z,I⟩)
theorem GE (x:ak) (w:World) (u:vB x) :
 ψ 124 #[.agg (aB x).toArray] w (gq (eH x) w):=by
 have h:=ω u;obtain⟨job,node,b⟩:=x;have g:bs (dW job) ++ bs (dW node) ++ bs (bg (b).toNat)=bs (eH ⟨job,node,b⟩):=by simp only [fA]; simp [eH]
 unfold aB;dsimp only;have l:Below w w (χ w #[job,node,b] 66):=(θ).alloc lJ _;have e:Blk (χ w #[job,node,b] 66) w 66 #[job,node,b]:=n5 w _;generalize s:w.alloc (.cells #[job,node,b] 66)=c at l e;have m:=ω s;have n:=ω l;have z:=fun d a=>cell_regrown (show ζ c w 0 (.string job) from e.cell 0) d a;have B:=fun d a=>cell_regrown (show ζ c w 1 (.string node) from e.cell 1) d a;have C:=fun d a=>cell_regrown (show ζ c w 2 (.int .i64 b) from e.cell 2) d a;have k:=fun d a=>lS job (Sort.grow (redrawn c d) a) h.job;have i:=fun d a=>lS node (Sort.grow (redrawn c d) a) h.node;have j:=fun d a=>jJ b (Sort.grow (redrawn c d) a) h.till;have G:(bs (dW job)).size<=17:=by rw [dB]; exact dA _
 have v:(bs (dW node)).size<=17:=by rw [dB]; exact dA _
 have y:(bs (bg (b).toNat)).size<=17:=by rw [dB]; exact bT _
 unfold gq at *;generalize bs (dW job)=H at g k G;generalize bs (dW node)=I at g i v;generalize bs (bg (b).toNat)=J at g j y;have o:=ω k;have p:=ω i;have q:=ω j;have D:=ω g;clear l e s u g k i j;go_enter Tryz.func124,Tryz.ntmps124
 go_wp2_with fail
 rw [m.z];refine wp_region_quiet_below (by kernel_rfl) (by kernel_rfl) ?_
 go_big_quiet_step ((fail))
 go_big_quiet_step ((fail))
 go_big_quiet_step ((go_at_call 63; exact Calls.regrown_of (o.z _ _)))
 go_big_quiet_step ((fail))
 go_big_quiet_step ((fail))
 go_big_quiet_step ((go_at_call 63; exact Calls.regrown_of (p.z _ _)))
 go_big_quiet_step ((fail))
 go_big_quiet_step ((fail))
 go_big_quiet_step ((fail))
 go_big_quiet_step ((go_at_call 61; exact Calls.regrown_of (q.z _ _)))
 go_big_quiet_step ((fail))
 go_big_quiet_step ((fail))
 refine wpQuiet_nil ?_;intro _ F;obtain⟨⟨nq,osq⟩,hw''⟩:=F;subst hw'';have r:=ω (n.trans ((below_regrown c nq osq).mono n.size));clear m z B C o p q;dsimp only;generalize Sort.grow (redrawn c nq) osq=K at r |-;go_wp2;go_ret;exact⟨kS D.z,r⟩
theorem Mb (x:aC) (v:Int) (w:World) (b:uF x):ψ 122 #[.agg (aS x).toArray,v] w (gq (eK x v) w):=by
 by_cases a:1<v
 · by_cases c:2<v
   · exact Bw.2.2 x v w a c b
   · exact Bw.2.1 x v w a c b
 · exact Bw.1 x v w a (by omega) b
theorem JI (x:av) (v:Int) (w:World) (b:p8 x):ψ 123 #[.agg (aH x).toArray,v] w (gq (cX x v) w):=by
 by_cases a:1<v
 · exact Cx.2 x v w a b
 · exact Cx.1 x v w a b
end Go.Proofs.YtimglglgcgpjgaaGreatDoor
