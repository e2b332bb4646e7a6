/- Of the proof of a statement: PlSrv, SrvAt, ByteRow, ButFd, PlBack, PlFrBack, PlWorks, PlJq. -/
import Derived.Test.YtcpgnjmaampglaaGreatDoorWSvSame
set_option linter.unusedVariables false
set_option linter.unusedSimpArgs false
set_option maxRecDepth 100000
set_option maxHeartbeats 8000000
/- What a server answers: plain. -/
namespace Go.Proofs.YtcpgnjmaampglaaGreatDoor
open Go.Lib (hid)
open Go.Op (bytesLess)
open Go.RowKit
open Go.Lib (validD)
open Classical
section
variable {α:Type} {E:α→Int} {key:α→ByteArray}
theorem BV:∀ (p:Option ByteArray) (l:List α),(∀ x ∈ l,E x=0∧before p (key x)=true)→aT key l→dS E key p l=0
 | _,[],_,_=>rfl
 | p,x :: l,h,hs=>by
  obtain⟨h1,h2⟩:=List.pairwise_cons.1 hs
  have h0:=h x List.mem_cons_self
  unfold dS
  rw [if_pos h0.1,if_pos h0.2]
  exact BV (some (key x)) l (fun y hy=>⟨(h y (List.mem_cons_of_mem _ hy)).1,h1 y hy⟩) h2
theorem EK {l:List α}:bM E key l=0↔(∀ x ∈ l,E x=0)∧aT key l:=
 ⟨fun h=>⟨fun x hx=>cI h hx,dh h⟩,fun h=>BV none l (fun x hx=>⟨h.1 x hx,rfl⟩) h.2⟩
theorem oO {E':α→Int} {l l':List α} (h:bM E key l=0) (hs:l'.Sublist l) (he:∀ x ∈ l',E x=0→E' x=0):bM E' key l'=0:=by
 obtain⟨h1,h2⟩:=EK.1 h
 exact EK.2 ⟨fun x hx=>he x hx (h1 x (hs.subset hx)),List.Pairwise.sublist hs h2⟩
end
theorem cP {st:ah}:ay st=0↔ranged st.rev 0 1099511627776=true∧dR st=true∧bM eZ aB.name st.jobs=0∧bM eV av.name st.nodes=0∧bM (eN st) ak.job st.leases=0∧om st=true:=by
 unfold ay
 constructor
 · intro h
   split at h
   · omega
   split at h
   · omega
   split at h
   · omega
   split at h
   · omega
   split at h
   · omega
   split at h
   · rename_i h1 h2 h3 h4 h5 h6
     exact⟨by simpa using h1,by simpa using h2,Decidable.not_not.1 h3,Decidable.not_not.1 h4,Decidable.not_not.1 h5,h6⟩
   · omega
 · rintro⟨h1,h2,h3,h4,h5,h6⟩
   rw [if_neg (by rw [h1]; decide),if_neg (by rw [h2]; decide),if_neg (by rw [h3]; decide),if_neg (by rw [h4]; decide),if_neg (by rw [h5]; decide),if_pos h6]
theorem wH {st st':ah} (hn:uF st) (s:ByteArray):∀ {l' l:List ak},l'.Sublist l→(∀ x ∈ l',gR st' x s=gR st x s)→gJ st' s l'≤gJ st s l
 | _,_,.slnil,_=>Int.le_refl _
 | _,_,.cons a h,he=>by
  have ih:=wH hn s h he
  have:=(uG hn a s).1
  show _≤gR st a s+gJ st s _
  omega
 | _,_,.cons_cons a h,he=>by
  have ih:=wH hn s h (fun x hx=>he x (List.mem_cons_of_mem _ hx))
  have:=he a List.mem_cons_self
  show gR st' a s+gJ st' s _≤gR st a s+gJ st s _
  omega
theorem Af {st st':ah} (h:st'.jobs=st.jobs) (s:ByteArray):∀ l:List ak,gJ st' s l=gJ st s l
 | []=>rfl
 | a :: l=>by
  show gR st' a s+gJ st' s l=gR st a s+gJ st s l
  rw [Af h s l]
  unfold gR
  rw [h]
theorem rP {st st':ah} (h:ay st=0) (hr:st'.rev=st.rev) (hj:st'.jobs.Sublist st.jobs) (hn:st'.nodes.Sublist st.nodes) (hl:st'.leases.Sublist st.leases)
 (ho:∀ l ∈ st'.leases,eu st'.jobs l.job=eu st.jobs l.job∧dX st'.nodes l.node=dX st.nodes l.node):ay st'=0:=by
 obtain⟨h1,h2,h3,h4,h5,h6⟩:=cP.1 h
 refine cP.2 ⟨by rw [hr]; exact h1,?_,oO h3 hj (fun _ _ h=>h),oO h4 hn (fun _ _ h=>h),oO h5 hl (fun l hm he=>?_),?_⟩
 · unfold dR at h2 ⊢
   simp only [Bool.and_eq_true,decide_eq_true_eq] at h2 ⊢
   have e1:=hj.length_le
   have e2:=hn.length_le
   have e3:=hl.length_le
   omega
 · unfold eN at he ⊢
   rw [(ho l hm).1,(ho l hm).2]
   exact he
 · unfold om at h6 ⊢
   rw [List.all_eq_true] at h6 ⊢
   intro n hm
   have h7:=h6 n (hn.subset hm)
   simp only [decide_eq_true_eq] at h7 ⊢
   refine Int.le_trans ?_ h7
   unfold uH
   refine wH (EL h3) n.name hl fun x hx=>?_
   unfold gR
   rw [(ho x hx).1]
theorem q9 {α:Type} (key:α→ByteArray) (s q:ByteArray) (h:s≠q):∀ l:List α,(l.filter fun a=>!decide (key a=q)).find? (fun a=>decide (key a=s))=l.find? fun a=>decide (key a=s)
 | []=>rfl
 | a :: l=>by
  have ih:=q9 key s q h l
  by_cases e:key a=q
  · have e2:¬ key a=s:=fun e2=>h (e2.symm.trans e)
    rw [List.filter_cons,List.find?_cons,decide_eq_true e,decide_eq_false e2]
    simpa using ih
  · rw [List.filter_cons,decide_eq_false e]
    simp only [Bool.not_false,if_true]
    rw [List.find?_cons,List.find?_cons,ih]
theorem GE {st:ah} (h:ay st=0) (s:ByteArray):ay (CU st s)=0:=by
 refine rP h rfl List.filter_sublist (List.Sublist.refl _) List.filter_sublist fun l hl=>⟨?_,rfl⟩
 have:=(List.mem_filter.1 hl).2
 exact q9 aB.name l.job s (by simpa using this) _
theorem GF {st:ah} (h:ay st=0) (s:ByteArray):ay (CV st s)=0:=by
 refine rP h rfl (List.Sublist.refl _) List.filter_sublist List.filter_sublist fun l hl=>⟨rfl,?_⟩
 have:=(List.mem_filter.1 hl).2
 exact q9 av.name l.node s (by simpa using this) _
theorem GG {st:ah} (h:ay st=0) (s:ByteArray):ay (CW st s)=0:=
 rP h rfl (List.Sublist.refl _) (List.Sublist.refl _) List.filter_sublist fun _ _=>⟨rfl,rfl⟩
theorem GH {st:ah} (h:ay st=0) (t:Int):ay (CX st t)=0:=
 rP h rfl (List.Sublist.refl _) (List.Sublist.refl _) List.filter_sublist fun _ _=>⟨rfl,rfl⟩
def nextR (st:ah) (now:Int) (q:cJ):Int × ah × Int:=
 if q.kind=1 then (ay (lV st q.job),lV st q.job,now)
 else if q.kind=2 then (ay (CY st q.node),CY st q.node,now)
 else if q.kind=3 then (if (eu st.jobs q.name).isSome=true then (ay (CU st q.name),CU st q.name,now) else (6,st,now))
 else if q.kind=4 then (if (dX st.nodes q.name).isSome=true then (ay (CV st q.name),CV st q.name,now) else (6,st,now))
 else if q.kind=5 then (match eu st.jobs q.lease.job with
  | none=>(6,st,now)
  | some j=>if (dX st.nodes q.lease.node).isSome=false then (6,st,now)
   else if (fJ st.leases q.lease.job).isSome=true then (7,st,now)
   else if q.lease.till≤now then (1,st,now)
   else if 100<j.tries+1 then (2,st,now)
   else (ay (yw st j q.lease),yw st j q.lease,now))
 else if q.kind=6 then (if (fJ st.leases q.name).isSome=true then (ay (CW st q.name),CW st q.name,now) else (6,st,now))
 else if q.kind=7 then (if 1099511627776<now+q.n then (1,st,now+q.n) else (ay (CX st (now+q.n)),CX st (now+q.n),now+q.n))
 else (ay st,st,now)
theorem EM {st:ah} (h:ay st=0):∀ j ∈ st.jobs,0≤j.tries∧j.tries≤100:=fun _ hj=>(fQ (cI (cP.1 h).2.2.1 hj)).2.2.2.2
theorem Oe {st:ah} (h:ay st=0) (now:Int) (q:cJ):(nextR st now q).1=(doR st now q).1∧((doR st now q).1=0→nextR st now q=doR st now q):=by
 unfold nextR doR
 split
 · exact⟨rfl,fun _=>rfl⟩
 split
 · exact⟨rfl,fun _=>rfl⟩
 split
 · split
   · rw [GE h]; exact⟨rfl,fun _=>rfl⟩
   · exact⟨rfl,fun h=>by cases h⟩
 split
 · split
   · rw [GF h]; exact⟨rfl,fun _=>rfl⟩
   · exact⟨rfl,fun h=>by cases h⟩
 split
 · unfold CZ
   cases hj:eu st.jobs q.lease.job with
   | none=>exact⟨rfl,fun _=>rfl⟩
   | some j=>
    dsimp only
    split
    · exact⟨rfl,fun _=>rfl⟩
    split
    · exact⟨rfl,fun _=>rfl⟩
    split
    · exact⟨rfl,fun _=>rfl⟩
    have ht:=EM h j (List.mem_of_find?_eq_some hj)
    by_cases h5:j.tries=100
    · rw [if_pos (by omega),if_pos h5]; exact⟨rfl,fun _=>rfl⟩
    · rw [if_neg (by omega),if_neg h5]; exact⟨rfl,fun _=>rfl⟩
 split
 · split
   · rw [GG h]; exact⟨rfl,fun _=>rfl⟩
   · exact⟨rfl,fun h=>by cases h⟩
 split
 · by_cases h7:1099511627776<now+q.n
   · rw [if_pos h7,if_pos (by omega)]; exact⟨rfl,fun h=>by cases h⟩
   · rw [if_neg h7,if_neg (by omega),GH h]; exact⟨rfl,fun _=>rfl⟩
 · rw [h]; exact⟨rfl,fun _=>rfl⟩
def BW (st:ah):ah:=⟨st.rev+1,st.jobs,st.nodes,st.leases⟩
def uI (a b:ah):Prop:=a.jobs=b.jobs∧a.nodes=b.nodes∧a.leases=b.leases
noncomputable def pR (st:ah) (now:Int) (q:cJ):Int × ah × Int:=if kB q=0 then doR st now q else (kB q,st,now)
structure DE where
 e:Int
 ch:Bool
 st:ah
 now:Int
open Classical in
noncomputable def qp (st:ah) (now:Int) (R:Int × ah × Int):DE:=
 if R.1=0 then (if uI st R.2.1 then ⟨0,false,st,R.2.2⟩
  else if 1099511627776<st.rev+1 then ⟨2,false,st,now⟩ else ⟨0,true,BW R.2.1,R.2.2⟩)
 else ⟨R.1,false,st,now⟩
theorem IB (st:ah) (now:Int) (q:cJ):(doR st now q).2.1.rev=st.rev:=by
 unfold doR CZ
 repeat' split
 all_goals rfl
theorem BX {st:ah} (h:ay st=0) {now:Int} {q:cJ} (h0:(doR st now q).1=0):ay (doR st now q).2.1=0:=by
 have hn:=Oe h now q
 rw [h0] at hn
 rw [← hn.2 rfl]
 have h1:=hn.1
 clear h0 hn
 unfold nextR at h1 ⊢
 split at h1
 · rename_i hk; rw [if_pos hk]; exact h1
 rename_i hk; rw [if_neg hk]
 split at h1
 · rename_i hk; rw [if_pos hk]; exact h1
 rename_i hk; rw [if_neg hk]
 split at h1
 · rename_i hk; rw [if_pos hk]
   split at h1
   · rename_i hi; rw [if_pos hi]; exact h1
   · cases h1
 rename_i hk; rw [if_neg hk]
 split at h1
 · rename_i hk; rw [if_pos hk]
   split at h1
   · rename_i hi; rw [if_pos hi]; exact h1
   · cases h1
 rename_i hk; rw [if_neg hk]
 split at h1
 · rename_i hk; rw [if_pos hk]
   cases hj:eu st.jobs q.lease.job with
   | none=>rw [hj] at h1; cases h1
   | some j=>
    rw [hj] at h1
    dsimp only at h1 ⊢
    split at h1
    · cases h1
    rename_i h1'; rw [if_neg h1']
    split at h1
    · cases h1
    rename_i h1'; rw [if_neg h1']
    split at h1
    · cases h1
    rename_i h1'; rw [if_neg h1']
    split at h1
    · cases h1
    rename_i h1'; rw [if_neg h1']
    exact h1
 rename_i hk; rw [if_neg hk]
 split at h1
 · rename_i hk; rw [if_pos hk]
   split at h1
   · rename_i hi; rw [if_pos hi]; exact h1
   · cases h1
 rename_i hk; rw [if_neg hk]
 split at h1
 · rename_i hk; rw [if_pos hk]
   split at h1
   · cases h1
   · rename_i hi; rw [if_neg hi]; exact h1
 rename_i hk; rw [if_neg hk]
 exact h1
theorem Ag {st:ah} (h:ay st=0) (hr:¬ 1099511627776<st.rev+1):ay (BW st)=0:=by
 obtain⟨h1,h2,h3,h4,h5,h6⟩:=cP.1 h
 have h7:=aZ.1 h1
 refine cP.2 ⟨aZ.2 ⟨by show 0≤st.rev+1; omega,by show st.rev+1≤1099511627776; omega⟩,h2,h3,h4,h5,?_⟩
 unfold om uH at h6 ⊢
 simp only [Af (show (BW st).jobs=st.jobs from rfl)]
 exact h6
theorem NJ {st:ah} {now:Int} {q:cJ} (h:ay st=0) (hn:0≤now∧now≤1099511627776):ay (qp st now (pR st now q)).st=0∧0≤(qp st now (pR st now q)).now∧(qp st now (pR st now q)).now≤1099511627776:=by
 unfold qp
 split
 · rename_i h0
   have hq:kB q=0:=by
    unfold pR at h0
    split at h0
    · assumption
    · exact h0
   have ha:pR st now q=doR st now q:=by unfold pR; rw [if_pos hq]
   rw [ha] at h0 ⊢
   have hc:=BX h h0
   have hv:=IB st now q
   have ht:0≤(doR st now q).2.2∧(doR st now q).2.2≤1099511627776:=by
    by_cases hk:q.kind=7
    · have hp:oM q=0:=by
       unfold kB at hq
       split at hq
       · cases hq
       split at hq
       · cases hq
       exact hq
      have hr:ranged q.n 0 1099511627776=true:=by
       unfold oM at hp
       rw [hk] at hp
       simp only [show ¬ (7:Int)=1 from by decide,show ¬ (7:Int)=2 from by decide,show ¬ (7:Int)=3 from by decide,show ¬ (7:Int)=4 from by decide,show ¬ (7:Int)=5 from by decide,show ¬ (7:Int)=6 from by decide,or_false,if_false,if_true] at hp
       by_cases hr:ranged q.n 0 1099511627776=true
       · exact hr
       · rw [if_neg hr] at hp; cases hp
      have hr:=aZ.1 hr
      unfold doR at h0 ⊢
      simp only [hk,show ¬ (7:Int)=1 from by decide,show ¬ (7:Int)=2 from by decide,show ¬ (7:Int)=3 from by decide,show ¬ (7:Int)=4 from by decide,show ¬ (7:Int)=5 from by decide,show ¬ (7:Int)=6 from by decide,if_false,if_true] at h0 ⊢
      split at h0
      · cases h0
      · rename_i hlt
        rw [if_neg hlt]
        dsimp only
        omega
    · have:(doR st now q).2.2=now:=by
       unfold doR CZ
       repeat' split
       all_goals first | rfl | (exfalso; exact hk ‹_›)
      rw [this]; exact hn
   split
   · exact⟨h,ht⟩
   split
   · exact⟨h,hn⟩
   · rename_i hs hr
     exact⟨Ag hc (by rw [hv]; exact hr),ht⟩
 · exact⟨h,hn⟩
def jF (cs:Array Value):Prop:=∀ (i:Nat) (s:ByteArray),cs[i]? ≠ some (.string s)
theorem mO {cs:Array Value} (h:∀ v ∈ cs,∀ s,v ≠ .string s):jF cs:=fun _ s e=>h _ (Array.mem_of_getElem? e) s rfl
theorem zm (st:ah) (x:StA):jF (stC st x):=mO (by
 intro v hv s
 simp only [stC,List.mem_toArray,List.mem_cons,List.not_mem_nil,or_false] at hv
 rcases hv with rfl | rfl | rfl | rfl <;> simp)
def AQ (st:ah) (x:StA) (now:Int):Array Value:=#[.int .i64 st.rev,.slice x.aj x.nj x.cj,.slice x.an x.nn x.cn,.slice x.al x.nl x.cl,.int .i64 now]
theorem BY (st:ah) (x:StA) (now:Int):jF (AQ st x now):=mO (by
 intro v hv s
 simp only [AQ,List.mem_toArray,List.mem_cons,List.not_mem_nil,or_false] at hv
 rcases hv with rfl | rfl | rfl | rfl | rfl <;> simp)
theorem sW (n m:Int):jF #[.int .i64 n,.int .i64 m]:=mO (by
 intro v hv s
 simp only [List.mem_toArray,List.mem_cons,List.not_mem_nil,or_false] at hv
 rcases hv with rfl | rfl <;> simp)
section
variable {w w':World} {B sz n g:Nat} {A:Option Addr} {xs:List Value} {t:TypeId} {cs:Array Value}
theorem aQ.jk (h:aQ w B sz A n xs) (hb:Blk w g t cs) (hc:jF cs) (h0:0<n→∃ s,xs[0]? = some (.string s)) (hg:w.grownBy w' (some g)):aQ w' B sz A n xs:=
 ⟨h.len,fun hn=>by
  obtain⟨b,off,e,hB,hr⟩:=h.at_ hn
  obtain⟨s,hs⟩:=h0 hn
  refine⟨b,off,e,hB,fun j u hu=>hg.cell (hr j u hu) ?_⟩
  intro e1
  have e2:b=g:=by simpa using e1
  subst e2
  have h1:=hr 0 _ hs
  rw [Nat.add_zero,hb.cell off] at h1
  exact hc _ _ h1⟩
end
theorem vM {l:List aB} {n:Nat} (h:l.length=n) (hn:0<n):∃ s,(au aH l)[0]? = some (.string s):=by
 match l,h with
 | [],h=>simp at h; omega
 | a :: l,_=>exact⟨a.name,rfl⟩
theorem sN {l:List av} {n:Nat} (h:l.length=n) (hn:0<n):∃ s,(au aI l)[0]? = some (.string s):=by
 match l,h with
 | [],h=>simp at h; omega
 | a :: l,_=>exact⟨a.name,rfl⟩
theorem qJ {l:List ak} {n:Nat} (h:l.length=n) (hn:0<n):∃ s,(au aE l)[0]? = some (.string s):=by
 match l,h with
 | [],h=>simp at h; omega
 | a :: l,_=>exact⟨a.job,rfl⟩
theorem StAt.jk {w w':World} {B g:Nat} {t:TypeId} {cs:Array Value} {st:ah} {x:StA} (h:StAt w B st x) (hb:Blk w g t cs) (hc:jF cs) (hg:w.grownBy w' (some g)):StAt w' B st x:=
 ⟨h.j.jk hb hc (vM h.lj) hg,h.n.jk hb hc (sN h.ln) hg,h.l.jk hb hc (qJ h.ll) hg,h.lj,h.ln,h.ll,h.bj,h.bn,h.bl,h.oj,h.on_,h.ol⟩
theorem StAt.drew {w:World} {B:Nat} {st:ah} {x:StA} (h:StAt w B st x):StAt w.drew B st x:=
 ⟨h.j.drew,h.n.drew,h.l.drew,h.lj,h.ln,h.ll,h.bj,h.bn,h.bl,h.oj,h.on_,h.ol⟩
theorem StAt.rev {w:World} {B:Nat} {st:ah} {x:StA} (h:StAt w B st x) (r:Int):StAt w B ⟨r,st.jobs,st.nodes,st.leases⟩ x:=
 ⟨h.j,h.n,h.l,h.lj,h.ln,h.ll,h.bj,h.bn,h.bl,h.oj,h.on_,h.ol⟩
theorem StAt.upS {w w':World} {st:ah} {x:StA} (h:StAt w w.heap.size st x) (hb:Below w.heap.size w w'):StAt w' w'.heap.size st x:=(h.below hb).more hb.size
theorem zk {w:World} {B:Nat} {st:ah} {x:StA} (h:StAt w B st x) (hc:ay st=0):x.nj≤40∧x.nn≤40∧x.nl≤40:=by
 have h2:=(cP.1 hc).2.1
 unfold dR at h2
 simp only [Bool.and_eq_true,decide_eq_true_eq] at h2
 have:=h.lj; have:=h.ln; have:=h.ll
 omega
structure SrvAt (w:World) (T:TypeId) (B:Nat) (st:ah) (x:StA) (now:Int):Prop where
 blk:Blk w B T (AQ st x now)
 at_:StAt w w.heap.size st x
 ok:ay st=0
 t:0≤now∧now≤1099511627776
theorem SrvAt.below {w w':World} {T:TypeId} {B:Nat} {st:ah} {x:StA} {now:Int} (h:SrvAt w T B st x now) (hb:Below w.heap.size w w'):SrvAt w' T B st x now:=
 ⟨h.blk.below hb h.blk.lt,h.at_.upS hb,h.ok,h.t⟩
theorem SrvAt.other {w w':World} {T T':TypeId} {B B':Nat} {st:ah} {x:StA} {now:Int} {cs:Array Value} (h:SrvAt w T B st x now) (hb:Blk w B' T' cs) (hc:jF cs) (hg:w.grownBy w' (some B')) (hne:B≠B'):SrvAt w' T B st x now:=
 ⟨aA hg h.blk hne,(h.at_.jk hb hc hg).more hg.size,h.ok,h.t⟩
def Ct (T:TypeId) (B:Nat) (st:ah) (R:DE) (w:World) (e:Ending) (w':World):Prop:=
 ∃ (D:aK) (dx:eW) (x':StA),e = .returned (.tuple #[.agg #[.int .i64 R.e,.int .i64 R.st.rev],.agg (dC D dx),.bool R.ch])∧D=(if R.ch=true then cF st R.st else ⟨0,0,[],[],[],[],[],[]⟩)∧dM w' w'.heap.size D dx∧Blk w' B T (AQ R.st x' R.now)∧StAt w' w'.heap.size R.st x'∧w.grownBy w' (some B)
def ByteRow (w:World) (v:Value) (l:List UInt8):Prop:=
 (v = .slice none 0 0∧l=[])∨∃ g more,v = .slice (some ⟨g,0,none⟩) l.length (l ++ more).length∧(l ++ more).length≤maxLen∧Blk w g 5 (aF (l ++ more)).toArray
theorem ByteRow.blk {w:World} {v:Value} {l:List UInt8} (h:ByteRow w v l) {g:Nat} (hg:v.ownBlock=some g):∃ cs,Blk w g 5 cs∧jF cs:=by
 rcases h with ⟨rfl,_⟩ | ⟨q,more,rfl,_,hb⟩
 · cases hg
 · injection hg with hg
   subst hg
   refine⟨_,hb,mO fun u hu s e=>?_⟩
   subst e
   simp [aF] at hu
theorem ByteRow.keep {w w':World} {v:Value} {l:List UInt8} (h:ByteRow w v l) (hk:∀ g,v.ownBlock=some g→w'.heap[g]? = w.heap[g]?):ByteRow w' v l:=by
 rcases h with h | ⟨g,more,rfl,hm,hb⟩
 · exact .inl h
 · exact .inr ⟨g,more,rfl,hm,(hk g rfl).trans hb⟩
theorem ByteRow.owns {w:World} {v:Value} {l:List UInt8} (h:ByteRow w v l):w.ownsRow 0 5 1 v l.length (aF l):=by
 refine⟨by rw [bK,Nat.mul_one],?_⟩
 rcases h with ⟨rfl,rfl⟩ | ⟨g,more,rfl,hm,hb⟩
 · exact .inl ⟨rfl,rfl⟩
 · refine .inr ⟨g,_,_,rfl,Nat.zero_le _,hb,by rw [List.length_append]; omega,hm,by simp [bK],?_⟩
   rw [Nat.mul_one,cV]
   simp only
   rw [List.take_left' (bK l)]
theorem ByteRow.shape {w:World} {v:Value} {l:List UInt8} (h:ByteRow w v l):∃ A c,v = .slice A l.length c:=by
 rcases h with ⟨rfl,rfl⟩ | ⟨g,more,rfl,_⟩
 · exact⟨_,_,rfl⟩
 · exact⟨_,_,rfl⟩
theorem ByteRow.nil (w:World):ByteRow w (.slice none 0 0) []:=.inl ⟨rfl,rfl⟩
theorem GI (k:Nat):Builtin.zeroCells (Value.cells (.int .u8 0)) k=(aF (List.replicate k 0)).toArray:=by
 have h:∀ k,(Builtin.zeroCells (Value.cells (.int .u8 0)) k).toList=aF (List.replicate k 0):=by
  intro k
  simp only [Builtin.zeroCells,Value.cells,aF,Array.toList_map,Array.toList_range,List.map_replicate]
  apply List.ext_getElem
  · simp
  · intro j h1 h2
    simp [Nat.mod_one]
 rw [← h k]
section
variable {P:Program} {w:World} {ops:Array Oper} {rest:List Oper} {o:Oper} {a:Act} {Q:Exit→Act→World→Prop}
theorem C0 {t u ty:TypeId} {v:Value} {l:List UInt8} {s:ByteArray} {i:TypeInfo} (ht:P.underlying t=some (.slice 5)) (hu:P.underlying u=some .string) (hi:P.info? 5 = some i) (hz:i.zero=some (.int .u8 0)) (hz1:i.size=1) (hz2:i.bytes=1) (hr:ByteRow w v l) (h0:0<s.size) (hm:l.length+s.size≤70368744177664) :
 ∃ v' w',(Builtin.append_ #[t,u] ty #[v,.string s]).run P w = .ok v' w'∧ByteRow w' v' (l ++ s.data.toList)∧dE w w' v v':=by
 have hsl:s.data.toList.length=s.size:=by simp
 have hgc:=fun n old=>grownCap_ge w n old 5
 have hgm:=fun n old (h:n≤maxLen)=>grownCap_le_maxLen w n old 5 h
 have C4:∀ old,ByteRow (w.drew.alloc (.cells ((aF (l ++ s.data.toList)).toArray ++ Builtin.zeroCells (Value.cells (.int .u8 0)) (grownCap w (l.length+s.size) old 5 - (l.length+s.size))) 5)) (.slice (some ⟨w.heap.size,0,none⟩) (l.length+s.size) (grownCap w (l.length+s.size) old 5)) (l ++ s.data.toList) ∧
  dE w (w.drew.alloc (.cells ((aF (l ++ s.data.toList)).toArray ++ Builtin.zeroCells (Value.cells (.int .u8 0)) (grownCap w (l.length+s.size) old 5 - (l.length+s.size))) 5)) v (.slice (some ⟨w.heap.size,0,none⟩) (l.length+s.size) (grownCap w (l.length+s.size) old 5)):=by
  intro old
  obtain⟨k,hk⟩:∃ k,grownCap w (l.length+s.size) old 5 = l.length+s.size+k:=⟨_,(Nat.add_sub_cancel' (hgc _ old)).symm⟩
  have hgm':=hgm (l.length+s.size) old (by unfold maxLen; omega)
  rw [hk,Nat.add_sub_cancel_left,GI] at *
  have hl:((l ++ s.data.toList) ++ List.replicate k 0).length=l.length+s.size+k:=by simp; omega
  have hz:(l ++ s.data.toList).length=l.length+s.size:=by simp
  have hbz:Below w.heap.size w (w.drew.alloc (.cells ((aF (l ++ s.data.toList)).toArray ++ (aF (List.replicate k 0)).toArray) 5)):=(Below.refl _ _).drew.alloc (Nat.le_refl _) _
  refine⟨.inr ⟨w.heap.size,List.replicate k 0,by rw [hl,hz],by rw [hl]; exact hgm',?_⟩,⟨⟨hbz.os,hbz.tape,hbz.output,hbz.size,fun k hk _=>hbz.block k hk⟩,.inr ⟨w.heap.size,rfl,Nat.le_refl _⟩⟩⟩
  have h:=heap_alloc_new w.drew (.cells ((aF (l ++ s.data.toList)).toArray ++ (aF (List.replicate k 0)).toArray) 5)
  rw [cV (l ++ s.data.toList)]
  simpa [Blk] using h
 rcases hr with ⟨rfl,rfl⟩ | ⟨g,more,rfl,hcm,hb⟩
 · have hr:=run_append_nil_string (P:=P) w t u ty 5 i _ ht hu hi hz s h0 (by omega) (by rw [hz2]; omega)
   have hN:=C4 0
   simp only [List.length_nil,Nat.zero_add,List.nil_append] at hN
   refine⟨_,_,hr,?_⟩
   rw [show s.data.map (fun b=>Value.int .u8 (b.toNat:Int))=(aF s.data.toList).toArray from by apply Array.ext'; simp [aF]]
   exact hN
 · by_cases hroom:l.length+s.size≤(l ++ more).length
   · have hr:=Lib.run_append_room_string (P:=P) w t u ty 5 i ht hu hi hz1 g l.length (l ++ more).length _ hb s hroom (by simp [bK] at hroom ⊢; omega)
     have hcs:(((aF (l ++ more)).toArray.toList.take l.length ++ Lib.strCells s ++ (aF (l ++ more)).toArray.toList.drop (l.length+s.size)).toArray:Array Value)=(aF ((l ++ s.data.toList) ++ more.drop s.size)).toArray:=by
      rw [show Lib.strCells s=aF s.data.toList from rfl]
      simp only [cV,List.append_assoc]
      congr 1
      rw [List.take_left' (bK l)]
      congr 2
      rw [← bK l,List.drop_append]
      simp [aF,List.map_drop]
     rw [hcs] at hr
     have hgr:w.grownBy (w.setRow g (aF ((l ++ s.data.toList) ++ more.drop s.size)).toArray) (some g):=⟨rfl,rfl,rfl,by simp,fun k _ hk=>setRow_other w g k _ (fun e=>hk (by simp [e]))⟩
     have hlen:((l ++ s.data.toList) ++ more.drop s.size).length=(l ++ more).length:=by simp at hroom ⊢; omega
     exact⟨_,_,hr,.inr ⟨g,more.drop s.size,by rw [hlen]; simp,by rw [hlen]; exact hcm,setRow_heap w g _ _ 5 _ hb⟩,⟨hgr,.inl rfl⟩⟩
   · have hr:=Lib.run_append_grow_string (P:=P) w t u ty 5 i _ ht hu hi hz ⟨g,0,none⟩ l.length (l ++ more).length (aF l) (by rw [hz1,bK,Nat.mul_one]) (fun j x hx=>by
      rw [Addr.add_lit]; have:=hb.cell (0+j); rw [this,Nat.zero_add,cV]; simp only [List.getElem?_toArray]; rw [List.getElem?_append_left (List.getElem?_eq_some_iff.1 hx).1]; exact hx) s (by omega) (by omega) (growslice_fits (by omega) (by rw [hz2]; omega))
     rw [show (aF l).toArray ++ (Lib.strCells s).toArray=(aF (l ++ s.data.toList)).toArray by rw [cV,show Lib.strCells s=aF s.data.toList from rfl]; simp] at hr
     exact⟨_,_,hr,(C4 _).1,(C4 _).2⟩
end
theorem Mb {w:World} {ops:Array Oper} {rest:List Oper} {o:Oper} {a:Act} {Q:Exit→Act→World→Prop} (hgd:o.guard=none) (s x:Operand) (ho:o.op = .call { callee:=.builtin .append,args:=#[s,x],argTypes:=#[118,9] })
 (v:Value) (l:List UInt8) (hs:a.eval s=v) (hr:ByteRow w v l) (t:ByteArray) (hx:a.eval x = .string t) (h0:0<t.size) (hm:l.length+t.size≤70368744177664)
 (h:∀ v' w',ByteRow w' v' (l ++ t.data.toList)→dE w w' v v'→wpList Tryz.prog ops Q rest (a.put o.dst v') w'):wpList Tryz.prog ops Q (o :: rest) a w:=by
 obtain⟨i0,hi,hz0,hz1,hz2⟩:=info_parts Tryz.infoU8
 obtain⟨v',w',hrun,h1,h2⟩:=C0 (P:=Tryz.prog) (w:=w) (ty:=o.type) Tryz.underlying118 Tryz.underlying9 hi hz0 hz1 hz2 hr h0 hm
 refine wpList_plain hgd fun _ hK=>?_
 unfold Oper.wp execOp
 simp only [ho,resolve,invoke,builtin,Sem.run_bind,Sem.run_pure,Result.andThen_ok,List.map_toArray,List.map_cons,List.map_nil,hs,hx,hrun]
 exact hK _ _ (h v' w' h1 h2)
theorem aQ.tL {W w2:World} {B g sz n:Nat} {rest:ByteArray} {a st:Int} {A:Option Addr} {xs:List Value} (h:aQ W B sz A n xs) (hb:gX W g rest a st) (h0:0<n→∃ s,xs[0]? = some (.string s)) (h1:0<n→∃ (j:Nat) (u:Value),xs[j]? = some u∧(#[.string rest,.int .i64 a,.int .i64 st]:Array Value)[j]? ≠ some u)
 (hg:W.grownBy w2 (some g)):aQ w2 B sz A n xs:=
 ⟨h.len,fun hn=>by
  obtain⟨b,off,e,hB,hr⟩:=h.at_ hn
  obtain⟨s,hs⟩:=h0 hn
  obtain⟨j,u,hu,hne⟩:=h1 hn
  have c0:=hr 0 _ hs
  have cj:=hr j _ hu
  have hbg:b≠g:=fun e=>by
   subst e
   rw [Blk.cell hb] at c0 cj
   have ho:off=0:=by
    rcases off with _ | _ | _ | off
    · rfl
    · simp at c0
    · simp at c0
    · simp at c0
   subst ho
   rw [Nat.zero_add] at cj
   exact hne cj
  exact⟨b,off,e,hB,fun j u hu=>hg.cell (hr j u hu) (fun e=>hbg (by simpa using e))⟩⟩
theorem C5 {α:Type} {enc:α→List Value} {l:List α} {n:Nat} (h:l.length=n) (hn:0<n):∃ a,∀ (j:Nat) u,(enc a)[j]? = some u→(au enc l)[j]? = some u:=by
 cases l with
 | nil=>simp at h; omega
 | cons a l=>
  refine⟨a,fun j u hu=>?_⟩
  obtain⟨hlt,_⟩:=List.getElem?_eq_some_iff.1 hu
  unfold au
  rw [List.flatMap_cons,List.getElem?_append_left hlt]; exact hu
theorem StAt.tL {W w2:World} {B g:Nat} {rest:ByteArray} {a st:Int} {s:ah} {x:StA} (h:StAt W B s x) (hb:gX W g rest a st) (hg:W.grownBy w2 (some g)):StAt w2 B s x:=
 ⟨h.j.tL hb (vM h.lj) (fun hn=>by obtain⟨a,ha⟩:=C5 (enc:=aH) h.lj hn; exact⟨3,_,ha 3 _ rfl,by simp⟩) hg,
  h.n.tL hb (sN h.ln) (fun hn=>by obtain⟨a,ha⟩:=C5 (enc:=aI) h.ln hn; exact⟨2,_,ha 2 _ rfl,by simp⟩) hg,
  h.l.tL hb (qJ h.ll) (fun hn=>by obtain⟨a,ha⟩:=C5 (enc:=aE) h.ll hn; exact⟨1,_,ha 1 _ rfl,by simp⟩) hg,
  h.lj,h.ln,h.ll,h.bj,h.bn,h.bl,h.oj,h.on_,h.ol⟩
theorem IC {s:ByteArray} {i:Nat} {c:UInt8} {r:List UInt8} (h:s.data.toList.drop i=c :: r):∃ h:i<s.size,s[i]=c∧s.data.toList.drop (i+1)=r:=by
 have hl:i<s.data.toList.length:=by
  have:=congrArg List.length h
  rw [List.length_drop,List.length_cons] at this
  omega
 rw [List.drop_eq_getElem_cons hl] at h
 injection h with h1 h2
 rw [o8] at hl
 exact⟨hl,by rw [← h1]; simp [ByteArray.getElem_eq_getElem_data],h2⟩
theorem EO (s:ByteArray) (r:List UInt8):∀ (f i acc n:Nat),f+i=10→(i=0∨0<n)→n*128 ^ i<18446744073709551616→∀ g,n<128 ^ (g+1)→s.data.toList.drop i=pz g n ++ r→rdB s f i acc=(acc+n*128 ^ i,i+(pz g n).length,0)
 | 0,i,acc,n,hf,h0,hn,g,hg,hd=>by
  exfalso
  have:i=10:=by omega
  subst this
  rcases h0 with h0 | h0
  · omega
  · have:1*128 ^ 10≤n*128 ^ 10:=Nat.mul_le_mul_right _ h0
    omega
 | f+1,i,acc,n,hf,h0,hn,g,hg,hd=>by
  by_cases h1:n<128
  · rw [kT h1] at hd ⊢
    obtain⟨hi,hc,_⟩:=IC hd
    have hcn:s[i].toNat=n:=by rw [hc,UInt8.toNat_ofNat']; omega
    have h9:i=9→n≤1:=by
     intro e
     subst e
     rcases Nat.lt_or_ge 1 n with h2 | h2
     · have:2*128 ^ 9≤n*128 ^ 9:=Nat.mul_le_mul_right _ h2
       omega
     · exact h2
    rw [rdB,dif_pos hi,hcn,if_neg (by omega),if_pos h1,Nat.mod_eq_of_lt h1]
    rfl
  · obtain⟨g',rfl⟩:∃ g',g=g'+1:=by
     cases g with
     | zero=>exact absurd (by simpa using hg) h1
     | succ g'=>exact⟨g',rfl⟩
    have e:pz (g'+1) n=UInt8.ofNat (n % 128+128) :: pz g' (n / 128):=by rw [pz,if_neg h1]
    rw [e] at hd ⊢
    obtain⟨hi,hc,hd'⟩:=IC hd
    have hcn:s[i].toNat=n % 128+128:=by rw [hc,UInt8.toNat_ofNat']; omega
    have h9:i≠9:=by
     rintro rfl
     have:128*128 ^ 9≤n*128 ^ 9:=Nat.mul_le_mul_right _ (by omega)
     omega
    have hdiv:n / 128*128 ^ (i+1)+n % 128*128 ^ i=n*128 ^ i:=by
     have:=Nat.div_add_mod n 128
     rw [Nat.pow_succ,Nat.mul_comm (128 ^ i) 128,← Nat.mul_assoc,← Nat.add_mul,Nat.mul_comm (n / 128) 128,this]
    rw [rdB,dif_pos hi,hcn,if_neg (by omega),if_neg (by omega),EO s r f (i+1) _ (n / 128) (by omega) (.inr (by omega)) (by omega) g' (by
     rw [Nat.pow_succ] at hg
     exact Nat.div_lt_of_lt_mul (by rw [Nat.mul_comm]; exact hg)) hd']
    have e2:(n % 128+128) % 128=n % 128:=by omega
    rw [e2,List.length_cons]
    refine Prod.ext ?_ (Prod.ext ?_ rfl)
    · show acc+n % 128*128 ^ i+n / 128*128 ^ (i+1)=acc+n*128 ^ i
      omega
    · show i+1+(pz g' (n / 128)).length=i+((pz g' (n / 128)).length+1)
      omega
theorem tD (n:Nat) (hn:n<18446744073709551616) (r:List UInt8):rdNum (BA (bg n ++ r))=(n,(bg n).length,0):=by
 have:=EO (BA (bg n ++ r)) r 10 0 0 n rfl (.inl rfl) (by simpa using hn) 10 (by omega) rfl
 rw [show pz 10 n=bg n from rfl] at this
 simpa [rdNum] using this
theorem jH (n:Nat) (hn:n≤4611686018427387904) (r:List UInt8):bZ (BA (bg n ++ r)) = .ok n (BA r):=by
 rw [Cm (tD n (by omega) r) (by omega),sD,List.drop_left]
theorem Og {s:ByteArray} (h:iZ s=true):gA s=bg s.size ++ s.data.toList:=by
 unfold iZ at h
 simp only [Bool.and_eq_true,decide_eq_true_eq] at h
 unfold gA tQ
 rw [if_neg (by omega),if_pos h.2,sK (by omega)]
 simp [ByteArray.data_append]
theorem GJ (a b c:List UInt8):(BA (a ++ (b ++ c))).extract a.length (a.length+b.length)=BA b:=by
 rw [← yu ((BA (a ++ (b ++ c))).extract a.length (a.length+b.length))]
 congr 1
 rw [ByteArray.data_extract,Array.toList_extract,List.extract_eq_take_drop,ko,List.drop_left,Nat.add_sub_cancel_left,List.take_left]
theorem kU {s:ByteArray} (h:iZ s=true) (r:List UInt8):bP (BA (gA s ++ r)) = .ok s (BA r):=by
 have h':=h
 unfold iZ at h'
 simp only [Bool.and_eq_true,decide_eq_true_eq] at h'
 rw [Og h,List.append_assoc]
 have hr:=tD s.size (by omega) (s.data.toList ++ r)
 have hm:=GJ (bg s.size) s.data.toList r
 rw [o8] at hm
 have hx:(BA (bg s.size ++ (s.data.toList ++ r))).extract (bg s.size).length ((bg s.size).length+s.size)=s:=hm
 rw [tP (Co hr (by omega) (by rw [cT,List.length_append,List.length_append,o8]; omega) (by rw [hx]; exact h'.2)),hx,sD]
 congr 2
 rw [← List.append_assoc,show (bg s.size).length+s.size=(bg s.size ++ s.data.toList).length by rw [List.length_append,o8],List.drop_left]
theorem Oh (n:Int):lO (pq n)=n:=by
 unfold pq lO
 split
 · rw [if_pos (by omega)]; omega
 · rw [if_neg (by omega)]; omega
theorem uJ {s:ByteArray} (h:cK s=true):iZ s=true:=by
 unfold cK at h
 simp only [Bool.and_eq_true] at h
 exact h.2
theorem Bv {x:aB} (h:eZ x=0) (r:List UInt8):iR 3 (BA (eC x 3 ++ r)) = .ok x (BA r):=by
 obtain⟨h1,h2,h3,h4,h5⟩:=fQ h
 have e:eC x 3 ++ r=gA x.name ++ (bg (pq x.prio).toNat ++ (bg x.need.toNat ++ (bg x.tries.toNat ++ (gA x.tag ++ r)))):=by simp [eC]
 have hz0:0≤pq x.prio∧pq x.prio≤2000:=by unfold pq; split <;> omega
 rw [e]
 unfold iR
 rw [kU (uJ h1),RR.bind_ok,jH _ (by omega),RR.bind_ok,jH _ (by omega),RR.bind_ok,if_pos (by decide),jH _ (by omega),RR.bind_ok,if_pos (by decide),kU h2,RR.bind_ok]
 rw [Int.toNat_of_nonneg hz0.1,Oh,Int.toNat_of_nonneg h4.1,Int.toNat_of_nonneg h5.1]
theorem Gh {x:av} (h:eV x=0) (r:List UInt8):gy 3 (BA (cZ x 3 ++ r)) = .ok x (BA r):=by
 obtain⟨h1,h2,h3⟩:=iJ h
 have e:cZ x 3 ++ r=gA x.name ++ (bg x.room.toNat ++ (gA x.zone ++ r)):=by simp [cZ]
 rw [e]
 unfold gy
 rw [kU (uJ h1),RR.bind_ok,jH _ (by omega),RR.bind_ok,if_pos (by decide),kU h2,RR.bind_ok,Int.toNat_of_nonneg h3.1]
theorem Em {x:ak} (h:lsE x=0) (r:List UInt8):gE (BA (eQ x ++ r)) = .ok x (BA r):=by
 obtain⟨h1,h2,h3⟩:=Dz h
 have e:eQ x ++ r=gA x.job ++ (gA x.node ++ (bg x.till.toNat ++ r)):=by simp [eQ]
 rw [e]
 unfold gE
 rw [kU (uJ h1),RR.bind_ok,kU (uJ h2),RR.bind_ok,jH _ (by omega),RR.bind_ok,Int.toNat_of_nonneg h3.1]
theorem BZ {α:Type} {p:ByteArray→RR α} {F:α→List UInt8}:∀ (l:List α) (r:List UInt8),(∀ x ∈ l,∀ r,p (BA (F x ++ r)) = .ok x (BA r))→vA p l.length (BA (l.flatMap F ++ r)) = .ok l (BA r)
 | [],r,_=>rfl
 | x :: l,r,h=>by
  rw [List.length_cons,vA,List.flatMap_cons,List.append_assoc,h x List.mem_cons_self,RR.bind_ok,BZ l r (fun y hy=>h y (List.mem_cons_of_mem _ hy)),RR.bind_ok]
theorem sY {α:Type} {p:ByteArray→RR α} {F:α→List UInt8} (most:Nat) (hm:most≤100) (l:List α) (r:List UInt8) (hl:l.length≤most) (h:∀ x ∈ l,∀ r,p (BA (F x ++ r)) = .ok x (BA r)):dH most p (BA (fM F l ++ r)) = .ok l (BA r):=by
 unfold dH Ib fM
 rw [List.append_assoc,jH _ (by omega),RR.bind_ok,if_neg (by omega),RR.bind_ok,BZ l r h]
theorem Eu (v k:Nat) (p:List UInt8) (hv:1≤v∧v≤3) (hk:1≤k∧k≤4) (hp:p.length≤6000):eK (BA (gB v k p))=(⟨v,k,BA p⟩,(gB v k p).length,0):=by
 have ev:(UInt8.ofNat v).toNat=v:=by rw [UInt8.toNat_ofNat']; omega
 have ek:(UInt8.ofNat k).toNat=k:=by rw [UInt8.toNat_ofNat']; omega
 have e:gB v k p=66 :: 75 :: UInt8.ofNat v :: UInt8.ofNat k :: (bg p.length ++ (p ++ oP (oQ v k p))):=by simp [gB,oQ]
 have hs4:(oP (oQ v k p)).length=4:=rfl
 have hB:(oQ v k p).length=4+(bg p.length).length+p.length:=by simp [oQ]; omega
 have hL:(gB v k p).length=8+(bg p.length).length+p.length:=by
  unfold gB; rw [List.length_append,hB,hs4]; omega
 have b0:aP (BA (gB v k p)) 0=66:=by unfold aP; rw [ko,e]; rfl
 have b1:aP (BA (gB v k p)) 1=75:=by unfold aP; rw [ko,e]; rfl
 have b2:aP (BA (gB v k p)) 2=v:=by unfold aP; rw [ko,e]; exact ev
 have b3:aP (BA (gB v k p)) 3=k:=by unfold aP; rw [ko,e]; exact ek
 have hd:jU (BA (gB v k p))=0:=by
  unfold jU
  rw [b0,b1,b2,b3,cT,hL]
  rw [if_neg (by omega),if_neg (by omega),if_neg (by omega),if_neg (by omega),if_neg (by omega)]
 have hr:rdNum ((BA (gB v k p)).extract 4 (BA (gB v k p)).size)=(p.length,(bg p.length).length,0):=by
  rw [sD,e]
  exact tD p.length (by omega) (p ++ oP (oQ v k p))
 have h1:(BA (gB v k p)).extract (4+(bg p.length).length+p.length) (8+(bg p.length).length+p.length)=BA (oP (oQ v k p)):=by
  have:=GJ (oQ v k p) (oP (oQ v k p)) []
  rw [hB,hs4,List.append_nil] at this
  rw [show 8+(bg p.length).length+p.length=4+(bg p.length).length+p.length+4 by omega]
  exact this
 have h2:(BA (gB v k p)).extract 0 (4+(bg p.length).length+p.length)=BA (oQ v k p):=by
  rw [Cc _ _ (by omega),← hB]
  unfold gB
  rw [List.take_left]
 have h3:(BA (gB v k p)).extract (4+(bg p.length).length) (4+(bg p.length).length+p.length)=BA p:=by
  have:=GJ ([66,75,UInt8.ofNat v,UInt8.ofNat k] ++ bg p.length) p (oP (oQ v k p))
  rw [show ([66,75,UInt8.ofNat v,UInt8.ofNat k] ++ bg p.length).length=4+(bg p.length).length by simp; omega] at this
  rw [e]
  exact this
 rw [DO hd hr (by omega) (by rw [cT,hL]; omega) (by rw [h1,h2,ko,ko]),b2,b3,h3,hL]
theorem sZ:eK ⟨#[]⟩=(.zero,0,3):=rfl
theorem Oi (v k:Nat) (p:List UInt8) (hv:1≤v∧v≤3) (hk:1≤k∧k≤4) (hp:p.length≤6000):Frs (BA (gB v k p)) [⟨v,k,BA p⟩] (gB v k p).length 3:=by
 have h:=Frs.step (Eu v k p hv hk hp) (by simp [gB,oQ]) (Nat.le_of_eq (cT _).symm) (fs:=[]) (m:=0) (e:=3) (by
  rw [sD,List.drop_of_length_le (Nat.le_refl _)]
  exact Frs.stop sZ (by decide))
 simpa using h
def EP:aB:=⟨⟨#[97]⟩,0,0,0,⟨#[]⟩⟩
def jL:cJ:=⟨1,EP,kK,iU,⟨#[]⟩,0⟩
def Oj:ah:=⟨1,[EP],[],[]⟩
theorem ID:eZ EP=0:=by decide +kernel
theorem uK:kB jL=0:=by
 have h1:ranged jL.kind 1 9=true:=by decide
 have h2:DC jL=jL:=rfl
 have h3:oM jL=0:=ID
 unfold kB
 rw [if_neg (by rw [h1]; simp),if_neg (by simp [h2]),h3]
theorem Ok:ay aY=0:=by decide +kernel
theorem Ol:ay ⟨0,[EP],[],[]⟩=0:=by decide +kernel
theorem doA:doR aY 0 jL=(0,⟨0,[EP],[],[]⟩,0):=by
 unfold doR
 rw [if_pos (show jL.kind=1 from rfl)]
 have:lV aY jL.job=⟨0,[EP],[],[]⟩:=rfl
 rw [this,Ol]
theorem srvA:qp aY 0 (pR aY 0 jL)=⟨0,true,Oj,0⟩:=by
 unfold pR
 rw [if_pos uK,doA]
 unfold qp
 rw [if_pos rfl,if_neg (by rintro⟨h,_⟩; cases h),if_neg (by decide)]
 rfl
def xT:List UInt8:=bg 1 ++ eC EP 3
def pB:List UInt8:=gB 3 3 xT
theorem frsA:Frs (BA pB) [⟨3,3,BA xT⟩] pB.length 3:=Oi 3 3 xT (by decide) (by decide) (by decide +kernel)
theorem Jq:sV 3 3 (BA xT)=(BA pB,0):=by
 unfold sV
 rw [if_neg (by decide),if_neg (by decide +kernel)]
 rfl
noncomputable def nu (t:ByteArray):ah × Int:=
 if 60000<t.size then (aY,2) else if h:∃ st,ay st=0∧(⟨(eU st).toArray⟩:ByteArray)=t then (h.choose,0) else (aY,4)
theorem GK {st:ah} (h:ay st=0):MidS st:=by
 have g:=Ea h
 have hr0:=g.r0
 have hr1:=g.r1
 refine⟨?_,fun x hx=>?_,fun x hx=>?_,fun x hx=>?_⟩
 · show -1000000000000000000<st.rev∧st.rev<1000000000000000000; omega
 · obtain⟨h1,h2,h3,h4,h5⟩:=g.job hx
   show (-1000000000000000000<x.prio∧x.prio<1000000000000000000)∧(-1000000000000000000<x.need∧x.need<1000000000000000000)∧(-1000000000000000000<x.tries∧x.tries<1000000000000000000)
   omega
 · obtain⟨h1,h2,h3⟩:=g.node hx
   show -1000000000000000000<x.room∧x.room<1000000000000000000
   omega
 · obtain⟨h1,h2,h3⟩:=g.lease hx
   show -1000000000000000000<x.till∧x.till<1000000000000000000
   omega
theorem C6 {st:ah} {t:ByteArray} (h:(⟨(eU st).toArray⟩:ByteArray)=t):eU st=t.data.toList:=by rw [← h]
theorem JT {st st':ah} (h:ay st=0) (h':ay st'=0) (he:eU st=eU st'):st=st':=by
 have h1:=tC st (GK h)
 rw [he,tC st' (GK h')] at h1
 injection h1 with h1 _
 exact h1.symm
theorem CK {t:ByteArray} (h:60000<t.size):nu t=(aY,2):=by unfold nu; rw [if_pos h]
theorem BL {st:ah} {t:ByteArray} (hl:¬ 60000<t.size) (h:ay st=0) (ht:(⟨(eU st).toArray⟩:ByteArray)=t):nu t=(st,0):=by
 unfold nu
 have hx:∃ st,ay st=0∧(⟨(eU st).toArray⟩:ByteArray)=t:=⟨st,h,ht⟩
 rw [if_neg hl,dif_pos hx]
 have hc:=hx.choose_spec
 rw [JT hc.1 h ((C6 hc.2).trans (C6 ht).symm)]
theorem JU {t:ByteArray} (hl:¬ 60000<t.size) (h:∀ st,ay st=0→(⟨(eU st).toArray⟩:ByteArray)≠t):nu t=(aY,4):=by
 unfold nu
 rw [if_neg hl,dif_neg]
 rintro⟨st,h1,h2⟩
 exact h st h1 h2
theorem LP {t:ByteArray} (hl:¬ 60000<t.size) (h:(lY t.data.toList).2.2=true∨(lY t.data.toList).2.1≠[]∨ay (lY t.data.toList).1≠0∨(⟨(eU (lY t.data.toList).1).toArray⟩:ByteArray)≠t):nu t=(aY,4):=by
 refine JU hl fun st hc ht=>?_
 have e:=tC st (GK hc)
 rw [C6 ht] at e
 rw [e] at h
 rcases h with h | h | h | h
 · cases h
 · exact h rfl
 · exact h hc
 · exact h ht
end Go.Proofs.YtcpgnjmaampglaaGreatDoor
