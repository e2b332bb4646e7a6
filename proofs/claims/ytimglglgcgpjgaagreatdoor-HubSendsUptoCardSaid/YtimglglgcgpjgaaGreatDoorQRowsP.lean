/- Of the proof of a statement: PlGone, Lease, RowsL, RowsP, PlGood, ChkR, RowsR, PutR. -/
import Derived.Deep.QuietTactic
import Derived.BigQuiet
import Derived.Lib.QuietBelow
import Derived.Test.YtimglglgcgpjgaaGreatDoorQPk
import Derived.Test.YtimglglgcgpjgaaGreatDoorQUtf
set_option linter.unusedVariables false
set_option linter.unusedSimpArgs false
set_option maxRecDepth 100000
set_option maxHeartbeats 8000000
namespace Go.Proofs.YtimglglgcgpjgaaGreatDoor
open Go.Op (bytesLess)
open Go.RowKit
open Go.Lib (validD)
def cD (l:List ak) (s:ByteArray):Option ak:=l.find? fun x=>decide (x.job=s)
def fW (has:ByteArray->Bool):Option ByteArray->List ByteArray->Int
 | _,[]=>0
 | p,s :: l=>if cP s=true then (if before p s=true then (if has s=true then 7 else fW has (some s) l) else 8) else 4
def jL (has:ByteArray->Bool) (l:List ByteArray):Int:=fW has none l
def rW (s:ByteArray):ByteArray:=s
section
variable {has:ByteArray->Bool} {l:List ByteArray} {k:Nat} {s:ByteArray}
theorem Cf (h:l[k]? = some s) (a:cP s=false):fW has (prevK rW l k) (l.drop k)=4:=by
 rw [drop_cons h,fW,if_neg (by rw [a]; simp)]
theorem AI {y:ByteArray} (h:l[k]? = some s) (c:cP s=true) (a:k≠0) (d:l[k - 1]? = some y) (b:bytesLess y.toList s.toList=false):fW has (prevK rW l k) (l.drop k)=8:=by
 rw [drop_cons h,fW,if_pos c,if_neg];unfold prevK before;rw [if_neg a,d];simp [rW,b]
theorem zo (b:k=0\/∃ y,l[k - 1]? = some y/\bytesLess y.toList s.toList=true):before (prevK rW l k) s=true:=by
 unfold prevK before;rcases b with rfl | ⟨y,d,c⟩
 · rfl
 · by_cases a:k=0
   · rw [if_pos a]
   · rw [if_neg a,d]; exact c
theorem rI (h:l[k]? = some s) (c:cP s=true) (a:k=0\/∃ y,l[k - 1]? = some y/\bytesLess y.toList s.toList=true) (b:has s=true):fW has (prevK rW l k) (l.drop k)=7:=by
 rw [drop_cons h,fW,if_pos c,if_pos (zo a),if_pos b]
theorem l7 (h:l[k]? = some s) (d:cP s=true) (b:k=0\/∃ y,l[k - 1]? = some y/\bytesLess y.toList s.toList=true) (c:has s=false) :
 fW has (prevK rW l k) (l.drop k)=fW has (prevK rW l (k+1)) (l.drop (k+1)):=by
 have a:prevK rW l (k+1)=some s:=by unfold prevK; rw [if_neg (by omega),Nat.add_sub_cancel,h]; rfl
 rw [drop_cons h,fW,if_pos d,if_pos (zo b),if_neg (by rw [c]; simp),a]
theorem El (h:l.length<=k) (p:Option ByteArray):fW has p (l.drop k)=0:=by
 rw [List.drop_of_length_le h]; rfl
end
def lR (s:ByteArray):List Value:=[.string s]
theorem iY (s:ByteArray):(lR s).length=1:=rfl
def lsE (l:ak):Int:=if cP l.job && cP l.node then (if ranged l.till 0 1099511627776 then 0 else 1) else 4
structure aX where
 from_:Int
 to_:Int
 jobs:List aC
 nodes:List av
 leases:List ak
 gj:List ByteArray
 gn:List ByteArray
 gl:List ByteArray
def jW (d:aX):Bool:=decide (d.jobs.length<=40) && decide (d.leases.length<=40) && decide (d.gj.length<=40) && decide (d.gl.length<=40) && decide (d.nodes.length<=20) && decide (d.gn.length<=20)
def lD (d:aX):Bool:=ranged d.from_ 0 1099511627776 && decide (d.from_<d.to_) && decide (d.to_<=1099511627776)
def iL:List Int->Int
 | []=>0
 | e :: l=>if e=0 then iL l else e
def AG (d:aX):List Int:=
 [cE fS aC.name d.jobs,cE dP av.name d.nodes,cE lsE ak.job d.leases,
  jL (fun s=>(cC d.jobs s).isSome) d.gj,jL (fun s=>(bU d.nodes s).isSome) d.gn,jL (fun s=>(cD d.leases s).isSome) d.gl]
def gG (d:aX):Int:=if lD d=false then 1 else if jW d=false then 2 else iL (AG d)
theorem kI {e:Int} {l:List Int} (h:e=0):iL (e :: l)=iL l:=by unfold iL; rw [if_pos h]; cases l <;> rfl
theorem jm {e:Int} {l:List Int} (h:e≠0):iL (e :: l)=e:=by unfold iL; rw [if_neg h]
def sO (l:List aC) (s:ByteArray):Option Value:=(cC l s).map fun j=>.agg (aS j).toArray
def pJ (l:List av) (s:ByteArray):Option Value:=(bU l s).map fun n=>.agg (aH n).toArray
structure jV (w:World) (T b1 b2 b3 n1 n2 n3:Nat) (g1 g2 g3:ByteArray->Option Value):Prop where
 t:Blk w T 200 #[.map (some b1),.map (some b2),.map (some b3)]
 m1:eU w b1 n1 g1
 m2:eU w b2 n2 g2
 m3:eU w b3 n3 g3
theorem NC (w:World):(zeroValue 85).run Tryz.prog w = .ok (.agg #[.string ⟨#[]⟩,(0:Int),(0:Int),(0:Int),.string ⟨#[]⟩]) w:=by kernel_rfl
theorem L6 (w:World):(zeroValue 70).run Tryz.prog w = .ok (.agg #[.string ⟨#[]⟩,(0:Int),.string ⟨#[]⟩]) w:=by kernel_rfl
theorem It (w:World):(zeroValue 3).run Tryz.prog w = .ok (.int .i64 0) w:=by kernel_rfl
theorem JG (l:List aC) (s:ByteArray):∃ (j:aC),(sO l s).getD (.agg #[.string ⟨#[]⟩,(0:Int),(0:Int),(0:Int),.string ⟨#[]⟩]) = .agg #[j.name,j.prio,j.need,j.tries,j.tag]/\(sO l s).isSome=(cC l s).isSome/\(∀ x,cC l s=some x->x=j):=by
 unfold sO
 cases h:cC l s with
 | none=>exact⟨⟨⟨#[]⟩,0,0,0,⟨#[]⟩⟩,rfl,rfl,fun x e=>by cases e⟩
 | some j=>exact⟨j,rfl,rfl,fun x e=>by injection e with e; exact e.symm⟩
theorem GC (l:List av) (s:ByteArray):∃ (n:av),(pJ l s).getD (.agg #[.string ⟨#[]⟩,(0:Int),.string ⟨#[]⟩]) = .agg #[n.name,n.room,n.zone]/\(pJ l s).isSome=(bU l s).isSome:=by
 unfold pJ
 cases h:bU l s with
 | none=>exact⟨⟨⟨#[]⟩,0,⟨#[]⟩⟩,rfl,rfl⟩
 | some n=>exact⟨n,rfl,rfl⟩
def rF (g:ByteArray->Option Value) (U:ByteArray->Int):Prop:=∀ s,(g s).getD (.int .i64 0) = .int .i64 (U s)
def uy (st:ah) (l:ak) (b3 n3:Nat) (U:ByteArray->Int) (w:World) (e:Ending) (w':World):Prop:=
 e = .returned (.int .i64 (dN st l))/\w.grownBy w' (some b3)/\(dN st l=0->∃ g,eU w' b3 (n3+1) g/\rF g (fun s=>U s+fV st l s))
theorem uy.six {st:ah} {l:ak} {b3 n3:Nat} {U:ByteArray->Int} {w w':World} (h:dN st l=6) (a:Below w w w'):uy st l b3 n3 U w (.returned (.int .i64 6)) w':=
 ⟨by rw [h],iT (World.grownBy.refl w _) a,fun e=>by rw [h] at e; cases e⟩
theorem JH (st:ah) (l:ak) (w:World) (T b1 b2 b3 n1 n2 n3:Nat) (g3:ByteArray->Option Value) (U:ByteArray->Int) (h1:l.job.size<=maxLen) (C:l.node.size<=maxLen) (au:n3<=1000)
 (zq:∀ j ∈ st.jobs,0<=j.need/\j.need<=1000000) (P:rF g3 U) (aj:∀ s,0<=U s/\U s<=1000000000)
 (a:jV w T b1 b2 b3 n1 n2 n3 (sO st.jobs) (pJ st.nodes) g3) :
 ψ 136 #[π T 0,.agg (aB l).toArray] w (uy st l b3 n3 U w):=by
 have N6:=ω (fun (ap:dN st l=6) w'=>uy.six (b3:=b3) (n3:=n3) (U:=U) (w:=w) (w':=w') ap);obtain⟨j,S,V,X⟩:=JG st.jobs l.job;obtain⟨n,Y,Z⟩:=GC st.nodes l.node;have hE:dN st l=if (cC st.jobs l.job).isSome && (bU st.nodes l.node).isSome then (if ranged l.till 0 1099511627776 then 0 else 1) else 6:=rfl;have h:=ω hE
 have hN:∀ s,(cC st.jobs l.job).isSome=true->fV st l s=if l.node=s then j.need else 0:=by
  intro s d;unfold fV
  cases r:cC st.jobs l.job with
  | none=>rw [r] at d; cases d
  | some I=>rw [X I r]
 have al:(cC st.jobs l.job).isSome=true->0<=j.need/\j.need<=1000000:=by
  intro d
  cases r:cC st.jobs l.job with
  | none=>rw [r] at d; cases d
  | some I=>rw [<- X I r]; exact zq I (List.mem_of_find?_eq_some r)
 have z:=ω hN;have J:=ω al;generalize (cC st.jobs l.job).isSome=bj at V h z J;generalize (bU st.nodes l.node).isSome=bn at Z h;clear hE X zq hN al;have av:l.node=l.node:=rfl;obtain⟨L,hL⟩:∃ L,L=l:=⟨_,rfl⟩;have HL:=ω hL;clear hL;obtain⟨job,node,b⟩:=l;unfold aB;simp only at h1 C S V Y Z |-;obtain⟨v,x,e,y,u⟩:=j;obtain⟨F,G,H⟩:=n;simp only at S Y J z;have O:=a.t.lt;have z0:ζ w T 0 (.map (some b1)):=a.t.cell 0;have z1:ζ w T 1 (.map (some b2)):=a.t.cell 1;have z2:ζ w T 2 (.map (some b3)):=a.t.cell 2;have i:=(Below.refl w w).alloc lJ (.cells #[job,node,b] 66);have c:=i.alloc i.size (.cells #[v,x,e,y,u] 85);have q:=c.alloc c.size (.cells #[F,G,H] 70)
 have K:∀ W,Below w w W->(Instr.lookup 196 (.map (some b1)) (.string job) true).run Tryz.prog W = .ok (.tuple #[.agg #[v,x,e,y,u],.bool bj]) W:=fun W Q=>by
  rw [(a.m1.below Q a.m1.lt).look_ok Tryz.underlying196 (NC W) job h1,S,V]
 have M:∀ W,Below w w W->(Instr.lookup 197 (.map (some b2)) (.string node) true).run Tryz.prog W = .ok (.tuple #[.agg #[F,G,H],.bool bn]) W:=fun W Q=>by
  rw [(a.m2.below Q a.m2.lt).look_ok Tryz.underlying197 (L6 W) node C,Y,Z]
 have r0:=K _ (i.drew);have r1:=fun o=>K _ ((i.alloc i.size o).drew);have r2:=M _ (c.drew.drew);have r3:=fun o=>M _ ((c.alloc c.size o).drew.drew);have D:=(a.m3.below q.drew.drew.drew a.m3.lt).look Tryz.underlying198 (It _) node C;rw [P node] at D;obtain⟨w5,aa,am,R⟩:=(a.m3.below q.drew.drew.drew a.m3.lt).put Tryz.underlying198 (by unfold maxLen; omega) node C (.int .i64 (U node+e));have aw:=aj node;have ae:=ω R;have af:=ω am;have ag:=ω P;have ac:=ω q.drew.drew;have ad:=ω q.drew.drew.drew;have x1:ζ ((w.alloc (.cells #[job,node,b] 66)).alloc (.cells #[v,x,e,y,u] 85)) w 1 (.string node):=by simp [go_sem]
 have p1:=(c.cell (p:=⟨T,1,none⟩) O).trans z1;have p2:=fun o=>((c.alloc c.size o).cell (p:=⟨T,1,none⟩) O).trans z1;have p3:=fun (o:Obj)=>(((θ).alloc lJ o).cell (p:=⟨w,1,none⟩) (show w.heap.size<((w.alloc (.cells #[job,node,b] 66)).alloc (.cells #[v,x,e,y,u] 85)).heap.size by simp; omega)).trans x1;have q1:=(q.cell (p:=⟨T,2,none⟩) O).trans z2;have x2:ζ (((w.alloc (.cells #[job,node,b] 66)).alloc (.cells #[v,x,e,y,u] 85)).alloc (.cells #[F,G,H] 70)) w 2 (.int .i64 b):=by simp [go_sem]
 have x3:ζ (((w.alloc (.cells #[job,node,b] 66)).alloc (.cells #[v,x,e,y,u] 85)).alloc (.cells #[F,G,H] 70)) (w.heap.size+1) 2 (.int .i64 e):=by simp [go_sem]
 have aq:=a.m3.lt;have ab:ζ w5 w 2 (.int .i64 b):=R.cell x2 (by simp; omega);have ao:=ω ab;clear K M a i c q R am P aj ab x2;go_enter Tryz.func136,Tryz.ntmps136;go_wp2
 go_region
 clear r0 r1;go_wp2
 go_region
 clear r2 r3 p1 p2 p3 x1;cases bj
 · have N:=ω (N6.z (by rw [h.z]; rfl));clear aa D;go_wp2;go_ret;exact N.z _ ac.z
 cases bn
 · have N:=ω (N6.z (by rw [h.z]; rfl));clear aa D;go_wp2;go_ret;exact N.z _ ac.z
 have ar:=J.z rfl;go_wp2
 go_region
 clear aa D q1 x3;have ab:=ao.z
 have E:=ω (show w.grownBy w5 (some b3)/\∃ g,eU w5 b3 (n3+1) g/\rF g (fun s=>U s+fV st ⟨job,node,b⟩ s) from
  ⟨(iT (World.grownBy.refl w _) ad.z).trans ae.z,_,af,fun s=>by
   show _=Value.int .i64 (U s+fV st ⟨job,node,b⟩ s)
   rw [z.z s trivial];by_cases d:s=node
   · subst d;rw [if_pos rfl,if_pos rfl]; rfl
   · rw [if_neg d,if_neg (fun ai=>d ai.symm),ag.z s,Int.add_zero]⟩)
 clear ae af z ag ad
 go_wp2_with fail
 refine Calls.mono (ku _ _ _ _) ?_;rintro ai w6 ⟨rfl,rfl⟩;cases hr:ranged b 0 1099511627776
 · go_wp2;go_ret;exact⟨aY (by rw [h.z,hr]; rfl),E.z.1,fun _=>E.z.2⟩
 · go_wp2;go_ret;exact⟨aY (by rw [h.z,hr]; rfl),E.z.1,fun _=>E.z.2⟩
theorem fG (job node:ByteArray) (till:Int) (w:World):ψ 135 #[.agg #[job,node,till]] w fun e w'=>e = .returned (.string job)/\Below w w w':=by
 have a:=ω ((Below.refl w w).alloc lJ (.cells #[job,node,till] 66));go_enter Tryz.func135,Tryz.ntmps135;go_wp2;go_ret;exact⟨rfl,a⟩
def lI (xs:List ak):Prop:=∀ x ∈ xs,x.job.size<=9223372036854775807/\x.node.size<=9223372036854775807
section
variable {w w':World} {B sz n g:Nat} {A:Option Addr} {xs:List Value}
theorem bC.but (h:bC w B sz A n xs) (c:w.grownBy w' (some g)) (p:B<=g):bC w' B sz A n xs:=
 ⟨h.len,fun d=>by
  obtain⟨b,o,e,a,f⟩:=h.at_ d;exact⟨b,o,e,a,fun j u i=>c.cell (f j u i) (by simp; omega)⟩⟩
end
section
variable {w w':World} {T b1 b2 b3 n1 n2 n3 m:Nat} {g1 g2 g3 g:ByteArray->Option Value}
theorem jV.below (h:jV w T b1 b2 b3 n1 n2 n3 g1 g2 g3) (a:Below w w w'):jV w' T b1 b2 b3 n1 n2 n3 g1 g2 g3:=
 ⟨h.t.below a h.t.lt,h.m1.below a h.m1.lt,h.m2.below a h.m2.lt,h.m3.below a h.m3.lt⟩
theorem jV.used (h:jV w T b1 b2 b3 n1 n2 n3 g1 g2 g3) (a:w.grownBy w' (some b3)) (b:b1≠b3) (c:b2≠b3) (d:T≠b3) (e:eU w' b3 m g):jV w' T b1 b2 b3 n1 n2 m g1 g2 g:=
 ⟨(a.block T h.t.lt (by simp [d])).trans h.t,h.m1.but a b,h.m2.but a c,e⟩
end
def PY (st:ah) (n:Nat) (R:Int) (w:World) (T b1 b2 b3 n1 n2:Nat) (i:Value) (wr:World):Prop:=
 ∃ (k:Nat) (g3:ByteArray->Option Value),k<=n/\i = .int .i64 k/\eG (dN st) ak.job (prevK ak.job st.leases k) (st.leases.drop k)=R/\w.grownBy wr (some b3) /\
  jV wr T b1 b2 b3 n1 n2 k (sO st.jobs) (pJ st.nodes) g3/\rF g3 (fun s=>fX st s (st.leases.take k))
def Pd (st:ah) (n:Nat) (R:Int) (b3:Nat) (w:World) (e:Ending) (w':World):Prop:=
 e = .returned (.int .i64 R)/\w.grownBy w' (some b3)/\(R=0->∃ g,eU w' b3 n g/\rF g (rV st))
theorem BS (st:ah) (A:Option Addr) (n c:Nat) (w:World) (T b1 b2 b3 n1 n2:Nat) (g3:ByteArray->Option Value) (H:bC w b3 3 A n (au aB st.leases)) (hl:st.leases.length=n) (hn:n<=40) (ai:lI st.leases)
 (zq:uh st) (h1:b1≠b3) (h2:b2≠b3) (h3:T≠b3) (hu:rF g3 (fun _=>0)) (ht:jV w T b1 b2 b3 n1 n2 0 (sO st.jobs) (pJ st.nodes) g3) :
 ψ 134 #[.slice A n c,.func (.func 135) #[] #[],.func (.func 136) #[π T 0] #[]] w (Pd st n (cE (dN st) ak.job st.leases) b3 w):=by
 obtain⟨R,U⟩:∃ R,cE (dN st) ak.job st.leases=R:=⟨_,rfl⟩;rw [U];have HR:=ω U;have p:=ω hl;have ar:=ω ai;have zu:=ω zq;have H0:=ω (And.intro hu ht);clear hl U ai zq hu ht;go_enter Tryz.func134,Tryz.ntmps134;go_wp2
 go_loopw [6,7,8,9,12,19,28,35] (fun _ _ _ _ Y _ _ _ wr=>PY st n R w T b1 b2 b3 n1 n2 Y wr) (fun _ _ _ _ Y _ _ _ _=>n - (intOf Y).toNat)
 case atStart=>exact⟨0,g3,Nat.zero_le _,rfl,by rw [<- HR.z]; rfl,World.grownBy.refl w _,H0.z.2,by rw [List.take_zero]; exact H0.z.1⟩
 case round=>
  obtain⟨k,g,hk,rfl,aj,L,V,ap⟩:=hrel;have v:=ω aj;have Hg:=ω L;have O:=ω V;have ab:=ω ap;have aA:=L.size;have a3:=V.m3.lt;have u:=H.but L lJ;clear aj V ap L;by_cases hlt:k<n
  · obtain⟨x,F⟩:∃ x,st.leases[k]? = some x:=⟨_,gO (by rw [p.z]; exact hlt)⟩;obtain⟨q,N,rfl,a4,hc⟩:=u.eC aI p.z F;have al:=ω (ar.z x (m8 F));have az:=ω (fun s=>AR st s F);have L7:=ω (fun s=>tD zu.z s (st.leases.take k));have a5:(st.leases.take k).length<=40:=by rw [List.length_take]; omega
    have I:=ω F;obtain⟨E,hE⟩:∃ E,dN st x=E:=⟨_,rfl⟩;have i:=ω hE;obtain⟨job,node,aa⟩:=x;obtain⟨c0,P,c2⟩:=rc3 hc;clear hc F hE;have a9:q<wr.heap.size:=by omega
    have S:=(Below.refl wr wr).alloc lJ (.cells #[job,node,aa] 66);have aq:=ω S;have ay:=ω (show ∀ s,0<=fX st s (st.leases.take k)/\fX st s (st.leases.take k)<=1000000000 from fun s=>by have:=L7.z s; omega);have ad:=ω (JH st ⟨job,node,aa⟩ _ T b1 b2 b3 n1 n2 k g _ al.z.1 al.z.2 (by omega) zu.z ab.z ay.z (O.below S));clear S
    go_wp2_with fail
    refine ad.mono ?_;rintro a1 b ⟨rfl,h,X⟩;rw [i.z];rw [i.z] at X;have hz:=ω X;have a2:=ω h;have C:=ω ((iT (World.grownBy.refl wr (some b3)) aq.z).trans h);have J:=ω (Hg.trans C.z);have am:=h.size;have a6:wr.heap.size<b.heap.size:=by simp at am; omega
    clear ad X am;by_cases D:E=0
    · subst D;have Z:∀ d a,ζ (Sort.grow (redrawn b d) a) wr 0 (.string job):=fun d a=>cell_regrown (h.cell (by simp [go_sem]) (by simp; omega)) d a;have l1:∀ d a,ζ (Sort.grow (redrawn b d) a) wr 1 (.string node):=fun d a=>cell_regrown (h.cell (by simp [go_sem]) (by simp; omega)) d a;have l2:∀ d a,ζ (Sort.grow (redrawn b d) a) wr 2 (.int .i64 aa):=fun d a=>cell_regrown (h.cell (by simp [go_sem]) (by simp; omega)) d a;obtain⟨Q,ag,ao⟩:=hz.z rfl;have M:=ω (And.intro (O.used C.z h1 h2 h3 ag) (show rF Q (fun s=>fX st s (st.leases.take (k+1))) from fun s=>(ao s).trans (congrArg (Value.int .i64) (az.z s).symm)));clear ag ao;by_cases ae:k=0
      · subst ae;have j:=ω (gC (key:=ak.job) I.z i.z (.inl rfl));clear c0 P c2 H u h
        go_wp2_with fail
        refine wp_region_quiet_below (by kernel_rfl) (by kernel_rfl) ?_
        repeat (go_big_quiet_step (fail))
        refine wpQuiet_nil ?_;intro _ G;obtain⟨⟨nq,osq⟩,hw''⟩:=G;subst hw'';have e:=ω (below_regrown b nq osq);clear Z l1 l2;dsimp only;generalize Sort.grow (redrawn b nq) osq=w2 at e |-;go_wp2
        go_roundw
        case rel=>exact⟨1,Q,by omega,by go_num,by rw [<- j.z]; exact v.z,iT J.z e.z,M.z.1.below e.z,M.z.2⟩
        case measure=>simp [intOf]; omega
      · obtain⟨y,W⟩:∃ y,st.leases[k - 1]? = some y:=⟨_,gO (by rw [p.z]; omega)⟩;obtain⟨b',a0,aw,Az,hp⟩:=u.eC aI p.z W;obtain⟨rfl,rfl⟩:q=b'/\N=a0:=by simpa using aw
        have Hy:=ω W;obtain⟨o,Ec,Ed⟩:=y;obtain⟨q0,q1,q2⟩:=rc3 hp;have K:(some q:Option Nat)≠some b3:=by simp; omega
        have p0:∀ d a,ζ (Sort.grow (redrawn b d) a) q (N+(k - 1)*3) (.string o):=fun d a=>cell_regrown (C.cell q0 K) d a;have p1:∀ d a,ζ (Sort.grow (redrawn b d) a) q (N+(k - 1)*3+1) (.string Ec):=fun d a=>cell_regrown (C.cell q1 K) d a;have p2:∀ d a,ζ (Sort.grow (redrawn b d) a) q (N+(k - 1)*3+2) (.int .i64 Ed):=fun d a=>cell_regrown (C.cell q2 K) d a;clear q0 q1 q2 c0 P c2 hp W H u h K;have a8:decide ((0:Int)<(k:Int))=true:=t8 (by omega);have a7:0<k:=by omega
        have af:=ω (kK o.toList job.toList);obtain⟨B,z⟩:∃ B,Op.bytesLess o.toList job.toList=B:=⟨_,rfl⟩;have HL:=ω z;cases B
        · have e1:(Op.bytesLess job.toList o.toList || job.toList == o.toList)=true:=by rw [<- af.z,z]; rfl
          have j:=ω (kJ (key:=ak.job) I.z i.z ae Hy.z HL.z);clear z
          go_wp2_with fail
          refine wp_region_quiet_below (by kernel_rfl) (by kernel_rfl) ?_
          repeat (go_big_quiet_step ((go_at_call 135; exact Calls.regrown_of (fG _ _ _ _))))
          refine wpQuiet_nil ?_;intro _ G;obtain⟨⟨nq,osq⟩,hw''⟩:=G;subst hw'';have e:=ω (below_regrown b nq osq);clear Z l1 l2 p0 p1 p2;dsimp only;generalize Sort.grow (redrawn b nq) osq=w2 at e |-;go_wp2;go_ret;have r:=v.z;rw [j.z] at r;exact⟨aY r,iT J.z e.z,fun ac=>by omega⟩
        · have e1:(Op.bytesLess job.toList o.toList || job.toList == o.toList)=false:=by rw [<- af.z,z]; rfl
          have j:=ω (gC (key:=ak.job) I.z i.z (.inr ⟨_,Hy,HL⟩));clear z
          go_wp2_with fail
          refine wp_region_quiet_below (by kernel_rfl) (by kernel_rfl) ?_
          repeat (go_big_quiet_step ((go_at_call 135; exact Calls.regrown_of (fG _ _ _ _))))
          refine wpQuiet_nil ?_;intro _ G;obtain⟨⟨nq,osq⟩,hw''⟩:=G;subst hw'';have e:=ω (below_regrown b nq osq);clear Z l1 l2 p0 p1 p2;dsimp only;generalize Sort.grow (redrawn b nq) osq=w2 at e |-;go_wp2
          go_roundw
          case rel=>exact⟨k+1,Q,by omega,by go_num,by rw [<- j.z]; exact v.z,iT J.z e.z,M.z.1.below e.z,M.z.2⟩
          case measure=>simp [intOf]; omega
    · have j:=ω (nZ (E:=dN st) (key:=ak.job) I.z (by rw [i.z]; exact D));have e1:(E == 0)=false:=beq_eq_false_iff_ne.2 D;have e2:(E != 0)=true:=bne_iff_ne.2 D;clear c0 P c2 H u h;go_wp2;go_ret;have r:=v.z;rw [j.z,i.z] at r;exact⟨aY r,J,fun ac=>absurd (r.trans ac) D⟩
  · obtain rfl:k=n:=by omega
    have av:=ω (show R=0 by rw [<- v.z]; exact sU (by rw [p.z]; exact lJ) _)
    have ax:=ω (show rF g (rV st) from fun s=>by
     have:=ab.z s;rw [List.take_of_length_le (by rw [p.z]; exact lJ)] at this;exact this)
    clear H u;go_wp2;go_ret;exact⟨aY av.symm,Hg,fun _=>⟨g,O.m3,ax⟩⟩
theorem kF (name:ByteArray) (prio:Int) (need:Int) (tries:Int) (tag:ByteArray) (w:World):ψ 129 #[.agg #[name,prio,need,tries,tag]] w fun e w'=>e = .returned (.string name)/\Below w w w':=by
 have a:=ω ((Below.refl w w).alloc lJ (.cells #[name,prio,need,tries,tag] 85));go_enter Tryz.func129,Tryz.ntmps129;go_wp2;go_ret;exact⟨rfl,a⟩
theorem ji (name:ByteArray) (room:Int) (zone:ByteArray) (w:World):ψ 132 #[.agg #[name,room,zone]] w fun e w'=>e = .returned (.string name)/\Below w w w':=by
 have a:=ω ((Below.refl w w).alloc lJ (.cells #[name,room,zone] 70));go_enter Tryz.func132,Tryz.ntmps132;go_wp2;go_ret;exact⟨rfl,a⟩
theorem vQ (s:ByteArray) (w:World) (c:s.size<=9223372036854775807):ψ 70 #[s] w fun e w'=>e = .returned (.bool (lE s))/\w=w':=by
 by_cases h:s.size<=16
 · rw [yZ h];have a:=ω (Bj s w (by omega));generalize validD s.data.toList=b at a |-;go_enter Tryz.func70,Tryz.ntmps70
   go_wp2_with fail
   refine a.mono ?_;rintro e d ⟨rfl,rfl⟩;go_wp2;go_ret;exact⟨rfl,rfl⟩
 · rw [qW h];go_enter Tryz.func70,Tryz.ntmps70;go_wp2;go_ret;exact⟨rfl,rfl⟩
theorem l9 (s:ByteArray) (w:World) (b:s.size<=9223372036854775807):ψ 69 #[s] w fun e w'=>e = .returned (.bool (cP s))/\w=w':=by
 by_cases h:s.size=0
 · rw [vU h];obtain rfl:=nP h;go_enter Tryz.func69,Tryz.ntmps69;go_wp2;go_ret;exact⟨rfl,rfl⟩
 · rw [yY h];have a:=ω (vQ s w b);have d:=oN h;have i:=mZ h;generalize lE s=c at a |-;go_enter Tryz.func69,Tryz.ntmps69
   go_wp2_with fail
   refine a.mono ?_;rintro e j ⟨rfl,rfl⟩;go_wp2;go_ret;exact⟨rfl,rfl⟩
theorem dF (n lo hi:Int) (w:World):ψ 15 #[n,lo,hi] w fun e w'=>e = .returned (.bool (!ranged n lo hi))/\w=w':=by
 cases h:ranged n lo hi
 · exact eE n lo hi (fT.1 h) w
 · exact dh n lo hi (aM.1 h).1 (aM.1 h).2 w
theorem xq (j:aC) (w:World) (q:j.name.size<=9223372036854775807) (r:j.tag.size<=9223372036854775807) :
 ψ 39 #[.agg (aS j).toArray] w fun e w'=>e = .returned (.int .i64 (fS j))/\Below w w w':=by
 obtain⟨E,o⟩:∃ E,fS j=E:=⟨_,rfl⟩;rw [o];have b:=ω o;clear o;obtain⟨v,y,x,C,z⟩:=j;unfold aS;simp only at q r |-;have a:=ω ((Below.refl w w).alloc lJ (.cells #[v,y,x,C,z] 85));go_enter Tryz.func39,Tryz.ntmps39
 go_wp2_with fail
 refine Calls.mono (l9 _ _ q) ?_;rintro e i ⟨rfl,rfl⟩;cases c:cP v
 · go_wp2;go_ret;exact⟨aY (by rw [<- b.z]; simp [fS,c]),a⟩
 go_wp2_with fail
 refine Calls.mono (vQ _ _ r) ?_;rintro e i ⟨rfl,rfl⟩;cases d:lE z
 · go_wp2;go_ret;exact⟨aY (by rw [<- b.z]; simp [fS,c,d]),a⟩
 go_wp2_with fail
 refine Calls.mono (dF _ _ _ _) ?_;rintro e i ⟨rfl,rfl⟩;cases h:ranged y (-1000) 1000
 · go_wp2;go_ret;exact⟨aY (by rw [<- b.z]; simp [fS,c,d,h]),a⟩
 go_wp2_with fail
 refine Calls.mono (dF _ _ _ _) ?_;rintro e i ⟨rfl,rfl⟩;cases p:ranged x 0 1000000
 · go_wp2;go_ret;exact⟨aY (by rw [<- b.z]; simp [fS,c,d,h,p]),a⟩
 go_wp2_with fail
 refine Calls.mono (dF _ _ _ _) ?_;rintro e i ⟨rfl,rfl⟩;cases u:ranged C 0 100
 · go_wp2;go_ret;exact⟨aY (by rw [<- b.z]; simp [fS,c,d,h,p,u]),a⟩
 go_wp2;go_ret;exact⟨aY (by rw [<- b.z]; simp [fS,c,d,h,p,u]),a⟩
theorem uO (n:av) (w:World) (i:n.name.size<=9223372036854775807) (j:n.zone.size<=9223372036854775807) :
 ψ 40 #[.agg (aH n).toArray] w fun e w'=>e = .returned (.int .i64 (dP n))/\Below w w w':=by
 obtain⟨E,d⟩:∃ E,dP n=E:=⟨_,rfl⟩;rw [d];have b:=ω d;clear d;obtain⟨p,q,u⟩:=n;unfold aH;simp only at i j |-;have a:=ω ((Below.refl w w).alloc lJ (.cells #[p,q,u] 70));go_enter Tryz.func40,Tryz.ntmps40
 go_wp2_with fail
 refine Calls.mono (l9 _ _ i) ?_;rintro e r ⟨rfl,rfl⟩;cases c:cP p
 · go_wp2;go_ret;exact⟨aY (by rw [<- b.z]; simp [dP,c]),a⟩
 go_wp2_with fail
 refine Calls.mono (vQ _ _ j) ?_;rintro e r ⟨rfl,rfl⟩;cases h:lE u
 · go_wp2;go_ret;exact⟨aY (by rw [<- b.z]; simp [dP,c,h]),a⟩
 go_wp2_with fail
 refine Calls.mono (dF _ _ _ _) ?_;rintro e r ⟨rfl,rfl⟩;cases o:ranged q 0 1000000
 · go_wp2;go_ret;exact⟨aY (by rw [<- b.z]; simp [dP,c,h,o]),a⟩
 go_wp2;go_ret;exact⟨aY (by rw [<- b.z]; simp [dP,c,h,o]),a⟩
theorem gA :
 (∀ (xs:List aC) (A:Option Addr) (n c:Nat) (w:World) (q:bC w w 5 A n (au aS xs)) (O:xs.length=n) (hn:n<=9223372036854775807) (J:oF xs) (hT:Tabs w),ψ 128 #[.slice A n c,.func (.func 129) #[] #[],.func (.func 130) #[] #[]] w fun ad w'=>ad = .returned (.int .i64 (cE fS aC.name xs))/\Below w w w') /\
 (∀ (xs:List av) (A:Option Addr) (n c:Nat) (w:World) (q:bC w w 3 A n (au aH xs)) (O:xs.length=n) (hn:n<=9223372036854775807) (J:mP xs) (hT:Tabs w),ψ 131 #[.slice A n c,.func (.func 132) #[] #[],.func (.func 133) #[] #[]] w fun ad w'=>ad = .returned (.int .i64 (cE dP av.name xs))/\Below w w w') /\
 (∀ (xs:List aC) (A:Option Addr) (n c:Nat) (w:World) (q:bC w w 5 A n (au aS xs)) (O:xs.length=n) (hn:n<=9223372036854775807) (J:oF xs),ψ 16 #[.slice A n c] w fun ad w'=>ad = .returned (.int .i64 (cE fS aC.name xs))/\Below w w w') /\
 (∀ (xs:List av) (A:Option Addr) (n c:Nat) (w:World) (q:bC w w 3 A n (au aH xs)) (O:xs.length=n) (hn:n<=9223372036854775807) (J:mP xs),ψ 17 #[.slice A n c] w fun ad w'=>ad = .returned (.int .i64 (cE dP av.name xs))/\Below w w w'):=by
 refine⟨@fun xs A n c w q O hn J hT=>(fun(Q ah M:Unit)=>?_) () () (),@fun xs A n c w q O hn J hT=>(fun(ah N ap:Unit)=>?_) () () (),@fun xs A n c w q O hn J=>(fun(Q al V:Unit)=>?_) () () (),@fun xs A n c w q O hn J=>(fun(al af ap:Unit)=>?_) () () ()⟩<;>(
 first|(guard_hyp Q;have aq:=@aT;have ar:Tg 13:=⟨⟩;have a2:Tg 19:=⟨⟩)|(have aq:=@aO;have ar:Tg 15:=⟨⟩;have a2:Tg 21:=⟨⟩)
 first|(guard_hyp Q;obtain⟨R,hR⟩:∃ R,cE fS aC.name xs=R:=⟨_,rfl⟩)|obtain⟨R,hR⟩:∃ R,cE dP av.name xs=R:=⟨_,rfl⟩
 rw [hR];have HR:=ω hR;have Hl:=ω O
 first|(guard_hyp ah;have HT:=ω hT)|have az:=ω J
 first
  |(
   guard_hyp ah
   have az:=ω J;clear O hR hT J)
  |(
   guard_hyp al
   clear O hR J)
 first|(guard_hyp M;go_enter Tryz.func128,Tryz.ntmps128)|(guard_hyp N;go_enter Tryz.func131,Tryz.ntmps131)|(guard_hyp V;go_enter Tryz.func16,Tryz.ntmps16)|go_enter Tryz.func17,Tryz.ntmps17
 go_wp2
 first
  |(
   guard_hyp M
   go_loopw [6,7,8,9,12,19,28,35] (fun _ _ _ _ z _ _ _ wr=>Lw xs n R w z wr) (fun _ _ _ _ z _ _ _ _=>n - (intOf z).toNat))
  |(
   guard_hyp N
   go_loopw [6,7,8,9,12,19,28,35] (fun _ _ _ _ z _ _ _ wr=>In xs n R w z wr) (fun _ _ _ _ z _ _ _ _=>n - (intOf z).toNat))
  |(
   guard_hyp V
   go_loopw [2,3,4,5,8,14] (fun _ _ _ _ z _ wr=>Lw xs n R w z wr) (fun _ _ _ _ z _ _=>n - (intOf z).toNat))
  |(
   guard_hyp af
   go_loopw [2,3,4,5,8,14] (fun _ _ _ _ z _ wr=>In xs n R w z wr) (fun _ _ _ _ z _ _=>n - (intOf z).toNat))
 case atStart=>exact⟨0,Nat.zero_le _,rfl,by rw [<- HR.z]; rfl,θ⟩
 case round=>
  obtain⟨k,hk,rfl,a1,hb⟩:=hrel;have G:=ω a1;have D:=ω hb;have a9:=hb.size;clear a1;by_cases hlt:k<n
  · obtain⟨x,hf⟩:∃ x,xs[k]? = some x:=⟨_,gO (by rw [Hl.z]; exact hlt)⟩;obtain⟨h,i,rfl,a6,U⟩:=(q.below hb).eC aq Hl.z hf;have ae:=ω (az.z x (m8 hf));have H:=ω hf
    first
     |(
      guard_hyp M
      have a0:x.name=aC.name x:=rfl)
     |(
      guard_hyp N
      have a0:x.name=av.name x:=rfl)
     |skip
    first|(guard_hyp Q;obtain⟨E,hE⟩:∃ E,fS x=E:=⟨_,rfl⟩)|obtain⟨E,hE⟩:∃ E,dP x=E:=⟨_,rfl⟩
    have C:=ω hE
    first
     |(
      guard_hyp M
      obtain⟨X,hX⟩:∃ X,X=x:=⟨_,rfl⟩;have HX:=ω hX;obtain⟨e,Y,W,ab,aa⟩:=x)
     |(
      guard_hyp N
      obtain⟨X,hX⟩:∃ X,X=x:=⟨_,rfl⟩;have HX:=ω hX;obtain⟨e,Z,ac⟩:=x)
     |(
      guard_hyp V
      obtain⟨e,Y,W,ab,aa⟩:=x)
     |(
      guard_hyp af
      obtain⟨e,Z,ac⟩:=x)
    have c0:ζ wr h (i+k*ar) (.string e):=U 0 _ rfl
    first
     |(
      guard_hyp Q
      have I:ζ wr h (i+k*5+1) (.int .i64 Y):=U 1 _ rfl;have c2:ζ wr h (i+k*5+2) (.int .i64 W):=U 2 _ rfl)
     |skip
    first|(guard_hyp Q;have c3:ζ wr h (i+k*5+3) (.int .i64 ab):=U 3 _ rfl)|have I:ζ wr h (i+k*3+1) (.int .i64 Z):=U 1 _ rfl
    first|(guard_hyp Q;have c4:ζ wr h (i+k*5+4) (.string aa):=U 4 _ rfl)|have c2:ζ wr h (i+k*3+2) (.string ac):=U 2 _ rfl
    first
     |(
      guard_hyp ah
      clear U hf hE hX a0)
     |(
      guard_hyp al
      clear U hf hE)
    have P:h<wr.heap.size:=by omega
    first
     |(
      guard_hyp M
      have ao:=ω (HT.below (D.alloc D.size (.cells #[e,Y,W,ab,aa] 85)));have aj:=ω (D.alloc D.size (.cells #[e,Y,W,ab,aa] 85)))
     |(
      guard_hyp N
      have ao:=ω (HT.below (D.alloc D.size (.cells #[e,Z,ac] 70)));have aj:=ω (D.alloc D.size (.cells #[e,Z,ac] 70)))
     |(
      guard_hyp V
      have aj:=ω (D.alloc D.size (.cells #[e,Y,W,ab,aa] 85)))
     |(
      guard_hyp af
      have aj:=ω (D.alloc D.size (.cells #[e,Z,ac] 70)))
    go_wp2_with fail
    first
     |(
      guard_hyp M
      refine Calls.mono (vV ⟨e,Y,W,ab,aa⟩ _ ae.z.1 ae.z.2 ao.z) ?_)
     |(
      guard_hyp N
      refine Calls.mono (uH ⟨e,Z,ac⟩ _ ae.z.1 ae.z.2 ao.z) ?_)
     |(
      guard_hyp V
      refine Calls.mono (xq ⟨e,Y,W,ab,aa⟩ _ ae.z.1 ae.z.2) ?_)
     |(
      guard_hyp af
      refine Calls.mono (uO ⟨e,Z,ac⟩ _ ae.z.1 ae.z.2) ?_)
    rintro ad b ⟨rfl,j⟩;rw [C.z]
    first
     |(
      guard_hyp Q
      have F:=(Below.refl wr wr).alloc lJ (.cells #[e,Y,W,ab,aa] 85))
     |(
      guard_hyp ap
      have F:=(Below.refl wr wr).alloc lJ (.cells #[e,Z,ac] 70))
    have p:=F.trans (j.mono F.size);have u:=ω (aj.trans (j.mono aj.size));by_cases he:E=0
    · subst he
      first
       |(
        guard_hyp M
        have l0:∀ d a,ζ (Sort.grow (redrawn b d) a) wr 0 (.string e):=fun d a=>cell_regrown (by rw [(dD j).1 _ _ (by simp)]; simp [go_sem]) d a;have l1:∀ d a,ζ (Sort.grow (redrawn b d) a) wr 1 (.int .i64 Y):=fun d a=>cell_regrown (by rw [(dD j).1 _ _ (by simp)]; simp [go_sem]) d a;have l2:∀ d a,ζ (Sort.grow (redrawn b d) a) wr 2 (.int .i64 W):=fun d a=>cell_regrown (by rw [(dD j).1 _ _ (by simp)]; simp [go_sem]) d a;have l3:∀ d a,ζ (Sort.grow (redrawn b d) a) wr 3 (.int .i64 ab):=fun d a=>cell_regrown (by rw [(dD j).1 _ _ (by simp)]; simp [go_sem]) d a;have l4:∀ d a,ζ (Sort.grow (redrawn b d) a) wr 4 (.string aa):=fun d a=>cell_regrown (by rw [(dD j).1 _ _ (by simp)]; simp [go_sem]) d a)
       |(
        guard_hyp N
        have l0:∀ d a,ζ (Sort.grow (redrawn b d) a) wr 0 (.string e):=fun d a=>cell_regrown (by rw [(dD j).1 _ _ (by simp)]; simp [go_sem]) d a;have l1:∀ d a,ζ (Sort.grow (redrawn b d) a) wr 1 (.int .i64 Z):=fun d a=>cell_regrown (by rw [(dD j).1 _ _ (by simp)]; simp [go_sem]) d a;have l2:∀ d a,ζ (Sort.grow (redrawn b d) a) wr 2 (.string ac):=fun d a=>cell_regrown (by rw [(dD j).1 _ _ (by simp)]; simp [go_sem]) d a)
       |(
        guard_hyp al
        have l0:ζ b wr 0 (.string e):=by rw [(dD j).1 _ _ (by simp)]; simp [go_sem])
      by_cases ak:k=0
      · subst ak;have o:=ω (gC (key:=a2) H.z C.z (.inl rfl))
        first
         |(
          guard_hyp M
          clear c0 I c2 c3 c4 j q F p
          go_wp2_with fail
          refine wp_region_quiet_below (by kernel_rfl) (by kernel_rfl) ?_
          repeat (go_big_quiet_step (fail))
          refine wpQuiet_nil ?_;intro _ L;obtain⟨⟨nq,osq⟩,hw''⟩:=L;subst hw'';have v:=ω (u.trans ((below_regrown b nq osq).mono u.size));clear l0 l1 l2 l3 l4;dsimp only;generalize Sort.grow (redrawn b nq) osq=w2 at v |-)
         |(
          guard_hyp N
          clear c0 I c2 j q F p
          go_wp2_with fail
          refine wp_region_quiet_below (by kernel_rfl) (by kernel_rfl) ?_
          repeat (go_big_quiet_step (fail))
          refine wpQuiet_nil ?_;intro _ L;obtain⟨⟨nq,osq⟩,hw''⟩:=L;subst hw'';have v:=ω (u.trans ((below_regrown b nq osq).mono u.size));clear l0 l1 l2;dsimp only;generalize Sort.grow (redrawn b nq) osq=w2 at v |-)
         |(
          guard_hyp V
          clear c0 I c2 c3 c4 j q F p;have ag:=ω u.drew;go_wp2
          go_region)
         |(
          guard_hyp af
          clear c0 I c2 j q F p;have ag:=ω u.drew;go_wp2
          go_region)
        go_wp2
        go_roundw
        case rel=>first|(guard_hyp ah;exact⟨1,by omega,by go_num,by rw [<- o.z]; exact G.z,v.z⟩)|exact⟨1,by omega,by go_num,by rw [<- o.z]; exact G.z,ag.z⟩
        case measure=>simp [intOf]; omega
      · obtain⟨y,hy⟩:∃ y,xs[k - 1]? = some y:=⟨_,gO (by rw [Hl.z]; omega)⟩;obtain⟨b',a5,a4,Az,K⟩:=(q.below hb).eC aq Hl.z hy;obtain⟨rfl,rfl⟩:h=b'/\i=a5:=by simpa using a4
        have Hy:=ω hy
        first
         |(
          guard_hyp M
          obtain⟨ai,hY⟩:∃ ai,ai=y:=⟨_,rfl⟩;obtain⟨r,L8,aw,GD,ay⟩:=y)
         |(
          guard_hyp N
          obtain⟨ai,hY⟩:∃ ai,ai=y:=⟨_,rfl⟩;obtain⟨r,ax,L9⟩:=y)
         |(
          guard_hyp V
          obtain⟨r,L8,aw,GD,ay⟩:=y)
         |(
          guard_hyp af
          obtain⟨r,ax,L9⟩:=y)
        have q0:ζ wr h (i+(k - 1)*ar) (.string r):=K 0 _ rfl
        first
         |(
          guard_hyp M
          have q1:ζ wr h (i+(k - 1)*5+1) (.int .i64 L8):=K 1 _ rfl;have q2:ζ wr h (i+(k - 1)*5+2) (.int .i64 aw):=K 2 _ rfl;have q3:ζ wr h (i+(k - 1)*5+3) (.int .i64 GD):=K 3 _ rfl;have q4:ζ wr h (i+(k - 1)*5+4) (.string ay):=K 4 _ rfl;have p0:∀ d a,ζ (Sort.grow (redrawn b d) a) h (i+(k - 1)*5) (.string r):=fun d a=>cell_regrown (((dD p).1 _ _ P).trans q0) d a;have p1:∀ d a,ζ (Sort.grow (redrawn b d) a) h (i+(k - 1)*5+1) (.int .i64 L8):=fun d a=>cell_regrown (((dD p).1 _ _ P).trans q1) d a;have p2:∀ d a,ζ (Sort.grow (redrawn b d) a) h (i+(k - 1)*5+2) (.int .i64 aw):=fun d a=>cell_regrown (((dD p).1 _ _ P).trans q2) d a;have p3:∀ d a,ζ (Sort.grow (redrawn b d) a) h (i+(k - 1)*5+3) (.int .i64 GD):=fun d a=>cell_regrown (((dD p).1 _ _ P).trans q3) d a;have p4:∀ d a,ζ (Sort.grow (redrawn b d) a) h (i+(k - 1)*5+4) (.string ay):=fun d a=>cell_regrown (((dD p).1 _ _ P).trans q4) d a;clear q0 q1 q2 q3 q4 c0 I c2 c3 c4 K hy hY j q F p)
         |(
          guard_hyp N
          have q1:ζ wr h (i+(k - 1)*3+1) (.int .i64 ax):=K 1 _ rfl;have q2:ζ wr h (i+(k - 1)*3+2) (.string L9):=K 2 _ rfl;have p0:∀ d a,ζ (Sort.grow (redrawn b d) a) h (i+(k - 1)*3) (.string r):=fun d a=>cell_regrown (((dD p).1 _ _ P).trans q0) d a;have p1:∀ d a,ζ (Sort.grow (redrawn b d) a) h (i+(k - 1)*3+1) (.int .i64 ax):=fun d a=>cell_regrown (((dD p).1 _ _ P).trans q1) d a;have p2:∀ d a,ζ (Sort.grow (redrawn b d) a) h (i+(k - 1)*3+2) (.string L9):=fun d a=>cell_regrown (((dD p).1 _ _ P).trans q2) d a;clear q0 q1 q2 c0 I c2 K hy hY j q F p)
         |(
          guard_hyp V
          have p0:ζ b h (i+(k - 1)*5) (.string r):=((dD p).1 _ _ P).trans q0;clear q0 c0 I c2 c3 c4 K hy j q F p)
         |(
          guard_hyp af
          have p0:ζ b h (i+(k - 1)*3) (.string r):=((dD p).1 _ _ P).trans q0;clear q0 c0 I c2 K hy j q F p)
        have a8:decide ((0:Int)<(k:Int))=true:=t8 (by omega);have a7:0<k:=by omega
        first
         |(
          guard_hyp ah
          have am:=ω (kK r.toList e.toList))
         |(
          guard_hyp al
          have ag:=ω u.drew)
        obtain⟨B,S⟩:∃ B,Op.bytesLess r.toList e.toList=B:=⟨_,rfl⟩;have HL:=ω S;cases B
        first
         |(
          guard_hyp M
          · have e1:(Op.bytesLess e.toList r.toList || e.toList == r.toList)=true:=by rw [<- am.z,S]; rfl
            have o:=ω (kJ (key:=aC.name) H.z C.z ak Hy.z HL.z);clear S
            go_wp2_with fail
            refine wp_region_quiet_below (by kernel_rfl) (by kernel_rfl) ?_
            repeat (go_big_quiet_step ((go_at_call 129; exact Calls.regrown_of (kF _ _ _ _ _ _))))
            refine wpQuiet_nil ?_;intro _ L;obtain⟨⟨nq,osq⟩,hw''⟩:=L;subst hw'';have v:=ω (u.trans ((below_regrown b nq osq).mono u.size));clear l0 l1 l2 l3 l4 p0 p1 p2 p3 p4;dsimp only;generalize Sort.grow (redrawn b nq) osq=w2 at v |-;go_wp2;go_ret;exact⟨aY (by rw [<- G.z]; exact o.symm),v⟩
          · have e1:(Op.bytesLess e.toList r.toList || e.toList == r.toList)=false:=by rw [<- am.z,S]; rfl
            have o:=ω (gC (key:=aC.name) H.z C.z (.inr ⟨_,Hy,HL⟩));clear S
            go_wp2_with fail
            refine wp_region_quiet_below (by kernel_rfl) (by kernel_rfl) ?_
            repeat (go_big_quiet_step ((go_at_call 129; exact Calls.regrown_of (kF _ _ _ _ _ _))))
            refine wpQuiet_nil ?_;intro _ L;obtain⟨⟨nq,osq⟩,hw''⟩:=L;subst hw'';have v:=ω (u.trans ((below_regrown b nq osq).mono u.size));clear l0 l1 l2 l3 l4 p0 p1 p2 p3 p4;dsimp only;generalize Sort.grow (redrawn b nq) osq=w2 at v |-;go_wp2
            go_roundw
            case rel=>exact⟨k+1,by omega,by go_num,by rw [<- o.z]; exact G.z,v.z⟩
            case measure=>simp [intOf]; omega)
         |(
          guard_hyp N
          · have e1:(Op.bytesLess e.toList r.toList || e.toList == r.toList)=true:=by rw [<- am.z,S]; rfl
            have o:=ω (kJ (key:=av.name) H.z C.z ak Hy.z HL.z);clear S
            go_wp2_with fail
            refine wp_region_quiet_below (by kernel_rfl) (by kernel_rfl) ?_
            repeat (go_big_quiet_step ((go_at_call 132; exact Calls.regrown_of (ji _ _ _ _))))
            refine wpQuiet_nil ?_;intro _ L;obtain⟨⟨nq,osq⟩,hw''⟩:=L;subst hw'';have v:=ω (u.trans ((below_regrown b nq osq).mono u.size));clear l0 l1 l2 p0 p1 p2;dsimp only;generalize Sort.grow (redrawn b nq) osq=w2 at v |-;go_wp2;go_ret;exact⟨aY (by rw [<- G.z]; exact o.symm),v⟩
          · have e1:(Op.bytesLess e.toList r.toList || e.toList == r.toList)=false:=by rw [<- am.z,S]; rfl
            have o:=ω (gC (key:=av.name) H.z C.z (.inr ⟨_,Hy,HL⟩));clear S
            go_wp2_with fail
            refine wp_region_quiet_below (by kernel_rfl) (by kernel_rfl) ?_
            repeat (go_big_quiet_step ((go_at_call 132; exact Calls.regrown_of (ji _ _ _ _))))
            refine wpQuiet_nil ?_;intro _ L;obtain⟨⟨nq,osq⟩,hw''⟩:=L;subst hw'';have v:=ω (u.trans ((below_regrown b nq osq).mono u.size));clear l0 l1 l2 p0 p1 p2;dsimp only;generalize Sort.grow (redrawn b nq) osq=w2 at v |-;go_wp2
            go_roundw
            case rel=>exact⟨k+1,by omega,by go_num,by rw [<- o.z]; exact G.z,v.z⟩
            case measure=>simp [intOf]; omega)
         |(
          guard_hyp V
          · have o:=ω (kJ (key:=aC.name) H.z C.z ak Hy.z HL.z);go_wp2
            go_region
            go_wp2;go_ret;exact⟨aY (by rw [<- G.z]; exact o.symm),ag⟩
          · have o:=ω (gC (key:=aC.name) H.z C.z (.inr ⟨_,Hy,HL⟩));go_wp2
            go_region
            go_wp2
            go_roundw
            case rel=>exact⟨k+1,by omega,by go_num,by rw [<- o.z]; exact G.z,ag.z⟩
            case measure=>simp [intOf]; omega)
         |(
          guard_hyp af
          · have o:=ω (kJ (key:=av.name) H.z C.z ak Hy.z HL.z);go_wp2
            go_region
            go_wp2;go_ret;exact⟨aY (by rw [<- G.z]; exact o.symm),ag⟩
          · have o:=ω (gC (key:=av.name) H.z C.z (.inr ⟨_,Hy,HL⟩));go_wp2
            go_region
            go_wp2
            go_roundw
            case rel=>exact⟨k+1,by omega,by go_num,by rw [<- o.z]; exact G.z,ag.z⟩
            case measure=>simp [intOf]; omega)
    · first|(guard_hyp Q;have o:=ω (nZ (E:=fS) (key:=aC.name) H.z (by rw [C.z]; exact he)))|have o:=ω (nZ (E:=dP) (key:=av.name) H.z (by rw [C.z]; exact he))
      have e1:(E == 0)=false:=beq_eq_false_iff_ne.2 he;have e2:(E != 0)=true:=bne_iff_ne.2 he
      first
       |(
        guard_hyp Q
        clear c0 I c2 c3 c4 j q F p)
       |(
        guard_hyp ap
        clear c0 I c2 j q F p)
      go_wp2;go_ret;exact⟨aY (by rw [<- G.z,o.z]; exact C.symm),u⟩
  · obtain rfl:k=n:=by omega
    have a3:=ω (show R=0 by rw [<- G.z]; exact sU (by rw [Hl.z]; exact lJ) _);clear hb q;go_wp2;go_ret;exact⟨aY a3.symm,D⟩)
theorem eV {s:ByteArray} (h:cP s=true):s.size<=16:=by
 by_cases a:s.size<=16
 · exact a
 · unfold cP at h; rw [qW a] at h; simp at h
theorem nH {s:ByteArray} (h:lE s=true):s.size<=16:=by
 by_cases a:s.size<=16
 · exact a
 · rw [qW a] at h; simp at h
theorem oX {j:aC} (h:fS j=0):cP j.name=true/\lE j.tag=true/\(-1000<=j.prio/\j.prio<=1000)/\(0<=j.need/\j.need<=1000000)/\(0<=j.tries/\j.tries<=100):=by
 unfold fS at h;by_cases a:(cP j.name && lE j.tag)=true
 · rw [if_pos a] at h;by_cases b:(ranged j.prio (-1000) 1000 && ranged j.need 0 1000000 && ranged j.tries 0 100)=true
   · simp only [Bool.and_eq_true] at a b;exact⟨a.1,a.2,aM.1 b.1.1,aM.1 b.1.2,aM.1 b.2⟩
   · rw [if_neg b] at h; exact absurd h (by decide)
 · rw [if_neg a] at h; exact absurd h (by decide)
theorem pM {n:av} (h:dP n=0):cP n.name=true/\lE n.zone=true/\(0<=n.room/\n.room<=1000000):=by
 unfold dP at h;by_cases a:(cP n.name && lE n.zone)=true
 · rw [if_pos a] at h;by_cases b:ranged n.room 0 1000000=true
   · simp only [Bool.and_eq_true] at a;exact⟨a.1,a.2,aM.1 b⟩
   · rw [if_neg b] at h; exact absurd h (by decide)
 · rw [if_neg a] at h; exact absurd h (by decide)
theorem KS {l:ak} (h:lsE l=0):cP l.job=true/\cP l.node=true/\(0<=l.till/\l.till<=1099511627776):=by
 unfold lsE at h;by_cases a:(cP l.job && cP l.node)=true
 · rw [if_pos a] at h;by_cases b:ranged l.till 0 1099511627776=true
   · simp only [Bool.and_eq_true] at a;exact⟨a.1,a.2,aM.1 b⟩
   · rw [if_neg b] at h; exact absurd h (by decide)
 · rw [if_neg a] at h; exact absurd h (by decide)
theorem qd:∀ (f:Nat) (n:Int) (w:World),0<=n->n<18446744073709551616->n.toNat<128 ^ f->0<f ->
 ψ 121 #[.int .u64 n] w (vW n.toNat w)
 | 0,_,_,_,_,_,h=>absurd h (by omega)
 | f+1,n,w,j,o,a,_=>by
  by_cases hlt:n<128
  · have d:=ω (uS (n:=n.toNat) (by omega));clear a;go_enter Tryz.func121,Tryz.ntmps121
    go_wp2_with (go_at_call 126; refine (pV n _ j o).mono ?_; rintro e w' ⟨rfl,b⟩)
    go_ret;exact⟨kS (by rw [d.z]),b⟩
  · have d:=ω (BW (n:=n.toNat) (by omega) (by omega));have r:=ω (qd f (n / 128))
    have p:=ω (show (n / 128).toNat<128 ^ f from by
     rw [Nat.pow_succ,Nat.mul_comm] at a;rw [show (n / 128).toNat=n.toNat / 128 from by omega];exact Nat.div_lt_of_lt_mul a)
    have q:=ω (show 0<f from by
     rcases Nat.eq_zero_or_pos f with h | h
     · subst h; simp at a; omega
     · exact h)
    clear a;go_enter Tryz.func121,Tryz.ntmps121
    go_wp2_with fail
    refine Calls.mono (pV (n % 128+128) _ (by omega) (by omega)) ?_;rintro e t ⟨rfl,c⟩
    go_wp2_with fail
    refine Calls.mono (r.z t (by omega) (by omega) p.z q.z) ?_;rintro e v ⟨rfl,i⟩;have b:=c.trans (i.mono c.size);have u:=(dO (n / 128).toNat).2;clear c i;go_wp2;go_ret;refine⟨kS ?_,b⟩;rw [d.z,show (n % 128+128).toNat=n.toNat % 128+128 from by omega,show (n / 128).toNat=n.toNat / 128 from by omega,ByteArray.mk_append_mk];simp
end Go.Proofs.YtimglglgcgpjgaaGreatDoor
