/- Of the proof of a statement: StChk, Text, Wri, SlEqL. -/
import Derived.Deep.RegionWith
import Derived.Lib.AppendStr
import Derived.Test.YtimglglgcgpjgaaGreatDoorQEqRows
set_option linter.unusedVariables false
set_option linter.unusedSimpArgs false
set_option maxRecDepth 100000
set_option maxHeartbeats 8000000
namespace Go.Proofs.YtimglglgcgpjgaaGreatDoor
open Go.RowKit
open Go.Lib (validD)
theorem Jd (st:ah) (x:StA) (w:World) (hS:StAt w w st x) (hT:Tabs w) :
 ψ 65 #[.agg (stC st x)] w (CT st w):=by
 have d:=ω hS;have ax:Below w w (χ w (stC st x) 26):=(θ).alloc lJ _;have aA:Blk (χ w (stC st x) 26) w 26 (stC st x):=n5 w _;have L:=ω (fun (E:Int) (aW:aE st=E) (hE:E≠0) w'=>CT.bad (w:=w) (w':=w') aW hE);have J:=ω ax;have ao:=ω aA;have ap:=ω (hT.below ax);clear ax aA hS hT;obtain⟨rev,jobs,nodes,leases⟩:=st;obtain⟨H,v,D,C,i,u,B,h,F⟩:=x;simp only [stC] at *;go_enter Tryz.func65,Tryz.ntmps65
 go_wp2_with fail
 refine Calls.mono (ku _ _ _ _) ?_;rintro ar w0 ⟨rfl,rfl⟩;cases O:ranged rev 0 1099511627776
 · have s:=ω (L.z 1 (Aq O) (by omega) _ J.z);go_wp2;go_ret2;exact s
 have aK:=d.lj;have a0:=d.ln;have aL:=d.ll;have aH:=d.bj;have aI:=d.bn;have aX:=d.bl;simp only at aK a0 aL aH aI aX;by_cases s1:v<=40;rotate_left
 · have s:=ω (L.z 2 (nY O (by unfold dR; rw [decide_eq_false (by simp only; omega)]; rfl)) (by omega) _ J.z);have d1:decide ((40:Int)<(v:Int))=true:=t8 (by omega);go_wp2;go_ret2;exact s
 have d1:decide ((40:Int)<(v:Int))=false:=fK (by omega);by_cases s2:h<=40;rotate_left
 · have s:=ω (L.z 2 (nY O (by unfold dR; simp only; rw [decide_eq_false (p:=leases.length<=40) (by omega)]; simp)) (by omega) _ J.z);have d2:decide ((40:Int)<(h:Int))=true:=t8 (by omega);go_wp2;go_ret2;exact s
 have d2:decide ((40:Int)<(h:Int))=false:=fK (by omega);by_cases s3:i<=20;rotate_left
 · have s:=ω (L.z 2 (nY O (by unfold dR; simp only; rw [decide_eq_false (p:=nodes.length<=20) (by omega)]; simp)) (by omega) _ J.z);have d3:decide ((20:Int)<(i:Int))=true:=t8 (by omega);go_wp2;go_ret2;exact s
 have d3:decide ((20:Int)<(i:Int))=false:=fK (by omega);have a1:=ω (show dR ⟨rev,jobs,nodes,leases⟩=true by unfold dR; simp; omega);have ag:=ω ((d.below J.z).more J.size)
 go_wp2_with fail
 refine Calls.mono (gA.1 jobs H v D _ ag.j ag.lj aH ag.oj ap.z) ?_;rintro ar w2 ⟨rfl,aj⟩;have W:=ω (J.trans (aj.mono J.size));have ad:=ω (ao.below aj ao.lt);have a8:=ω (ap.below aj);have y2:ζ w2 w 2 (.slice C i u):=ad.cell 2;clear d1 d2 d3 aj ap ao;obtain⟨EJ,Y⟩:∃ E,cE fS aC.name jobs=E:=⟨_,rfl⟩;rw [Y];by_cases c:EJ=0;rotate_left
 · have s:=ω (L.z EJ (by rw [CU O a1.z (by rw [Y]; exact c)]; exact Y) c _ W.z);have e1:(EJ == 0)=false:=beq_eq_false_iff_ne.2 c;have e2:(EJ != 0)=true:=bne_iff_ne.2 c;go_wp2;go_ret2;exact s
 subst c;have af:=ω Y;clear Y;have ai:=ω ((d.below W.z).more W.size)
 go_wp2_with fail
 refine Calls.mono (gA.2.1 nodes C i u _ ai.n ai.ln aI ai.on_ a8.z) ?_;rintro ar a ⟨rfl,ay⟩;have X:=ω (W.trans (ay.mono W.size));have ae:=ω (ad.below ay ad.lt);clear y2 ay a8 ad ai ag;obtain⟨EN,T⟩:∃ E,cE dP av.name nodes=E:=⟨_,rfl⟩;rw [T];by_cases c:EN=0;rotate_left
 · have s:=ω (L.z EN (by rw [Ar O a1.z af.z (by rw [T]; exact c)]; exact T) c _ X.z);have e1:(EN == 0)=false:=beq_eq_false_iff_ne.2 c;have e2:(EN != 0)=true:=bne_iff_ne.2 c;go_wp2;go_ret2;exact s
 subst c;have aU:=ω T;have tR:=ω (CV O a1.z af.z T);clear T;have aD:=ae.lt;have aZ:=fun t aV=>run_makeMap (P:=Tryz.prog) t aV;have z1:ζ (D4 a) w 1 (.slice H v D):=((sP a).cell (p:=⟨w,1,none⟩) aD).trans (ae.cell 1)
 have a7:=ω (show D3 w (D4 a) ⟨rev,jobs,nodes,leases⟩ ⟨H,v,D,C,i,u,B,h,F⟩ w (a.heap.size+1+1+1) a (a.heap.size+1) (a.heap.size+1+1) 0 0 0 noG noG noG from
  ⟨X.trans ((sP a).mono X.size),ae.below (sP a) aD,FV a⟩)
 have be:=X.size;clear ae X;unfold D4 at z1;go_wp2;clear z1 aZ
 go_loopw [8,56] (fun _ z wr=>Pz w wr ⟨rev,jobs,nodes,leases⟩ ⟨H,v,D,C,i,u,B,h,F⟩ a v z) (fun _ z _=>v - (intOf z).toNat)
 case atStart=>exact⟨0,Nat.zero_le _,rfl,a7⟩
 case round=>
  obtain⟨k,hk,rfl,b⟩:=hrel;by_cases hlt:k<v
  · obtain⟨y,q⟩:∃ y,jobs[k]? = some y:=⟨_,gO (by omega)⟩;obtain⟨K,ac,rfl,aG,M⟩:=(d.j.below b.below).eC aT aK q;have aa:=ω (d.oj y (m8 q));have Q:=ω (IX af.z q);obtain⟨e,a3,a2,a6,a5⟩:=y;obtain⟨c0,c1,c2,c3,c4⟩:=rc5 M;have am:=b.below.size;have aJ:K<wr.heap.size:=by omega
    have o:=((Below.refl wr wr).alloc lJ (.cells #[e,a3,a2,a6,a5] 85)).drew;have r:=b.tabs.below o;have aF:=b.tabs.t.lt;have t0:ζ (χ wr #[e,a3,a2,a6,a5] 85) (a.heap.size+1+1+1) 0 (.map (some a)):=r.t.cell 0;obtain⟨w5,bb,Z,I⟩:=r.m1.put Tryz.underlying196 (by unfold maxLen; omega) e aa.z.1 (.agg #[e,a3,a2,a6,a5])
    have U:=ω (show D3 w w5 ⟨rev,jobs,nodes,leases⟩ ⟨some ⟨K,ac,none⟩,v,D,C,i,u,B,h,F⟩ w (a.heap.size+1+1+1) a (a.heap.size+1) (a.heap.size+1+1) (k+1) 0 0 (sO (jobs.take (k+1))) noG noG from
     ⟨below_grown (b.below.trans (o.mono am)) I (by omega),(I.block _ (by simp; omega) (by simp; omega)).trans (b.box.below o (by omega)),r.MS I (by omega) (by omega) (by omega) (Z.congr (fun a4=>(Q.z a4).symm))⟩)
    clear M q Z I r b o;go_wp2
    go_region
    go_wp2
    go_roundw
    case rel=>exact⟨k+1,by omega,by go_num,U.z⟩
    case measure=>simp [intOf]; omega
  · obtain rfl:k=v:=by omega
    have ab:List.take k jobs=jobs:=List.take_of_length_le (by omega);simp only [ab] at b;have N:=ω b;have y2:ζ wr w 2 (.slice C i u):=b.box.cell 2;clear b a7 ab;go_wp2;clear y2
    go_loopw [10,71] (fun _ z wr=>PA w wr ⟨rev,jobs,nodes,leases⟩ ⟨H,k,D,C,i,u,B,h,F⟩ a k i z) (fun _ z _=>i - (intOf z).toNat)
    case atStart=>exact⟨0,Nat.zero_le _,rfl,N⟩
    case round=>
     clear N;obtain⟨m,hm,rfl,b⟩:=hrel;by_cases hlt:m<i
     · obtain⟨y,q⟩:∃ y,nodes[m]? = some y:=⟨_,gO (by omega)⟩;obtain⟨K,ac,rfl,aG,M⟩:=(d.n.below b.below).eC aO a0 q;have aa:=ω (d.on_ y (m8 q));have Q:=ω (FU aU.z q);obtain⟨e,G,S⟩:=y;obtain⟨c0,c1,c2⟩:=rc3 M;have am:=b.below.size;have aJ:K<wr.heap.size:=by omega
       have o:=((Below.refl wr wr).alloc lJ (.cells #[e,G,S] 70)).drew;have r:=b.tabs.below o;have aF:=b.tabs.t.lt;have t0:ζ (χ wr #[e,G,S] 70) (a.heap.size+1+1+1) 1 (.map (some (a.heap.size+1))):=r.t.cell 1;obtain⟨w5,bb,Z,I⟩:=r.m2.put Tryz.underlying197 (by unfold maxLen; omega) e aa.z.1 (.agg #[e,G,S])
       have U:=ω (show D3 w w5 ⟨rev,jobs,nodes,leases⟩ ⟨H,k,D,some ⟨K,ac,none⟩,i,u,B,h,F⟩ w (a.heap.size+1+1+1) a (a.heap.size+1) (a.heap.size+1+1) k (m+1) 0 (sO jobs) (pJ (nodes.take (m+1))) noG from
        ⟨below_grown (b.below.trans (o.mono am)) I (by omega),(I.block _ (by simp; omega) (by simp; omega)).trans (b.box.below o (by omega)),r.KE I (by omega) (by omega) (by omega) (Z.congr (fun a4=>(Q.z a4).symm))⟩)
       clear M q Z I r b o;go_wp2
       go_region
       go_wp2
       go_roundw
       case rel=>exact⟨m+1,by omega,by go_num,U.z⟩
       case measure=>simp [intOf]; omega
     · obtain rfl:m=i:=by omega
       have ab:List.take m nodes=nodes:=List.take_of_length_le (by omega);simp only [ab] at b;have N:=ω b;have am:=b.below.size;have aF:=b.tabs.t.lt;have y3:ζ wr w 3 (.slice B h F):=b.box.cell 3;have aP:=ω (BS ⟨rev,jobs,nodes,leases⟩ B h F wr (a.heap.size+1+1+1) a (a.heap.size+1) (a.heap.size+1+1) k m noG ((d.l.below b.below).more (by omega)) aL s2 d.ol (AS af.z) (by omega) (by omega) (by omega) (fun _=>rfl) b.tabs);clear b ab
       go_wp2_with fail
       refine aP.mono ?_;rintro ar w6 ⟨rfl,al,aS⟩;have az:=ω (below_grown N.below al (by omega));have Og:=ω (show Blk w6 w 26 _ from (al.block _ (by omega) (by simp; omega)).trans N.box);have aB:=ω al;have aw:=ω aS;clear aP y3 al aS;obtain⟨R,hR⟩:∃ R,cE (dN ⟨rev,jobs,nodes,leases⟩) ak.job leases=R:=⟨_,rfl⟩;simp only [hR] at aw |-;rw [hR] at tR;by_cases c:R=0;rotate_left
       · have s:=ω (L.z R (by rw [tR.z,if_pos c]) c _ az.z);have e1:(R == 0)=false:=beq_eq_false_iff_ne.2 c;have e2:(R != 0)=true:=bne_iff_ne.2 c;go_wp2;go_ret2;exact s
       subst c;obtain⟨g3,aM,aQ⟩:=aw.z rfl;have aR:=ω aQ
       have au:=ω (show D3 w w6 ⟨rev,jobs,nodes,leases⟩ ⟨H,k,D,C,m,u,B,h,F⟩ w (a.heap.size+1+1+1) a (a.heap.size+1) (a.heap.size+1+1) k m h (sO jobs) (pJ nodes) g3 from
        ⟨az,Og,N.tabs.used aB.z (by omega) (by omega) (by omega) aM⟩)
       have y2:ζ w6 w 2 (.slice C m u):=au.box.cell 2;clear aM aQ aw aB Og az N;have a9:=ω (show aE ⟨rev,jobs,nodes,leases⟩=if lU ⟨rev,jobs,nodes,leases⟩=true then 0 else 9 by rw [tR.z,if_neg (by simp)]);clear tR hR;go_wp2;clear y2
       go_loopw [2,3,13,94] (fun _ _ _ z wr=>PB w wr ⟨rev,jobs,nodes,leases⟩ ⟨H,k,D,C,m,u,B,h,F⟩ a k m h g3 m z) (fun _ _ _ z _=>m - (intOf z).toNat)
       case atStart=>exact⟨0,Nat.zero_le _,rfl,au,rfl⟩
       case round=>
        clear au;obtain⟨V,hq,rfl,b,aN⟩:=hrel;have uQ:=ω aN;clear aN;by_cases bd:V<m
        · obtain⟨y,q⟩:∃ y,nodes[V]? = some y:=⟨_,gO (by omega)⟩;obtain⟨K,ac,rfl,aG,M⟩:=(d.n.below b.below).eC aO a0 q;have aa:=ω (d.on_ y (m8 q));have Q:=ω (uK (st:=⟨rev,jobs,nodes,leases⟩) q);obtain⟨e,G,S⟩:=y;obtain⟨c0,c1,c2⟩:=rc3 M;have Ps:=b.below.size;have aJ:K<wr.heap.size:=by omega
          have o:=((Below.refl wr wr).alloc lJ (.cells #[e,G,S] 70)).drew;have r:=b.tabs.below o;have bc:=b.tabs.t.lt;have t0:ζ (χ wr #[e,G,S] 70) (a.heap.size+1+1+1) 2 (.map (some (a.heap.size+1+1))):=r.t.cell 2;have h3:=r.m3.look Tryz.underlying198 (It _) e aa.z.1;rw [aR.z e] at h3
          have U:=ω (show D3 w (wr.alloc (.cells #[e,G,S] 70)).drew ⟨rev,jobs,nodes,leases⟩ ⟨H,k,D,some ⟨K,ac,none⟩,m,u,B,h,F⟩ w (a.heap.size+1+1+1) a (a.heap.size+1) (a.heap.size+1+1) k m h (sO jobs) (pJ nodes) g3 from
           ⟨b.below.trans (o.mono Ps),b.box.below o (by omega),r⟩)
          generalize rV ⟨rev,jobs,nodes,leases⟩ e=aq at h3 Q;clear M q r b o;by_cases hU:aq<=G
          · have d1:decide (G<aq)=false:=fK (by omega);have ba:=ω (show qL ⟨rev,jobs,nodes,leases⟩ (nodes.drop (V+1))=lU ⟨rev,jobs,nodes,leases⟩ by rw [<- uQ.z,Q.z,decide_eq_true hU]; rfl);go_wp2
            go_region
            go_wp2
            go_roundw
            case rel=>exact⟨V+1,by omega,by go_num,U.z,ba.z⟩
            case measure=>simp [intOf]; omega
          · have d1:decide (G<aq)=true:=t8 (by omega)
            have Qa:=ω (show aE ⟨rev,jobs,nodes,leases⟩=9 by
             have:lU ⟨rev,jobs,nodes,leases⟩=false:=by rw [<- uQ.z,Q.z,decide_eq_false hU]; rfl
             rw [a9.z,this]; rfl)
            go_wp2
            go_region
            go_wp2;go_ret2;exact L.z 9 Qa.z (by omega) _ U.below
        · obtain rfl:V=m:=by omega
          have aY:=ω (show aE ⟨rev,jobs,nodes,leases⟩=0 by
           have:lU ⟨rev,jobs,nodes,leases⟩=true:=by rw [<- uQ.z,List.drop_of_length_le (by show nodes.length<=V; omega)]; rfl
           rw [a9.z,if_pos this])
          have HC:=ω b;clear b;go_wp2;go_ret2;exact⟨HC.below,.inr ⟨aY,_,_,_,_,_,_,_,g3,rfl,HC.tabs,aR⟩⟩
def vS (s:ByteArray):ByteArray × Int:=if 16<s.size then (⟨#[]⟩,2) else if validD s.data.toList=true then (⟨#[UInt8.ofNat s.size]⟩ ++ s,0) else (⟨#[]⟩,4)
def jD (s:ByteArray) (w:World) (e:Ending) (w':World):Prop:=e = .returned (.tuple #[.string (vS s).1,.int .i64 (vS s).2])/\Below w w w'
theorem jD.large {s:ByteArray} {w w':World} (h:16<s.size) (a:Below w w w'):jD s w (.returned (.tuple #[.string ⟨#[]⟩,(2:Int)])) w':=⟨by unfold vS; rw [if_pos h],a⟩
theorem jD.form {s:ByteArray} {w w':World} (h:¬ 16<s.size) (b:validD s.data.toList=false) (a:Below w w w'):jD s w (.returned (.tuple #[.string ⟨#[]⟩,(4:Int)])) w':=⟨by unfold vS; rw [if_neg h,if_neg (by rw [b]; simp)],a⟩
theorem jD.ok {s x:ByteArray} {w w':World} (h:¬ 16<s.size) (b:validD s.data.toList=true) (c:x=⟨#[UInt8.ofNat s.size]⟩ ++ s) (a:Below w w w'):jD s w (.returned (.tuple #[x,(0:Int)])) w':=⟨by unfold vS; rw [if_neg h,if_pos b,c],a⟩
theorem Mv (s:ByteArray) (w:World) (m:s.size<=9223372036854775807) (k:Tabs w):ψ 211 #[s] w (jD s w):=by
 by_cases h:16<s.size
 · have a:=ω (jD.large (w:=w) (w':=w) h θ);go_enter Tryz.func211,Tryz.ntmps211;go_wp2;go_ret2;exact a
 · have c:=ω (xG s w m k);cases d:validD s.data.toList
   · have a:=ω (fun w'=>jD.form (w:=w) (w':=w') h d);rw [d] at c;go_enter Tryz.func211,Tryz.ntmps211
     go_wp2_with fail
     refine c.mono ?_;rintro e j ⟨rfl,b⟩;go_wp2;go_ret2;exact a.z _ b
   · have a:=ω (fun x w'=>jD.ok (x:=x) (w:=w) (w':=w') h d);rw [d] at c;have o:=ω (uS (n:=s.size) (by omega));go_enter Tryz.func211,Tryz.ntmps211
     go_wp2_with fail
     refine c.mono ?_;rintro e j ⟨rfl,b⟩
     go_wp2_with fail
     refine Calls.mono (zW (s.size:Int) j (by omega) (by omega)) ?_;rintro e p ⟨rfl,i⟩;rw [show ((s.size:Int)).toNat=s.size from by omega,o.z];have l:=ω (b.trans (i.mono b.size));clear b i;go_wp2;go_ret2;exact a.z _ _ rfl l.z
theorem JN (s:ByteArray) (w:World) (k:s.size<=9223372036854775807):ψ 125 #[s] w (jD s w):=by
 by_cases h:16<s.size
 · have a:=ω (jD.large (w:=w) (w':=w) h θ);go_enter Tryz.func125,Tryz.ntmps125;go_wp2;go_ret2;exact a
 · have b:=ω (Bj s w (by omega));cases c:validD s.data.toList
   · have a:=ω (fun w'=>jD.form (w:=w) (w':=w') h c);rw [c] at b;go_enter Tryz.func125,Tryz.ntmps125
     go_wp2_with fail
     refine b.mono ?_;rintro e j ⟨rfl,rfl⟩;go_wp2;go_ret2;exact a.z _ θ
   · have a:=ω (fun x w'=>jD.ok (x:=x) (w:=w) (w':=w') h c);rw [c] at b;go_enter Tryz.func125,Tryz.ntmps125
     go_wp2_with fail
     refine b.mono ?_;rintro e j ⟨rfl,rfl⟩
     go_wp2_with fail
     refine Calls.mono (pV (s.size:Int) w (by omega) (by omega)) ?_;rintro e l ⟨rfl,d⟩;rw [show ((s.size:Int)).toNat=s.size from by omega];have i:=ω d;clear d;go_wp2;go_ret2;exact a.z _ _ rfl i.z
structure dE (base g:Nat) (w w':World):Prop where
 os:w'.os=w.os
 tape:w'.tape=w.tape
 output:w'.output=w.output
 size:w.heap.size<=w'.heap.size
 block:∀ k,k<w.heap.size->k≠g->(k<base\/∀ cs fz,w.heap[k]? ≠ some (.cells cs 5 fz))->w'.heap[k]? = w.heap[k]?
section
variable {base g:Nat} {w w' w'':World}
theorem dE.refl (w:World):dE base g w w:=⟨rfl,rfl,rfl,lJ,fun _ _ _ _=>rfl⟩
theorem dE.trans (h:dE base g w w') (b:dE base g w' w''):dE base g w w'':=
 ⟨b.os.trans h.os,b.tape.trans h.tape,b.output.trans h.output,v6 h.size b.size,fun k c d a=>by
  have e:=h.block k c d a;refine (b.block k (u7 c h.size) d ?_).trans e;rcases a with a | a
  · exact .inl a
  · exact .inr (fun f i j=>a f i (e.symm.trans j))⟩
theorem dE.drew (w:World):dE base g w w.drew:=⟨rfl,rfl,rfl,lJ,fun _ _ _ _=>rfl⟩
theorem dE.of_below (a:Below w w w'):dE base g w w':=⟨a.os,a.tape,a.output,a.size,fun k b _ _=>a.block k b⟩
theorem dE.below (h:dE base g w w') (c:base<=g) (b:base<=w.heap.size):Below base w w':=
 ⟨h.os,h.tape,h.output,h.size,fun k a=>h.block k (u7 a b) (by omega) (.inl a)⟩
theorem dE.blk {k:Nat} {t:TypeId} {cs:Array Value} (h:dE base g w w') (a:Blk w k t cs) (d:t ≠ 5) (c:k≠g):Blk w' k t cs:=
 (h.block k a.lt c (.inr (fun e f b=>by
  unfold Blk at a;rw [a] at b;simp only [Option.some.injEq,Obj.cells.injEq] at b;exact d b.2.1))).trans a
theorem yV {v:Value} {n:Nat} {xs:List Value} (d:w.ownsRow base 5 1 v n xs) {k:Nat} (a:v.ownBlock=some k):base<=k/\∃ cs,w.heap[k]? = some (.cells cs 5 (0,0)):=by
 rcases d.2 with ⟨rfl,_⟩ | ⟨q,e,f,rfl,b,c,_⟩
 · simp [Value.ownBlock] at a
 · simp [Value.ownBlock] at a;subst a;exact⟨b,_,c⟩
theorem dE.mC {v:Value} {n:Nat} {xs:List Value} (f:w.ownsRow base 5 1 v n xs) (a:w.grownBy w' v.ownBlock):dE base g w w':=
 ⟨a.os,a.tape,a.output,a.size,fun k d _ b=>a.block k d (fun e=>by
  obtain⟨i,h,c⟩:=yV f e.symm;rcases b with b | b
  · omega
  · exact b _ _ c)⟩
theorem dE.set (w:World) (i:Nat) (u:Value):dE base g w (sX w g i u):=
 ⟨rfl,rfl,rfl,by simp [World.setCell],fun k _ a _=>Below.heap_setCell w ⟨g,i,none⟩ u k a⟩
end
def tN (w:World) (base g:Nat) (l:List UInt8):Prop:=base<=g/\∃ A m c,Blk w g 238 #[.slice A m c]/\w.ownsRow base 5 1 (.slice A m c) m (bK l)
theorem JV {w:World} {base:Nat} {v:Value} {n:Nat} {xs:List Value} (a:w.ownsRow base 5 1 v n xs):∃ A c,v = .slice A n c:=by
 rcases a.2 with ⟨rfl,h⟩ | ⟨q,b,d,rfl,_⟩
 · subst h; exact⟨_,_,rfl⟩
 · exact⟨_,_,rfl⟩
theorem own_below {w w':World} {base:Nat} {v:Value} {n:Nat} {xs:List Value} (f:w.ownsRow base 5 1 v n xs) (e:Below w w w'):w'.ownsRow base 5 1 v n xs:=by
 rcases f with ⟨a,h | ⟨q,c,d,j,i,b,r⟩⟩
 · exact⟨a,.inl h⟩
 · have hlt:q<w.heap.size:=(Array.getElem?_eq_some_iff.1 b).1;exact⟨a,.inr ⟨q,c,d,j,i,(e.block q hlt).trans b,r⟩⟩
theorem tN.below {w w':World} {base g:Nat} {l:List UInt8} (h:tN w base g l) (b:Below w w w'):tN w' base g l:=by
 obtain⟨d,A,m,c,a,e⟩:=h;exact⟨d,A,m,c,a.below b a.lt,own_below e b⟩
theorem tN.lt {w:World} {base g:Nat} {l:List UInt8} (h:tN w base g l):g<w.heap.size:=by
 obtain⟨_,A,m,c,a,_⟩:=h;exact a.lt
theorem tW {w:World} {base:Nat} {A:Option Addr} {m c:Nat} {l:List UInt8} (h:w.ownsRow base 5 1 (.slice A m c) m (bK l)):l.length=m:=by
 have:=h.1;rw [fF,Nat.mul_one] at this;exact this
def Mw (base g:Nat) (l:List UInt8) (w:World) (e:Ending) (w':World):Prop:=e = .returned (.tuple #[])/\tN w' base g l/\dE base g w w'
theorem NR {w:World} {base:Nat} {v:Value} {n:Nat} {xs:List Value} {a:Addr} (j:w.ownsRow base 5 1 v n xs) (ha:v.ownBlock≠some a.block) (u:Value):(w.setCell a u).ownsRow base 5 1 v n xs:=by
 rcases j with ⟨b,h | ⟨q,d,e,c,k,i,r⟩⟩
 · exact⟨b,.inl h⟩
 · refine⟨b,.inr ⟨q,d,e,c,k,?_,r⟩⟩;rw [Below.heap_setCell w a u q (fun f=>ha (by rw [c]; simp [Value.ownBlock,f]))];exact i
theorem tN.put {w b:World} {base g:Nat} {A e:Option Addr} {m c d f:Nat} {l p:List UInt8} (r:base<=g) (h:Blk w g 238 #[.slice A m c]) (n:w.ownsRow base 5 1 (.slice A m c) m (bK l))
 (o:b.ownsRow base 5 1 (.slice e d f) d (bK p)) (k:w.grownBy b (Value.slice A m c).ownBlock) :
 Blk b g 238 #[.slice A m c]/\tN (sX b g 0 (.slice e d f)) base g p/\dE base g w (sX b g 0 (.slice e d f)):=by
 have s:some g≠(Value.slice A m c).ownBlock:=fun j=>by
  obtain⟨_,q,a⟩:=yV n j.symm;unfold Blk at h;rw [h] at a;simp only [Option.some.injEq,Obj.cells.injEq] at a;exact absurd a.2.1 (by decide)
 have i:Blk b g 238 #[.slice A m c]:=(k.block g h.lt s).trans h;refine⟨i,⟨r,e,d,f,Blk.eq (i.set 0 _) (by simp),NR o (fun j=>?_) _⟩,(dE.mC n k).trans (dE.set b 0 _)⟩;obtain⟨_,q,a⟩:=yV o j;unfold Blk at i;rw [i] at a;simp only [Option.some.injEq,Obj.cells.injEq] at a;exact absurd a.2.1 (by decide)
theorem Bm (base g:Nat) (l:List UInt8) (n:Int) (w:World) (t:0<=n) (C:n<=9223372036854775807) (s:tN w base g l) (E:l.length<=100000000) :
 ψ 159 #[π g 0,n] w (Mw base g (l ++ bg n.toNat) w):=by
 obtain⟨u,A,m,c,a,b⟩:=s;have v:=tW b;have x:ζ w g 0 (.slice A m c):=a.cell 0;have D:=a.lt;have h:=ω (CC base A m c l n w t (by omega) b (by omega) (by omega));have q:=ω a;have r:=ω b;clear a b v;go_enter Tryz.func159,Tryz.ntmps159
 go_wp2_with fail
 refine h.mono ?_;rintro B p ⟨y,F,z,rfl,o,j⟩;obtain⟨d,i,k⟩:=tN.put u q.z r.z o j.grown;have G:ζ p g 0 (.slice A m c):=d.cell 0;have H:κ p g 0:=d.thaw 0;have e:=ω (And.intro i k);clear h o j i k d x;go_wp2;go_end0;exact⟨rfl,e.z.1,e.z.2⟩
theorem JS (base g:Nat) (l:List UInt8) (s:ByteArray) (w:World) (D:s.size<=9223372036854775807) (k:Tabs w) (j:tN w base g l) (R:l.length<=100000000) (P:base<=w.heap.size) :
 ψ 172 #[π g 0,s] w (Mw base g (l ++ (vS s).1.data.toList) w):=by
 have n:=ω (Mv s w D k);have H:=ω j;clear j k;go_enter Tryz.func172,Tryz.ntmps172
 go_wp2_with fail
 refine n.mono ?_;rintro N p ⟨rfl,b⟩;obtain⟨y,A,m,i,a,d⟩:=H.below b
 have E:(vS s).1.size<=17:=by
  unfold vS
  split
  · show (0:Nat)<=17; omega
  · split
    · rw [ByteArray.size_append]; show 1+s.size<=17; omega
    · show (0:Nat)<=17; omega
 generalize o:(vS s).1=t at E |-;have v:=ω o;clear o;generalize (vS s).2=L;have S:=tW d;have V:ζ p g 0 (.slice A m i):=a.cell 0;have Q:=a.lt;have r:=ω a;have h:=ω d;have O:=b.size;have u:=ω b;have T:m<=100000000:=by omega
 clear n a d b;have z:base<=p.heap.size:=by omega
 obtain⟨J,C,F,G,I⟩:=info_parts Tryz.infoU8;have x:bK l ++ Lib.strCells t=bK (l ++ t.data.toList):=by rw [iA]; rfl
 go_wp2_with (at_builtin; refine Lib.wpList_append_own_string _ rfl _ _ _ _ rfl base 5 J Tryz.underlying55 Tryz.underlying9 C F G I _ m _ rfl h.z t rfl (by unfold maxLen; omega) (by omega) z ?_; intro U q e B _; obtain⟨K,M,rfl⟩:=JV e; rw [x] at e; have c:=tN.put y r.z h.z e B; have W:ζ q g 0 (.slice A m i):=c.1.cell 0; have X:κ q g 0:=c.1.thaw 0)
 all_goals (go_end0; exact⟨rfl,by rw [v.z]; exact c.2.1,(dE.of_below u.z).trans c.2.2⟩)
theorem Fo (base g:Nat) (l:List UInt8) (n:Int) (w:World) (s : -9223372036854775808<=n) (t:n<=9223372036854775807) (r:tN w base g l) (G:l.length<=100000000) (v:base<=w.heap.size) :
 ψ 210 #[π g 0,n] w (Mw base g (l ++ bg (mW n).toNat) w):=by
 obtain⟨u,A,m,d,a,b⟩:=r;have B:=tW b;have I:ζ w g 0 (.slice A m d):=a.cell 0;have F:=a.lt;have h:0<=mW n/\mW n<18446744073709551616:=by unfold mW; split <;> omega
 generalize j:mW n=z at h |-;have i:∀ W,ψ 234 #[n] W fun e w'=>e = .returned (.int .u64 z)/\W=w':=fun W=>by rw [<- j]; exact Nk n s t W
 have x:=ω (CC base A m d l z w.drew h.1 h.2 b (by omega) v);have q:=ω i;have o:=ω a;have p:=ω b;clear a b B i j;go_enter Tryz.func210,Tryz.ntmps210
 go_wp2_with fail
 go_region_with (first
  | (go_at_call 234; refine (q.z _).mono ?_; rintro e w' ⟨rfl,rfl⟩)
  | (go_at_call 200; refine (x.z).mono ?_; rintro e k ⟨D,H,E,rfl,C,y⟩; have c:=tN.put (w:=w.drew) u o.z p.z C y.grown; have J:ζ k g 0 (.slice A m d):=c.1.cell 0; have K:κ k g 0:=c.1.thaw 0))
 all_goals (go_end0; exact⟨rfl,c.2.1,(dE.drew w).trans c.2.2⟩)
theorem GO (xs b:List ak) (A M:Option Addr) (n m c S:Nat) (w:World) (C:bC w w 3 A n (au aB xs)) (D:bC w w 3 M m (au aB b)) (I:xs.length=n) (J:b.length=m) (hn:n<=9223372036854775807) (hm:m<=9223372036854775807) :
 ψ 154 #[.slice A n c,.slice M m S] w (Av xs b w):=by
 by_cases h:n=m
 · subst h;have U:((n:Int) != n)=false:=by simp
   have E:=ω I;have F:=ω J;clear I J;go_enter Tryz.func154,Tryz.ntmps154;go_wp2
   go_loopw [13] (fun H wr=>KG xs b n w H wr) (fun H _=>n - (intOf H).toNat)
   case atStart=>exact⟨0,Nat.zero_le _,rfl,rfl,θ⟩
   case round=>
    obtain⟨k,hk,rfl,P,a⟩:=hrel;have O:=ω P;clear P;by_cases hlt:k<n
    · obtain⟨x,q⟩:∃ x,xs[k]? = some x:=⟨_,gO (by rw [E.z]; exact hlt)⟩;obtain⟨y,r⟩:∃ y,b[k]? = some y:=⟨_,gO (by rw [F.z]; exact hlt)⟩;obtain⟨s,K,rfl,ab,v⟩:=(C.below a).eC aI E.z q;obtain⟨u,L,rfl,Y,z⟩:=(D.below a).eC aI F.z r;obtain⟨p,j,l⟩:=x;obtain⟨o,d,e⟩:=y;have c0:ζ wr s (K+k*3) (.string p):=v 0 _ rfl;have d0:ζ wr u (L+k*3) (.string o):=z 0 _ rfl;have c1:ζ wr s (K+k*3+1) (.string j):=v 1 _ rfl;have d1:ζ wr u (L+k*3+1) (.string d):=z 1 _ rfl;have c2:ζ wr s (K+k*3+2) (.int .i64 l):=v 2 _ rfl;have d2:ζ wr u (L+k*3+2) (.int .i64 e):=z 2 _ rfl;have ae:=a.size;have ac:s<wr.heap.size:=by omega
      have ad:u<wr.heap.size:=by omega
      have R:=ω a;have Z:=ω q;have aa:=ω r;have i:=ω R.drew;have step:=ω (fun (h:(⟨p,j,l⟩:ak)=⟨o,d,e⟩)=>jP (q.trans (congrArg some h)) r O.z);have stop:=ω (fun (h:(⟨p,j,l⟩:ak)≠⟨o,d,e⟩)=>oV q r h);clear v z C D q r a;obtain⟨t,G,B,-⟩:=vw p o j d l e;have N:=ω G;cases t
      · have Q:=ω (stop.z (fun h=>absurd (N.z.2 h) (by decide)));have V:∀ W,(binOp .neq 66 (.agg #[p,j,l]) (.agg #[o,d,e])).run Tryz.prog W = .ok (.bool true) W:=B;clear G B step;go_wp2
        go_region
        go_wp2;go_ret;exact⟨false,rfl,⟨fun h=>(by cases h),fun h=>absurd h Q.z⟩,i⟩
      · have X:=ω (step.z (N.z.1 rfl));have V:∀ W,(binOp .neq 66 (.agg #[p,j,l]) (.agg #[o,d,e])).run Tryz.prog W = .ok (.bool false) W:=B;clear G B stop;go_wp2
        go_region
        go_wp2
        go_roundw
        case rel=>exact⟨k+1,by omega,by go_num,X.z,i.z⟩
        case measure=>simp [intOf]; omega
    · have i:=ω a
      have same:=ω (show xs=b by
       have T:=O.z;rwa [List.take_of_length_le (by rw [E.z]; omega),List.take_of_length_le (by rw [F.z]; omega)] at T)
      clear a C D;go_wp2;go_ret;exact⟨true,rfl,⟨fun _=>same.z,fun _=>rfl⟩,i⟩
 · have U:((n:Int) != m)=true:=by simp; omega
   have i:=ω (show xs≠b by rintro rfl; omega);clear I J C D;go_enter Tryz.func154,Tryz.ntmps154;go_wp2;go_ret;exact⟨false,rfl,⟨fun h=>(by cases h),fun h=>absurd h i.z⟩,θ⟩
end Go.Proofs.YtimglglgcgpjgaaGreatDoor
