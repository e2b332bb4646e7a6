/- Of the proof of a statement: RBetween, SrvAt, PlFrs, FrsR, PushFeed, PlFrBack, CkSz, Diff, ReqQ, PlWorks, RRows, SGood, Frm. -/
import Derived.Lib.QuietBelow
import Derived.Test.YtbllgmociapjeaaGreatDoorRows
import Derived.WalkKit
import Derived.ProofKit
import Derived.OpenShut
import Derived.ShutString
import Derived.ChangeOld
import Derived.Below
import Derived.Lib.SmallJoins
import Derived.Test.YtbllgmociapjeaaGreatDoorVBetween
import Derived.Test.YtbllgmociapjeaaGreatDoorVDoA
import Derived.Test.YtbllgmociapjeaaGreatDoorVFrmDec
import Derived.Test.YtbllgmociapjeaaGreatDoorVWPutV
set_option linter.unusedVariables false
set_option linter.unusedSimpArgs false
set_option maxRecDepth 100000
set_option maxHeartbeats 8000000
/- The walk of the reference's Between. -/
namespace Go.Proofs.YtbllgmociapjeaaGreatDoor
open Go.Lib (hid)
open Go.RowKit
theorem pK.grew {w0 w w':World} {ca cb cd:Array Value} {v v':Value} (h:pK w0 w ca cb cd) (hg:bZ w w' v v') (hv:∀ k,v.ownBlock=some k→w0.heap.size+4≤k):pK w0 w' ca cb cd:=
 have h4:w0.heap.size+4≤w.heap.size:=h.d.lt
 have hb:=hg.below (B:=w0.heap.size+4) h4 hv
 ⟨h.below.trans (hb.mono (by omega)),h.a.below hb (by omega),h.b.below hb (by omega),h.r.below hb (by omega),h.d.below hb (by omega)⟩
end Go.Proofs.YtbllgmociapjeaaGreatDoor
/- A server in memory: its block, the rows of its state; what leaves the rows alone. -/
namespace Go.Proofs.YtbllgmociapjeaaGreatDoor
open Go.Lib (hid)
open Go.RowKit
def jf (cs:Array Value):Prop:=∀ (i:Nat) (s:ByteArray),cs[i]? ≠ some (.string s)
theorem lH {cs:Array Value} (h:∀ v ∈ cs,∀ s,v ≠ .string s):jf cs:=fun _ s e=>h _ (Array.mem_of_getElem? e) s rfl
theorem qG (st:ah) (x:StA):jf (stC st x):=lH (by
 intro v hv s
 simp only [stC,List.mem_toArray,List.mem_cons,List.not_mem_nil,or_false] at hv
 rcases hv with rfl | rfl | rfl | rfl <;> simp)
def wY (st:ah) (x:StA) (now:Int):Array Value:=#[.int .i64 st.rev,.slice x.aj x.nj x.cj,.slice x.an x.nn x.cn,.slice x.al x.nl x.cl,.int .i64 now]
theorem pD (st:ah) (x:StA) (now:Int):jf (wY st x now):=lH (by
 intro v hv s
 simp only [wY,List.mem_toArray,List.mem_cons,List.not_mem_nil,or_false] at hv
 rcases hv with rfl | rfl | rfl | rfl | rfl <;> simp)
theorem iW (n m:Int):jf #[.int .i64 n,.int .i64 m]:=lH (by
 intro v hv s
 simp only [List.mem_toArray,List.mem_cons,List.not_mem_nil,or_false] at hv
 rcases hv with rfl | rfl <;> simp)
section
variable {w w':World} {B sz n g:Nat} {A:Option Addr} {xs:List Value} {t:TypeId} {cs:Array Value}
theorem aU.gR (h:aU w B sz A n xs) (hb:Blk w g t cs) (hc:jf cs) (h0:0<n→∃ s,xs[0]? = some (.string s)) (hg:w.grownBy w' (some g)):aU w' B sz A n xs:=
 ⟨h.len,fun hn=>by
  obtain⟨b,off,e,hB,hr⟩:=h.at_ hn
  obtain⟨s,hs⟩:=h0 hn
  refine⟨b,off,e,hB,fun j u hu=>hg.cell (hr j u hu) ?_⟩
  intro e1
  have e2:b=g:=by simpa using e1
  subst e2
  have h1:=hr 0 _ hs
  rw [Nat.add_zero,hb.cell off] at h1
  exact hc _ _ h1⟩
end
theorem sP {l:List aC} {n:Nat} (h:l.length=n) (hn:0<n):∃ s,(au aI l)[0]? = some (.string s):=by
 match l,h with
 | [],h=>simp at h; omega
 | a :: l,_=>exact⟨a.name,rfl⟩
theorem qy {l:List aA} {n:Nat} (h:l.length=n) (hn:0<n):∃ s,(au aB l)[0]? = some (.string s):=by
 match l,h with
 | [],h=>simp at h; omega
 | a :: l,_=>exact⟨a.name,rfl⟩
theorem ou {l:List ak} {n:Nat} (h:l.length=n) (hn:0<n):∃ s,(au av l)[0]? = some (.string s):=by
 match l,h with
 | [],h=>simp at h; omega
 | a :: l,_=>exact⟨a.job,rfl⟩
theorem StAt.gR {w w':World} {B g:Nat} {t:TypeId} {cs:Array Value} {st:ah} {x:StA} (h:StAt w B st x) (hb:Blk w g t cs) (hc:jf cs) (hg:w.grownBy w' (some g)):StAt w' B st x:=
 ⟨h.j.gR hb hc (sP h.lj) hg,h.n.gR hb hc (qy h.ln) hg,h.l.gR hb hc (ou h.ll) hg,h.lj,h.ln,h.ll,h.bj,h.bn,h.bl,h.oj,h.on_,h.ol⟩
theorem StAt.drew {w:World} {B:Nat} {st:ah} {x:StA} (h:StAt w B st x):StAt w.drew B st x:=
 ⟨h.j.drew,h.n.drew,h.l.drew,h.lj,h.ln,h.ll,h.bj,h.bn,h.bl,h.oj,h.on_,h.ol⟩
theorem StAt.rev {w:World} {B:Nat} {st:ah} {x:StA} (h:StAt w B st x) (r:Int):StAt w B ⟨r,st.jobs,st.nodes,st.leases⟩ x:=
 ⟨h.j,h.n,h.l,h.lj,h.ln,h.ll,h.bj,h.bn,h.bl,h.oj,h.on_,h.ol⟩
theorem StAt.upS {w w':World} {st:ah} {x:StA} (h:StAt w w.heap.size st x) (hb:Below w.heap.size w w'):StAt w' w'.heap.size st x:=(h.below hb).more hb.size
theorem lE {w:World} {B:Nat} {st:ah} {x:StA} (h:StAt w B st x) (hc:aE st=0):x.nj≤40∧x.nn≤40∧x.nl≤40:=by
 have h2:=(bP.1 hc).2.1
 unfold eC at h2
 simp only [Bool.and_eq_true,decide_eq_true_eq] at h2
 have:=h.lj; have:=h.ln; have:=h.ll
 omega
structure SrvAt (w:World) (T:TypeId) (B:Nat) (st:ah) (x:StA) (now:Int):Prop where
 blk:Blk w B T (wY st x now)
 at_:StAt w w.heap.size st x
 ok:aE st=0
 t:0≤now∧now≤1099511627776
theorem SrvAt.below {w w':World} {T:TypeId} {B:Nat} {st:ah} {x:StA} {now:Int} (h:SrvAt w T B st x now) (hb:Below w.heap.size w w'):SrvAt w' T B st x now:=
 ⟨h.blk.below hb h.blk.lt,h.at_.upS hb,h.ok,h.t⟩
theorem SrvAt.other {w w':World} {T T':TypeId} {B B':Nat} {st:ah} {x:StA} {now:Int} {cs:Array Value} (h:SrvAt w T B st x now) (hb:Blk w B' T' cs) (hc:jf cs) (hg:w.grownBy w' (some B')) (hne:B≠B'):SrvAt w' T B st x now:=
 ⟨aD hg h.blk hne,(h.at_.gR hb hc hg).more hg.size,h.ok,h.t⟩
def nE (T:TypeId) (B:Nat) (st:ah) (R:mM) (w:World) (e:Ending) (w':World):Prop:=
 ∃ (D:aW) (dx:fP) (x':StA),e = .returned (.tuple #[.agg #[.int .i64 R.e,.int .i64 R.st.rev],.agg (dC D dx),.bool R.ch])∧D=(if R.ch=true then eW st R.st else ⟨0,0,[],[],[],[],[],[]⟩)∧eF w' w'.heap.size D dx∧Blk w' B T (wY R.st x' R.now)∧StAt w' w'.heap.size R.st x'∧w.grownBy w' (some B)
end Go.Proofs.YtbllgmociapjeaaGreatDoor
/- Frames, one behind the other: plain. -/
namespace Go.Proofs.YtbllgmociapjeaaGreatDoor
open Go.Lib (hid)
theorem Ce {s:ByteArray} {f:dD} {n e:Nat} (h:fM s=(f,n,e)):(e≠0→f = .zero∧n=0)∧(e=0→9≤n∧n≤s.size):=by
 unfold fM at h
 by_cases hd:kR s=0
 · rw [if_pos hd] at h
   obtain⟨n',k,x,hr⟩:∃ n k x,rdNum (s.extract 4 s.size)=(n,k,x):=⟨_,_,_,rfl⟩
   have hf:=jl hr
   rw [hr] at h
   dsimp only at h
   by_cases hx:x=0
   · rw [if_pos hx] at h
     have h1:=(hf.2.2.2 hx).1
     by_cases hn:6000<n'
     · rw [if_pos hn] at h; cases h; exact⟨fun _=>⟨rfl,rfl⟩,fun h=>absurd h (by omega)⟩
     · rw [if_neg hn] at h
       by_cases hl:s.size<8+k+n'
       · rw [if_pos hl] at h; cases h; exact⟨fun _=>⟨rfl,rfl⟩,fun h=>absurd h (by omega)⟩
       · rw [if_neg hl] at h
         split at h
         · cases h; exact⟨fun h=>absurd rfl h,fun _=>⟨by omega,by omega⟩⟩
         · cases h; exact⟨fun _=>⟨rfl,rfl⟩,fun h=>absurd h (by omega)⟩
   · rw [if_neg hx] at h; cases h; exact⟨fun _=>⟨rfl,rfl⟩,fun h=>absurd h hx⟩
 · rw [if_neg hd] at h; cases h; exact⟨fun _=>⟨rfl,rfl⟩,fun h=>absurd h hd⟩
inductive Frs:ByteArray→List dD→Nat→Nat→Prop
 | stop {s:ByteArray} {e:Nat}:fM s=(.zero,0,e)→e≠0→Frs s [] 0 e
 | step {s:ByteArray} {f:dD} {n:Nat} {fs:List dD} {m e:Nat}:fM s=(f,n,0)→1≤n→n≤s.size→Frs (s.extract n s.size) fs m e→Frs s (f :: fs) (n+m) e
theorem Frs.all_:∀ (k:Nat) (s:ByteArray),s.size≤k→∃ fs m e,Frs s fs m e
 | k,s,hk=>by
  obtain⟨f,n,e,h⟩:∃ f n e,fM s=(f,n,e):=⟨_,_,_,rfl⟩
  obtain⟨h1,h2⟩:=Ce h
  by_cases he:e=0
  · subst he
    obtain⟨h3,h4⟩:=h2 rfl
    match k,hk with
    | 0,hk=>omega
    | k+1,hk=>
     obtain⟨fs,m,e,hr⟩:=Frs.all_ k (s.extract n s.size) (by rw [ByteArray.size_extract]; omega)
     exact⟨_,_,_,.step h (by omega) h4 hr⟩
  · obtain⟨rfl,rfl⟩:=h1 he
    exact⟨_,_,_,.stop h he⟩
theorem Frs.all (s:ByteArray):∃ fs m e,Frs s fs m e:=Frs.all_ s.size s (Nat.le_refl _)
theorem Frs.facts {s:ByteArray} {fs:List dD} {m e:Nat} (h:Frs s fs m e):m≤s.size∧e≠0∧fs.length≤m:=by
 induction h with
 | stop _ he=>exact⟨Nat.zero_le _,he,Nat.le_refl _⟩
 | step _ h1 h2 _ ih=>
  rw [ByteArray.size_extract] at ih
  refine⟨by omega,ih.2.1,?_⟩
  rw [List.length_cons]; omega
end Go.Proofs.YtbllgmociapjeaaGreatDoor
/- The walk of the reference Frames. -/
namespace Go.Proofs.YtbllgmociapjeaaGreatDoor
open Go.Lib (hid)
open Go.RowKit
def Kn:Value:=.agg #[.int .i64 0,.int .i64 0,.string ⟨#[]⟩]
theorem Et:(Tryz.prog.info? 40).map (fun i=>(i.zero,i.size,i.bytes))=some (some Kn,3,32):=by kernel_rfl
theorem GH (f:dD):∀ u ∈ zR f,u.oneCell'=true:=by
 intro u hu
 simp only [zR,List.mem_cons,List.not_mem_nil,or_false] at hu
 rcases hu with rfl | rfl | rfl <;> rfl
theorem jL {w w':World} {base:Nat} {e:TypeId} {sz n:Nat} {v:Value} {xs:List Value} (h:w.ownsRow base e sz v n xs) (hb:Below w.heap.size w w'):w'.ownsRow base e sz v n xs:=
 h.kept (row:=none) ⟨hb.os,hb.tape,hb.output,hb.size,fun k hk _=>hb.block k hk⟩ (by
  by_cases h:v.ownBlock=none
  · exact .inl h
  · exact .inr h)
theorem Cf {s:ByteArray} {f:dD} {n e:Nat} (h:fM s=(f,n,e)) (w:World) (hs:s.size≤9223372036854775807) :
 Calls Tryz.prog 7 #[.string s] w fun x w'=>x = .returned (.tuple #[.agg #[.int .i64 f.ver,.int .i64 f.kind,.string f.pay],.int .i64 (n:Int),.int .i64 (e:Int)])∧Below w.heap.size w w':=by
 have h1:=IY s w hs
 unfold iJ KE at h1
 rw [h] at h1
 exact h1
end Go.Proofs.YtbllgmociapjeaaGreatDoor
/- The walk of Feed.Push. -/
namespace Go.Proofs.YtbllgmociapjeaaGreatDoor
open Go.Lib (hid)
open Go.RowKit
def iX (w:World) (g:Nat) (rest:ByteArray) (at_:Int) (stuck:Int):Prop:=Blk w g 138 #[.string rest,.int .i64 at_,.int .i64 stuck]
def LL (s:ByteArray) (g at0:Nat) (fs:List dD) (m e:Nat) (w:World) (out:Value) (wr:World) (k:Nat):Prop:=
 ∃ (done left:List dD) (A:Option Addr) (n c a m':Nat),fs=done ++ left∧m=a+m'∧out = .slice A n c∧n≤a∧a≤s.size∧k=s.size - a∧Frs (s.extract a s.size) left m' e∧wr.ownsRow w.heap.size 40 3 (.slice A n c) n (au zR done)∧w.grownBy wr (some g)∧iX wr g (s.extract a s.size) ((at0:Int)+(a:Int)) 0
def Ju (s:ByteArray) (g at0:Nat) (fs:List dD) (m e:Nat) (w:World) (x:Ending) (w':World):Prop:=
 ∃ A n c,x = .returned (.tuple #[.slice A n c,.int .i64 (if e=3 then 0 else (e:Int))])∧fs.length=n∧w'.ownsRow w.heap.size 40 3 (.slice A n c) n (au zR fs)∧w.grownBy w' (some g) ∧
  iX w' g (if e=3 then s.extract m s.size else ⟨#[]⟩) ((at0:Int)+(m:Int)) (if e=3 then 0 else (e:Int))
theorem Gk {rest p s:ByteArray} {g at0:Nat} {fs:List dD} {m e:Nat} (w:World) (hs:rest ++ p=s) (h:Frs s fs m e) (hF:iX w g rest at0 0) (hsz:s.size≤2097152) (hat:at0≤2097152) :
 Calls Tryz.prog 37 #[.pointer (some ⟨g,0,none⟩),.string p] w (Ju s g at0 fs m e w):=by
 have hh:=hid h
 have hlt:=hF.lt
 have x0:w.cell? ⟨g,0,none⟩=some (.string rest):=Blk.cell hF 0
 have x2:w.cell? ⟨g,2,none⟩=some (.int .i64 0):=Blk.cell hF 2
 have t0:=Blk.thaw hF 0
 have hB0:=hid (show iX (w.setCell ⟨g,0,none⟩ (.string s)) g s (at0:Int) 0 from Blk.eq (Blk.set hF 0 _) (by simp))
 have hpl:¬ 9223372036854775807<rest.size+p.size:=by
  have:=congrArg ByteArray.size hs
  rw [ByteArray.size_append] at this; omega
 have hpl2:rest.size+p.size≤9223372036854775807:=by omega
 clear h hF
 go_enter Tryz.func37,Tryz.ntmps37
 go_wp2
 go_loopg [4,5,6,7,8,9,27] s.size (fun k _ _ out _ _ _ _ wr=>LL s g at0 fs m e w out wr k)
 case atStart=>exact⟨[],fs,none,0,0,0,m,rfl,by omega,rfl,Nat.le_refl _,Nat.zero_le _,rfl,by rw [show s.extract 0 s.size=s from by simp]; exact hh.out,World.ownsRow_nil _ _ _ _,aQ (World.grownBy.refl w _) _ _,by rw [show s.extract 0 s.size=s from by simp]; exact Blk.eq hB0.out (by simp)⟩
 case round=>
  obtain⟨done,left,A,n,c,a,m',hfs,hm,rfl,hna,ha,rfl,hF,ho,hg,hB⟩:=hrel
  have y0:wr.cell? ⟨g,0,none⟩=some (.string (s.extract a s.size)):=Blk.cell hB 0
  have hsz1:=hid (show (s.extract a s.size).size≤9223372036854775807 from by rw [ByteArray.size_extract]; omega)
  have hgl:=hB.lt
  have HB:=hid hB
  clear x0 x2 t0 hB0 hpl hpl2 hs hB
  cases hF with
  | stop hd he=>
   have hd:=hid hd
   have e1:((e:Int) == 0)=false:=by simp; omega
   have fin:=hid (show fs=done from by rw [hfs]; simp)
   have hm:=hid (show m=a from hm)
   clear hfs
   go_wp2_with fail
   refine Calls.mono (Cf hd.out _ hsz1.out) ?_
   rintro x w1 ⟨rfl,hb1⟩
   have ho1:=hid ((jL ho hb1).alloc (.cells #[.int .i64 0,.int .i64 0,.string ⟨#[]⟩] 40))
   have hb2:=hb1.alloc hb1.size (.cells #[.int .i64 0,.int .i64 0,.string ⟨#[]⟩] 40)
   have hG:=hid (gH hg hb2)
   have hB1:=HB.out.below hb2 hgl
   have z0:w1.cell? ⟨g,0,none⟩=some (.string (s.extract a s.size)):=Blk.cell (Blk.below HB.out hb1 hgl) 0
   have z2:w1.cell? ⟨g,2,none⟩=some (.int .i64 0):=Blk.cell (Blk.below HB.out hb1 hgl) 2
   have t0:=Blk.thaw (Blk.below HB.out hb1 hgl) 0
   have t2:=Blk.thaw (Blk.below HB.out hb1 hgl) 2
   have hgl1:g<w1.heap.size:=by have:=hb1.size; omega
   have HB1:=hid hB1
   have hlen:=hid (show done.length=n from by have:=ho.1; rw [kO uP] at this; omega)
   have hoE:=hid ((jL ho hb1).kept (row:=some g) (aQ (aQ (World.grownBy.refl w1 _) 0 (.string ⟨#[]⟩)) 2 (.int .i64 (e:Int))) (.inr (fun h=>by have:=((jL ho hb1).lt g h).1; omega)))
   have hGE:=hid (aQ (aQ (gH hg hb1) 0 (.string ⟨#[]⟩)) 2 (.int .i64 (e:Int)))
   have hBE:=hid (show iX ((w1.setCell ⟨g,0,none⟩ (.string ⟨#[]⟩)).setCell ⟨g,2,none⟩ (.int .i64 (e:Int))) g ⟨#[]⟩ ((at0:Int)+(a:Int)) (e:Int) from Blk.eq ((Blk.set (Blk.below HB.out hb1 hgl) 0 _).set 2 _) (by simp))
   clear ho hb1 hb2 hg hB1 y0
   by_cases h3:e=3
   · subst h3
     clear e1 he
     go_wp2
     refine bodyPost_ret (v:=.tuple #[.slice A n c,.int .i64 0]) (by simp [results,Tryz.results37,go_sem]) rfl ?_
     exact⟨A,n,c,rfl,by rw [fin.out]; exact hlen.out,by rw [fin.out]; exact ho1.out,hG.out,by rw [hm.out]; exact HB1.out⟩
   · have e2:((e:Int) == 3)=false:=by simp; omega
     go_wp2
     refine bodyPost_ret (v:=.tuple #[.slice A n c,.int .i64 (e:Int)]) (by simp [results,Tryz.results37,go_sem]) rfl ?_
     exact⟨A,n,c,by rw [if_neg h3],by rw [fin.out]; exact hlen.out,by rw [fin.out]; exact hoE.out.alloc _,gH hGE.out ((Below.refl _ _).alloc (Nat.le_refl _) _),by rw [hm.out,if_neg h3,if_neg h3]; exact hBE.out.alloc _⟩
  | @step _ f n1 fs1 m1 _ hd h1 h2 hF=>
   have hd:=hid hd
   have h2':=h2
   rw [ByteArray.size_extract] at h2'
   have e0:(s.extract a s.size).extract n1 (s.extract a s.size).size=s.extract (a+n1) s.size:=by
    rw [ByteArray.extract_extract,ByteArray.size_extract]
    congr 1
    omega
   have hF1:=hid (show Frs (s.extract (a+n1) s.size) fs1 m1 e from by rw [← e0]; exact hF)
   have q1:∀ W:World,(Instr.slice 9 (.string (s.extract a s.size)) (some (.int .i64 (n1:Int))) none none).run Tryz.prog W = .ok (.string (s.extract (a+n1) s.size)) W:=fun W=>by
    rw [run_slice_string_from_if (P:=Tryz.prog) (w:=W) 9 (s.extract a s.size) .i64 (n1:Int) Tryz.underlying9,if_pos ⟨by omega,by omega⟩,show ((n1:Int)).toNat=n1 from by omega,e0]
   have fin:=hid (show fs=(done ++ [f]) ++ fs1 from by rw [hfs]; simp)
   have hm:=hid (show m=(a+n1)+m1 from by omega)
   clear hfs hF e0
   obtain⟨ver,kind,pay⟩:=f
   go_wp2_with fail
   refine Calls.mono (Cf hd.out _ hsz1.out) ?_
   rintro x w1 ⟨rfl,hb1⟩
   dsimp only
   have ho1:=(jL ho hb1).alloc (.cells #[.int .i64 (ver:Int),.int .i64 (kind:Int),.string pay] 40)
   have hb2:=hb1.alloc hb1.size (.cells #[.int .i64 (ver:Int),.int .i64 (kind:Int),.string pay] 40)
   have hG:=hid (gH hg hb2)
   have hbr:=hG.out.size
   have HB1:=hid (HB.out.below hb2 hgl)
   have Hlt:=hid ho1.lt
   clear ho hb1 hb2 hg y0
   go_wp2_with (at_builtin; refine ko zR rfl _ _ 99 40 Kn 3 32 rfl Tryz.underlying99 Et rfl (by decide) uP GH w.heap.size _ _ _ done rfl ho1 _ ⟨ver,kind,pay⟩ rfl _ (by simp) rfl (by omega) (by unfold maxLen; omega) hbr ?_; intro A2 c2 w2 ho2 hg2; have HB2:=hid (HB1.out.grew hg2 (fun k hk=>by have:=(Hlt.out k hk).1; omega)); have y0:=Blk.cell HB2.out 0; have y1:=Blk.cell HB2.out 1; have t0:=Blk.thaw HB2.out 0; have t1:=Blk.thaw HB2.out 1; dsimp at y0 y1)
   go_roundg (s.size - (a+n1))
   case rel=>exact⟨done ++ [⟨ver,kind,pay⟩],fs1,A2,n+1,c2,a+n1,m1,fin.out,hm.out,rfl,by omega,by omega,rfl,hF1.out,ho2.kept (row:=some g) (aQ (aQ (World.grownBy.refl w2 _) 0 _) 1 _) (.inr (fun h=>by have:=(ho2.lt g h).1; omega)),aQ (aQ (GD hG.out hg2 (fun k hk=>(Hlt.out k hk).1)) _ _) _ _,Blk.eq ((HB2.out.set 0 _).set 1 _) (by simp; omega)⟩
   case measure=>omega
end Go.Proofs.YtbllgmociapjeaaGreatDoor
/- A frame that is written is read: plain. -/
namespace Go.Proofs.YtbllgmociapjeaaGreatDoor
open Go.Lib (hid)
theorem GI (v k:Nat) (p:List UInt8) (hv:1≤v∧v≤3) (hk:1≤k∧k≤4) (hp:p.length≤6000):fM (BA (cR v k p))=(⟨v,k,BA p⟩,(cR v k p).length,0):=by
 have ev:(UInt8.ofNat v).toNat=v:=by rw [UInt8.toNat_ofNat']; omega
 have ek:(UInt8.ofNat k).toNat=k:=by rw [UInt8.toNat_ofNat']; omega
 have e:cR v k p=66 :: 75 :: UInt8.ofNat v :: UInt8.ofNat k :: (aO p.length ++ (p ++ mJ (mK v k p))):=by simp [cR,mK]
 have hs4:(mJ (mK v k p)).length=4:=rfl
 have hB:(mK v k p).length=4+(aO p.length).length+p.length:=by simp [mK]; omega
 have hL:(cR v k p).length=8+(aO p.length).length+p.length:=by
  unfold cR; rw [List.length_append,hB,hs4]; omega
 have b0:aK (BA (cR v k p)) 0=66:=by unfold aK; rw [iM,e]; rfl
 have b1:aK (BA (cR v k p)) 1=75:=by unfold aK; rw [iM,e]; rfl
 have b2:aK (BA (cR v k p)) 2=v:=by unfold aK; rw [iM,e]; exact ev
 have b3:aK (BA (cR v k p)) 3=k:=by unfold aK; rw [iM,e]; exact ek
 have hd:kR (BA (cR v k p))=0:=by
  unfold kR
  rw [b0,b1,b2,b3,fY,hL]
  rw [if_neg (by omega),if_neg (by omega),if_neg (by omega),if_neg (by omega),if_neg (by omega)]
 have hr:rdNum ((BA (cR v k p)).extract 4 (BA (cR v k p)).size)=(p.length,(aO p.length).length,0):=by
  rw [vP,e]
  exact qz p.length (by omega) (p ++ mJ (mK v k p))
 have h1:(BA (cR v k p)).extract (4+(aO p.length).length+p.length) (8+(aO p.length).length+p.length)=BA (mJ (mK v k p)):=by
  have:=Cg (mK v k p) (mJ (mK v k p)) []
  rw [hB,hs4,List.append_nil] at this
  rw [show 8+(aO p.length).length+p.length=4+(aO p.length).length+p.length+4 by omega]
  exact this
 have h2:(BA (cR v k p)).extract 0 (4+(aO p.length).length+p.length)=BA (mK v k p):=by
  rw [Jv _ _ (by omega),← hB]
  unfold cR
  rw [List.take_left]
 have h3:(BA (cR v k p)).extract (4+(aO p.length).length) (4+(aO p.length).length+p.length)=BA p:=by
  have:=Cg ([66,75,UInt8.ofNat v,UInt8.ofNat k] ++ aO p.length) p (mJ (mK v k p))
  rw [show ([66,75,UInt8.ofNat v,UInt8.ofNat k] ++ aO p.length).length=4+(aO p.length).length by simp; omega] at this
  rw [e]
  exact this
 rw [Af hd hr (by omega) (by rw [fY,hL]; omega) (by rw [h1,h2,iM,iM]),b2,b3,h3,hL]
theorem Ch:fM ⟨#[]⟩=(.zero,0,3):=rfl
theorem Dc (v k:Nat) (p:List UInt8) (hv:1≤v∧v≤3) (hk:1≤k∧k≤4) (hp:p.length≤6000):Frs (BA (cR v k p)) [⟨v,k,BA p⟩] (cR v k p).length 3:=by
 have h:=Frs.step (GI v k p hv hk hp) (by simp [cR,mK]) (Nat.le_of_eq (fY _).symm) (fs:=[]) (m:=0) (e:=3) (by
  rw [vP,List.drop_of_length_le (Nat.le_refl _)]
  exact Frs.stop Ch (by decide))
 simpa using h
end Go.Proofs.YtbllgmociapjeaaGreatDoor
/- How many rows a state that may be has. -/
namespace Go.Proofs.YtbllgmociapjeaaGreatDoor
open Go.Lib (hid)
open Go.RowKit
theorem vQ {st:ah} (h:aE st=0):st.jobs.length≤40∧st.nodes.length≤20∧st.leases.length≤40:=by
 have hz:eC st=true:=by
  cases hr:ranged st.rev 0 1099511627776 with
  | false=>rw [Ci hr] at h; exact absurd h (by decide)
  | true=>
   cases hs:eC st with
   | true=>rfl
   | false=>rw [ow hr hs] at h; exact absurd h (by decide)
 unfold eC at hz
 simp at hz
 omega
end Go.Proofs.YtbllgmociapjeaaGreatDoor
/- The walks of delta.Diff and of the reference's Diff. -/
namespace Go.Proofs.YtbllgmociapjeaaGreatDoor
open Go.Lib (hid)
open Go.RowKit
theorem vR {α:Type} {a b:List α} {x:α} (h:x ∈ newL a b):x ∈ b:=(List.mem_filter.1 h).1
theorem sQ {α:Type} {key:α→ByteArray} {a b:List α} {s:ByteArray} (h:s ∈ bX key a b):∃ x ∈ a,key x=s:=by
 obtain⟨x,hx,e⟩:=List.mem_map.1 h
 exact⟨x,(List.mem_filter.1 hx).1,e⟩
theorem xu {w w':World} {B B':Nat} {a b:ah} {x y:StA} (hA:StAt w B a x) (hB:StAt w' B' b y) (ha:aE a=0) (hb:aE b=0):C7 (eW a b):=by
 obtain⟨a1,a2,a3⟩:=vQ ha
 obtain⟨b1,b2,b3⟩:=vQ hb
 exact⟨Nat.le_trans (vS _ _) b1,Nat.le_trans (vS _ _) b2,Nat.le_trans (vS _ _) b3,Nat.le_trans (sR _ _ _) a1,Nat.le_trans (sR _ _ _) a2,Nat.le_trans (sR _ _ _) a3,
  fun r hr=>hB.oj r (vR hr),fun r hr=>hB.on_ r (vR hr),fun r hr=>hB.ol r (vR hr),
  fun s hs=>(by obtain⟨r,hr,rfl⟩:=sQ hs; exact (hA.oj r hr).1),fun s hs=>(by obtain⟨r,hr,rfl⟩:=sQ hs; exact (hA.on_ r hr).1),fun s hs=>(by obtain⟨r,hr,rfl⟩:=sQ hs; exact (hA.ol r hr).1)⟩
theorem mU (w:World) (ca cb cc:Array Value) {ta tb tc:TypeId}:Blk (((w.alloc (.cells ca ta)).alloc (.cells cb tb)).alloc (.cells cc tc)) w.heap.size ta ca∧Blk (((w.alloc (.cells ca ta)).alloc (.cells cb tb)).alloc (.cells cc tc)) (w.heap.size+1) tb cb ∧
 Blk (((w.alloc (.cells ca ta)).alloc (.cells cb tb)).alloc (.cells cc tc)) (w.heap.size+2) tc cc∧Below w.heap.size w (((w.alloc (.cells ca ta)).alloc (.cells cb tb)).alloc (.cells cc tc)):=by
 have h1:Blk (w.alloc (.cells ca ta)) w.heap.size ta ca:=heap_alloc_new w _
 have h2:=heap_alloc_new (w.alloc (.cells ca ta)) (.cells cb tb)
 rw [show (w.alloc (.cells ca ta)).heap.size=w.heap.size+1 by simp] at h2
 have h3:=heap_alloc_new ((w.alloc (.cells ca ta)).alloc (.cells cb tb)) (.cells cc tc)
 rw [show ((w.alloc (.cells ca ta)).alloc (.cells cb tb)).heap.size=w.heap.size+2 by simp] at h3
 exact⟨(h1.alloc _).alloc _,(show Blk _ _ _ _ from h2).alloc _,h3,(((Below.refl _ _).alloc (Nat.le_refl _) _).alloc (by simp) _).alloc (by simp; omega) _⟩
theorem qK.low {w:World} {g g':Nat} {d:aW} {x:fP} (h:qK w g d x) (hg:g'<g):qK w g' d x:=by
 obtain⟨⟨b1,h1,o1⟩,⟨b2,h2,o2⟩,⟨b3,h3,o3⟩,⟨b4,h4,o4⟩,⟨b5,h5,o5⟩,⟨b6,h6,o6⟩,l1,l2,l3,l4,l5,l6⟩:=h
 exact⟨⟨b1,by omega,o1⟩,⟨b2,by omega,o2⟩,⟨b3,by omega,o3⟩,⟨b4,by omega,o4⟩,⟨b5,by omega,o5⟩,⟨b6,by omega,o6⟩,l1,l2,l3,l4,l5,l6⟩
end Go.Proofs.YtbllgmociapjeaaGreatDoor
/- What a reading of a request leaves. -/
namespace Go.Proofs.YtbllgmociapjeaaGreatDoor
open Go.Lib (hid)
open Go.RowKit
def eK (q:aF) (e:Int) (w:World) (x:Ending) (w':World):Prop:=x = .returned (.tuple #[bH q,.int .i64 e])∧Below w.heap.size w w'
end Go.Proofs.YtbllgmociapjeaaGreatDoor
/- The one request that the law's first look asks: plain. -/
namespace Go.Proofs.YtbllgmociapjeaaGreatDoor
open Go.Lib (hid)
def AG:aC:=⟨⟨#[97]⟩,0,0,0,⟨#[]⟩⟩
def l8:aF:=⟨1,AG,dw,cC,⟨#[]⟩,0⟩
def Jh:ah:=⟨1,[AG],[],[]⟩
theorem De:fB AG=0:=by decide +kernel
theorem AF:cu l8=0:=by
 have h1:ranged l8.kind 1 9=true:=by decide
 have h2:iK l8=l8:=rfl
 have h3:bR l8=0:=De
 unfold cu
 rw [if_neg (by rw [h1]; simp),if_neg (by simp [h2]),h3]
theorem Ji:aE iH=0:=by decide +kernel
theorem Jw:aE ⟨0,[AG],[],[]⟩=0:=by decide +kernel
theorem srvA:iN iH 0 (iI iH 0 l8)=⟨0,true,Jh,0⟩:=by
 have e:doR iH 0 l8=(0,⟨0,[AG],[],[]⟩,0):=by
  unfold doR
  rw [if_pos (show l8.kind=1 from rfl)]
  have:kH iH l8.job=⟨0,[AG],[],[]⟩:=rfl
  rw [this,Jw]
 unfold iI
 rw [if_pos AF,e]
 unfold iN
 rw [if_pos rfl,if_neg (by rintro⟨h,_⟩; cases h),if_neg (by decide)]
 rfl
def uj:List UInt8:=aO 1 ++ eG AG 3
def mS:List UInt8:=cR 3 3 uj
theorem frsA:Frs (BA mS) [⟨3,3,BA uj⟩] mS.length 3:=Dc 3 3 uj (by decide) (by decide) (by decide +kernel)
theorem DA:pJ 3 3 (BA uj)=(BA mS,0):=by
 unfold pJ
 rw [if_neg (by decide),if_neg (by decide +kernel)]
 rfl
end Go.Proofs.YtbllgmociapjeaaGreatDoor
/- The walk of the reference's rowsBytes. -/
namespace Go.Proofs.YtbllgmociapjeaaGreatDoor
open Go.Lib (hid)
open Go.RowKit
def GJ (jobs:List aC) (nodes:List aA) (leases:List ak) (v:Int):List UInt8:=fV (fun x=>eG x v) jobs ++ fV (fun x=>cN x v) nodes ++ fV dL leases
end Go.Proofs.YtbllgmociapjeaaGreatDoor
/- What a state that may be is. -/
namespace Go.Proofs.YtbllgmociapjeaaGreatDoor
open Go.Lib (hid)
structure SGood (st:ah):Prop where
 r0:0≤st.rev
 r1:st.rev≤1099511627776
 nj:st.jobs.length≤40
 nn:st.nodes.length≤20
 nl:st.leases.length≤40
 ej:bT fB aC.name st.jobs=0
 en:bT dO aA.name st.nodes=0
 el:bT (fC st) ak.job st.leases=0
theorem LM {st:ah} (h:aE st=0):SGood st:=by
 have hz:=vQ h
 have hr:ranged st.rev 0 1099511627776=true:=by
  cases hr:ranged st.rev 0 1099511627776 with
  | true=>rfl
  | false=>rw [Ci hr] at h; exact absurd h (by decide)
 have hs:eC st=true:=by
  cases hs:eC st with
  | true=>rfl
  | false=>rw [ow hr hs] at h; exact absurd h (by decide)
 have hj:bT fB aC.name st.jobs=0:=by
  by_cases hj:bT fB aC.name st.jobs=0
  · exact hj
  · rw [Dh hr hs hj] at h; exact absurd h hj
 have hn:bT dO aA.name st.nodes=0:=by
  by_cases hn:bT dO aA.name st.nodes=0
  · exact hn
  · rw [AO hr hs hj hn] at h; exact absurd h hn
 have hl:bT (fC st) ak.job st.leases=0:=by
  by_cases hl:bT (fC st) ak.job st.leases=0
  · exact hl
  · rw [Di hr hs hj hn,if_pos hl] at h; exact absurd h hl
 have:=aL.1 hr
 exact⟨this.1,this.2,hz.1,hz.2.1,hz.2.2,hj,hn,hl⟩
theorem SGood.job {st:ah} (h:SGood st) {x:aC} (hx:x ∈ st.jobs):x.name.size≤16∧x.tag.size≤16∧(-1000≤x.prio∧x.prio≤1000)∧(0≤x.need∧x.need≤1000000)∧(0≤x.tries∧x.tries≤100):=by
 obtain⟨h1,h2,h3⟩:=gI (dX h.ej hx)
 exact⟨bO h1,gy h2,h3⟩
theorem SGood.node {st:ah} (h:SGood st) {x:aA} (hx:x ∈ st.nodes):x.name.size≤16∧x.zone.size≤16∧(0≤x.room∧x.room≤1000000):=by
 obtain⟨h1,h2,h3⟩:=iY (dX h.en hx)
 exact⟨bO h1,gy h2,h3⟩
theorem SGood.lease {st:ah} (h:SGood st) {l:ak} (hl:l ∈ st.leases):l.job.size≤16∧l.node.size≤16∧(0≤l.till∧l.till≤1099511627776):=by
 have he:=dX h.el hl
 unfold fC at he
 split at he
 · rename_i h1
   split at he
   · rename_i h2
     have hr:=aL.1 h2
     simp only [Bool.and_eq_true] at h1
     obtain⟨j,hj⟩:=Option.isSome_iff_exists.1 h1.1
     obtain⟨n,hn⟩:=Option.isSome_iff_exists.1 h1.2
     have hjm:=List.mem_of_find?_eq_some hj
     have hnm:=List.mem_of_find?_eq_some hn
     have hje:j.name=l.job:=by simpa using List.find?_some hj
     have hne:n.name=l.node:=by simpa using List.find?_some hn
     have h3:=bO (gI (dX h.ej hjm)).1
     have h4:=bO (iY (dX h.en hnm)).1
     rw [hje] at h3
     rw [hne] at h4
     exact⟨h3,h4,hr⟩
   · exact absurd he (by decide)
 · exact absurd he (by decide)
end Go.Proofs.YtbllgmociapjeaaGreatDoor
/- What every law's frame uses: the program's fixed facts, and bounds out of well-formed integers. -/
namespace Go.Proofs.YtbllgmociapjeaaGreatDoor
open Go.Lib (hid)
theorem own:ownKnob Tryz.prog.godebug=none:=by kernel_rfl
theorem laidOut:laidOutB Tryz.prog = true:=by kernel_rfl
theorem eP {n:Int} (h:(Lit.int .i64 n).wf=true) : -9223372036854775808≤n∧n≤9223372036854775807:=by
 simp only [Lit.wf,IntKind.min,IntKind.max,IntKind.signed,IntKind.bits,Bool.and_eq_true,decide_eq_true_eq,if_true] at h
 omega
end Go.Proofs.YtbllgmociapjeaaGreatDoor
