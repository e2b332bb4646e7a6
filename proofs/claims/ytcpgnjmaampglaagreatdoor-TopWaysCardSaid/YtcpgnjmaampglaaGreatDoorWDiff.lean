/- Of the proof of a statement: SdE, Diff, PlBtw. -/
import Derived.Shelf.Abstract
import Derived.Test.YtcpgnjmaampglaaGreatDoorWPlSrv
import Derived.Test.YtcpgnjmaampglaaGreatDoorWSvOwn
set_option linter.unusedVariables false
set_option linter.unusedSimpArgs false
set_option maxRecDepth 100000
set_option maxHeartbeats 8000000
/- The end of a server's Do, in the program and in the reference: what has been made is stored. -/
namespace Go.Proofs.YtcpgnjmaampglaaGreatDoor
open Go.Lib (hid)
open Go.RowKit
open Go.Op (bytesLess)
abbrev zD:aK:=⟨0,0,[],[],[],[],[],[]⟩
abbrev zA:eW:=⟨none,0,0,none,0,0,none,0,0,none,0,0,none,0,0,none,0,0⟩
theorem vL {l:List ByteArray} {n:Nat} (h:l.length=n) (hn:0<n):∃ s,(au mN l)[0]? = some (.string s):=by
 match l,h with
 | [],h=>simp at h; omega
 | a :: l,_=>exact⟨a,rfl⟩
theorem yc (d:aK) (x:eW):jF (dC d x):=mO (by
 intro v hv s
 simp only [dC,List.mem_toArray,List.mem_cons,List.not_mem_nil,or_false] at hv
 rcases hv with rfl | rfl | rfl | rfl | rfl | rfl | rfl | rfl <;> simp)
theorem dM.jk {w w':World} {B g:Nat} {t:TypeId} {cs:Array Value} {d:aK} {x:eW} (h:dM w B d x) (hb:Blk w g t cs) (hc:jF cs) (hg:w.grownBy w' (some g)):dM w' B d x:=
 ⟨h.j.jk hb hc (vM h.lj) hg,h.n.jk hb hc (sN h.ln) hg,h.l.jk hb hc (qJ h.ll) hg,h.gj.jk hb hc (vL h.lgj) hg,h.gn.jk hb hc (vL h.lgn) hg,h.gl.jk hb hc (vL h.lgl) hg,
  h.lj,h.ln,h.ll,h.lgj,h.lgn,h.lgl,h.bj,h.bn,h.bl,h.bgj,h.bgn,h.bgl,h.oj,h.on_,h.ol,h.ogj,h.ogn,h.ogl⟩
theorem dM.drew {w:World} {B:Nat} {d:aK} {x:eW} (h:dM w B d x):dM w.drew B d x:=
 ⟨h.j.drew,h.n.drew,h.l.drew,h.gj.drew,h.gn.drew,h.gl.drew,h.lj,h.ln,h.ll,h.lgj,h.lgn,h.lgl,h.bj,h.bn,h.bl,h.bgj,h.bgn,h.bgl,h.oj,h.on_,h.ol,h.ogj,h.ogn,h.ogl⟩
theorem dM.upS {w w':World} {d:aK} {x:eW} (h:dM w w.heap.size d x) (hb:Below w.heap.size w w'):dM w' w'.heap.size d x:=(h.below hb).more hb.size
theorem Bl {w0 a b:World} {V g:Nat} (h:w0.grownBy a (some V)) (hg:a.grownBy b (some g)) (hn:w0.heap.size≤g):w0.grownBy b (some V):=
 ⟨hg.os.trans h.os,hg.tape.trans h.tape,hg.output.trans h.output,Nat.le_trans h.size hg.size,fun k hk hne=>(hg.block k (Nat.lt_of_lt_of_le hk h.size) (by simp; omega)).trans (h.block k hk hne)⟩
theorem grown_of {w0 a:World} (V:Nat) (h:Below w0.heap.size w0 a):w0.grownBy a (some V):=
 ⟨h.os,h.tape,h.output,h.size,fun k hk _=>h.block k hk⟩
structure SdE (T:TypeId) (w0:World) (V DD:Nat) (st1:ah) (x1:StA) (AW:Int) (D:aK) (dx:eW) (rc dc:Array Value) (w:World):Prop where
 v:Blk w V T (AQ st1 x1 AW)
 at_:StAt w w.heap.size st1 x1
 del:dM w w.heap.size D dx
 db:Blk w DD 48 (dC D dx)
 r:Blk w (w0.heap.size+1) 224 rc
 d:Blk w (w0.heap.size+2) 48 dc
 gr:w0.grownBy w (some V)
 lt:V<w0.heap.size
 dd:w0.heap.size+3≤DD
section
variable {T:TypeId} {w0 w w':World} {V DD:Nat} {st1:ah} {x1:StA} {AW:Int} {D:aK} {dx:eW} {rc dc rc' dc':Array Value}
theorem SdE.drew (h:SdE T w0 V DD st1 x1 AW D dx rc dc w):SdE T w0 V DD st1 x1 AW D dx rc dc w.drew:=
 ⟨h.v,h.at_.drew,h.del.drew,h.db,h.r,h.d,⟨h.gr.os,h.gr.tape,h.gr.output,h.gr.size,h.gr.block⟩,h.lt,h.dd⟩
theorem SdE.PA (h:SdE T w0 V DD st1 x1 AW D dx rc dc w) (hn:jF rc) (hg:w.grownBy w' (some (w0.heap.size+1))) (hb:Blk w' (w0.heap.size+1) 224 rc'):SdE T w0 V DD st1 x1 AW D dx rc' dc w':=by
 have h1:=h.lt
 have h2:=h.dd
 exact⟨aA hg h.v (by omega),(h.at_.jk h.r hn hg).more hg.size,(h.del.jk h.r hn hg).more hg.size,aA hg h.db (by omega),hb,aA hg h.d (by omega),Bl h.gr hg (by omega),h.lt,h.dd⟩
theorem SdE.PB (h:SdE T w0 V DD st1 x1 AW D dx rc dc w) (hn:jF dc) (hg:w.grownBy w' (some (w0.heap.size+2))) (hb:Blk w' (w0.heap.size+2) 48 dc'):SdE T w0 V DD st1 x1 AW D dx rc dc' w':=by
 have h1:=h.lt
 have h2:=h.dd
 exact⟨aA hg h.v (by omega),(h.at_.jk h.d hn hg).more hg.size,(h.del.jk h.d hn hg).more hg.size,aA hg h.db (by omega),aA hg h.r (by omega),hb,Bl h.gr hg (by omega),h.lt,h.dd⟩
theorem SdE.end_ (h:SdE T w0 V DD st1 x1 AW D dx rc dc w) {st:ah} {R:DE} (h1:R.st=st1) (h2:R.now=AW) (h3:D=if R.ch=true then cF st R.st else zD):Ct T V st R w0 (.returned (.tuple #[.agg #[.int .i64 R.e,.int .i64 R.st.rev],.agg (dC D dx),.bool R.ch])) w:=
 ⟨D,dx,x1,rfl,h3,h.del,by rw [h1,h2]; exact h.v,by rw [h1]; exact h.at_,h.gr⟩
end
theorem pM {st:ah} (h:ay st=0):nP st.jobs∧kX st.nodes∧ji st.leases:=by
 obtain⟨_,_,h3,h4,h5,_⟩:=cP.1 h
 refine⟨fun j hj=>?_,fun n hn=>?_,fun l hl=>?_⟩
 · have hz:=fQ (cI h3 hj)
   have:=cU hz.1
   have:=iI hz.2.1
   omega
 · have hz:=iJ (cI h4 hn)
   have:=cU hz.1
   have:=iI hz.2.1
   omega
 · have hz:=cI h5 hl
   unfold eN at hz
   split at hz
   · rename_i hb
     simp only [Bool.and_eq_true] at hb
     obtain⟨j,hj⟩:=Option.isSome_iff_exists.1 hb.1
     obtain⟨n,hn⟩:=Option.isSome_iff_exists.1 hb.2
     have ej:j.name=l.job:=by simpa using List.find?_some hj
     have en:n.name=l.node:=by simpa using List.find?_some hn
     have hj2:=cU (fQ (cI h3 (List.mem_of_find?_eq_some hj))).1
     have hn2:=cU (iJ (cI h4 (List.mem_of_find?_eq_some hn))).1
     rw [ej] at hj2
     rw [en] at hn2
     omega
   · omega
def rcP (E rev:Int):Nat→Array Value
 | 0=>#[.int .i64 0,.int .i64 0]
 | _=>#[.int .i64 E,.int .i64 rev]
def dcP (D:aK) (dx:eW):Nat→Array Value
 | 0=>#[.int .i64 0,.int .i64 0,.slice none 0 0,.slice none 0 0,.slice none 0 0,.slice none 0 0,.slice none 0 0,.slice none 0 0]
 | 1=>#[.int .i64 0,.int .i64 0,.slice none 0 0,.slice none 0 0,.slice none 0 0,.slice none 0 0,.slice none 0 0,.slice none 0 0]
 | _=>dC D dx
def sdeV (V:Nat) (st1:ah) (E:Int) (D:aK) (dx:eW) (ch:Bool):Nat→Value→Prop
 | 0,u=>u = .int .i64 E
 | 1,u=>u = .pointer (some ⟨V,0,none⟩)
 | 2,u=>u = .pointer (some ⟨V,0,none⟩)
 | 3,u=>u = .pointer (some ⟨V,0,none⟩)
 | 4,u=>u = .pointer (some ⟨V,0,none⟩)
 | 5,u=>u = .int .i64 st1.rev
 | 6,u=>u = .agg #[.int .i64 E,.int .i64 st1.rev]
 | 7,u=>u = .agg #[.int .i64 D.from_,.int .i64 D.to_,.slice dx.aj dx.nj dx.cj,.slice dx.an dx.nn dx.cn,.slice dx.al dx.nl dx.cl,.slice dx.agj dx.ngj dx.cgj,.slice dx.agn dx.ngn dx.cgn,.slice dx.agl dx.ngl dx.cgl]
 | 8,u=>u = .bool ch
 | 11,u=>u = .bool ch
 | _,_=>True
def vN (a b:ah) (w:World) (e:Ending) (w':World):Prop:=
 ∃ (d:aK) (x:eW) (E:Int),e = .returned (.tuple #[.agg (dC d x),.int .i64 E])∧qc a b=(d,E)∧dM w' w'.heap.size d x∧Below w.heap.size w w'
theorem vN.none_ {a b:ah} {E:Int} {w w':World} (h:qc a b=(nO,E)) (hb:Below w.heap.size w w'):vN a b w (.returned (.tuple #[.agg nQ,.int .i64 E])) w':=⟨nO,OW,E,rfl,h,Ky _ _,hb⟩
theorem yQ {α:Type} {a b:List α} {x:α} (h:x ∈ newL a b):x ∈ b:=(List.mem_filter.1 h).1
theorem vO {α:Type} {key:α→ByteArray} {a b:List α} {s:ByteArray} (h:s ∈ bH key a b):∃ x ∈ a,key x=s:=by
 obtain⟨x,hx,e⟩:=List.mem_map.1 h
 exact⟨x,(List.mem_filter.1 hx).1,e⟩
theorem rZ {w w':World} {B B':Nat} {a b:ah} {x y:StA} (hA:StAt w B a x) (hB:StAt w' B' b y) (ha:ay a=0) (hb:ay b=0):Ia (cF a b):=by
 obtain⟨a1,a2,a3⟩:=qK ha
 obtain⟨b1,b2,b3⟩:=qK hb
 exact⟨Nat.le_trans (oN _ _) b1,Nat.le_trans (oN _ _) b2,Nat.le_trans (oN _ _) b3,Nat.le_trans (mH _ _ _) a1,Nat.le_trans (mH _ _ _) a2,Nat.le_trans (mH _ _ _) a3,
  fun r hr=>hB.oj r (yQ hr),fun r hr=>hB.on_ r (yQ hr),fun r hr=>hB.ol r (yQ hr),
  fun s hs=>(by obtain⟨r,hr,rfl⟩:=vO hs; exact (hA.oj r hr).1),fun s hs=>(by obtain⟨r,hr,rfl⟩:=vO hs; exact (hA.on_ r hr).1),fun s hs=>(by obtain⟨r,hr,rfl⟩:=vO hs; exact (hA.ol r hr).1)⟩
structure KQ (w0 w:World) (ca cb:Array Value):Prop where
 below:Below w0.heap.size w0 w
 a:Blk w w0.heap.size 26 ca
 b:Blk w (w0.heap.size+1) 26 cb
 r:Blk w (w0.heap.size+2) 48 nQ
theorem KQ.kept {w0 w w':World} {ca cb:Array Value} (h:KQ w0 w ca cb) (hb:Below w.heap.size w w'):KQ w0 w' ca cb:=
 ⟨h.below.trans (hb.mono h.below.size),h.a.below hb h.a.lt,h.b.below hb h.b.lt,h.r.below hb h.r.lt⟩
theorem I2 (w:World) (ca cb cc:Array Value) {ta tb tc:TypeId}:Blk (((w.alloc (.cells ca ta)).alloc (.cells cb tb)).alloc (.cells cc tc)) w.heap.size ta ca∧Blk (((w.alloc (.cells ca ta)).alloc (.cells cb tb)).alloc (.cells cc tc)) (w.heap.size+1) tb cb ∧
 Blk (((w.alloc (.cells ca ta)).alloc (.cells cb tb)).alloc (.cells cc tc)) (w.heap.size+2) tc cc∧Below w.heap.size w (((w.alloc (.cells ca ta)).alloc (.cells cb tb)).alloc (.cells cc tc)):=by
 have h1:Blk (w.alloc (.cells ca ta)) w.heap.size ta ca:=heap_alloc_new w _
 have h2:=heap_alloc_new (w.alloc (.cells ca ta)) (.cells cb tb)
 rw [show (w.alloc (.cells ca ta)).heap.size=w.heap.size+1 by simp] at h2
 have h3:=heap_alloc_new ((w.alloc (.cells ca ta)).alloc (.cells cb tb)) (.cells cc tc)
 rw [show ((w.alloc (.cells ca ta)).alloc (.cells cb tb)).heap.size=w.heap.size+2 by simp] at h3
 exact⟨(h1.alloc _).alloc _,(show Blk _ _ _ _ from h2).alloc _,h3,(((Below.refl _ _).alloc (Nat.le_refl _) _).alloc (by simp) _).alloc (by simp; omega) _⟩
theorem rW.low {w:World} {g g':Nat} {d:aK} {x:eW} (h:rW w g d x) (hg:g'<g):rW w g' d x:=by
 obtain⟨⟨b1,h1,o1⟩,⟨b2,h2,o2⟩,⟨b3,h3,o3⟩,⟨b4,h4,o4⟩,⟨b5,h5,o5⟩,⟨b6,h6,o6⟩,l1,l2,l3,l4,l5,l6⟩:=h
 exact⟨⟨b1,by omega,o1⟩,⟨b2,by omega,o2⟩,⟨b3,by omega,o3⟩,⟨b4,by omega,o4⟩,⟨b5,by omega,o5⟩,⟨b6,by omega,o6⟩,l1,l2,l3,l4,l5,l6⟩
theorem I3 (a b:ah) (x y:StA) (w:World) (hA:StAt w w.heap.size a x) (hB:StAt w w.heap.size b y) (hT:Tabs w) :
 Calls Tryz.prog 14 #[.agg (stC a x),.agg (stC b y)] w (vN a b w):=by
 obtain⟨ra,ja,na,la⟩:=a
 obtain⟨aj,nj,cj,an,nn,cn,al,nl,cl⟩:=x
 obtain⟨rb,jb,nb,lb⟩:=b
 obtain⟨bj,mj,dj,bn,mn,dn,bl,ml,dl⟩:=y
 have xO:=hid (fun E (h:qc ⟨ra,ja,na,la⟩ ⟨rb,jb,nb,lb⟩=(nO,E)) w'=>vN.none_ (w:=w) (w':=w') h)
 have HA:=hid hA
 have HB:=hid hB
 unfold stC
 dsimp only
 obtain⟨q1,q2,q3,q4,q5⟩:=Dm w #[.int .i64 ra,.slice aj nj cj,.slice an nn cn,.slice al nl cl] #[.int .i64 rb,.slice bj mj dj,.slice bn mn dn,.slice bl ml dl] nQ #[.int .i64 ra,.slice aj nj cj,.slice an nn cn,.slice al nl cl,.int .i64 rb,.slice bj mj dj,.slice bn mn dn,.slice bl ml dl] (ta:=26) (tb:=26) (tc:=48) (td:=26)
 have H0:=hid (show KQ w ((((w.alloc (.cells #[.int .i64 ra,.slice aj nj cj,.slice an nn cn,.slice al nl cl] 26)).alloc (.cells #[.int .i64 rb,.slice bj mj dj,.slice bn mn dn,.slice bl ml dl] 26)).alloc (.cells nQ 48)).alloc (.cells #[.int .i64 ra,.slice aj nj cj,.slice an nn cn,.slice al nl cl,.int .i64 rb,.slice bj mj dj,.slice bn mn dn,.slice bl ml dl] 26)) #[.int .i64 ra,.slice aj nj cj,.slice an nn cn,.slice al nl cl] #[.int .i64 rb,.slice bj mj dj,.slice bn mn dn,.slice bl ml dl] from ⟨q5,q1,q2,q3⟩)
 have HL0:=hid q4
 have HT:=hid hT
 clear q1 q2 q3 q4 q5 hA hB hT
 go_enter Tryz.func14,Tryz.ntmps14
 go_wp2
 go_loopw [13] (fun i wr=>∃ k:Nat,k≤2∧i = .int .i64 k∧KQ w wr #[.int .i64 ra,.slice aj nj cj,.slice an nn cn,.slice al nl cl] #[.int .i64 rb,.slice bj mj dj,.slice bn mn dn,.slice bl ml dl]∧Blk wr (w.heap.size+3) 26 #[.int .i64 ra,.slice aj nj cj,.slice an nn cn,.slice al nl cl,.int .i64 rb,.slice bj mj dj,.slice bn mn dn,.slice bl ml dl]∧(0<k→ay ⟨ra,ja,na,la⟩=0)∧(1<k→ay ⟨rb,jb,nb,lb⟩=0)) (fun i _=>2 - (intOf i).toNat)
 case atStart=>exact⟨0,by omega,rfl,H0.out,HL0.out,fun h=>absurd h (by omega),fun h=>absurd h (by omega)⟩
 case round=>
  clear H0 HL0
  obtain⟨k,hk,rfl,hat,hL,hca,hcb⟩:=hrel
  have HAt:=hid hat
  have HL:=hid hL
  have hll:=hL.lt
  have hl0:=hat.a.lt
  have hl1:=hat.b.lt
  rcases (show k=0∨k=1∨k=2 by omega) with rfl | rfl | rfl
  · have hX:Below wr.heap.size wr (wr.alloc (.cells #[.int .i64 ra,.slice aj nj cj,.slice an nn cn,.slice al nl cl] 26)):=(Below.refl _ _).alloc (Nat.le_refl _) _
    have hC:=fq ⟨ra,ja,na,la⟩ ⟨aj,nj,cj,an,nn,cn,al,nl,cl⟩ (wr.alloc (.cells #[.int .i64 ra,.slice aj nj cj,.slice an nn cn,.slice al nl cl] 26)) (HA.out.upE (hat.kept hX).below) (HT.out.below (hat.kept hX).below)
    obtain⟨E,hE⟩:∃ E,ay ⟨ra,ja,na,la⟩=E:=⟨_,rfl⟩
    rw [hE] at hC
    unfold stC at hC
    dsimp only at hC
    have HC:=hid hC
    have HE:=hid hE
    have HX2:=hid (hat.kept hX)
    have HLX:=hid (hL.below hX hL.lt)
    obtain⟨g0,g1,g2,g3⟩:=Blk.c4 (hL)
    clear hC hE hat hL hX hca hcb HAt HL
    go_wp2_with fail
    refine Calls.mono HC.out ?_
    rintro e w3 ⟨rfl,hb3⟩
    have H3:=hid (HX2.out.kept hb3)
    have HL3:=hid (HLX.out.below hb3 HLX.out.lt)
    clear hb3 HC HX2 HLX g0 g1 g2 g3
    by_cases h0:E=0
    rotate_left
    · have e2:(E != 0)=true:=bne_iff_ne.2 h0
      have hrr:=H3.out.r
      have hrl:=hrr.lt
      obtain⟨ur0,ur1,ur2,ur3,ur4,ur5,ur6,ur7⟩:=Blk.z8 (hrr)
      obtain⟨sr0,sr1,sr2,sr3,sr4,sr5,sr6,sr7⟩:=Blk.c8 (hrr)
      obtain⟨hR4,hG4⟩:=Blk.S8 (hrr) (.int .i64 0) (.int .i64 0) (.slice none 0 0) (.slice none 0 0) (.slice none 0 0) (.slice none 0 0) (.slice none 0 0) (.slice none 0 0)
      obtain⟨q0,q1,q2,q3,q4,q5,q6,q7⟩:=Blk.c8 hR4
      have cX:=hid (xO.out E (by rw [Ni (by rw [HE.out]; exact h0),HE.out]) _ (aJ H3.out.below hG4 (by omega)))
      clear hrr hR4 hG4
      go_wp2
      refine bodyPost_ret (v:=.tuple #[.agg #[.int .i64 0,.int .i64 0,.slice none 0 0,.slice none 0 0,.slice none 0 0,.slice none 0 0,.slice none 0 0,.slice none 0 0],.int .i64 E]) (by simp [results,Tryz.results14,go_sem, *]) rfl ?_
      exact cX.out
    · subst h0
      go_wp2
      go_roundw
      case rel=>exact⟨1,by omega,by go_num,H3.out,HL3.out,fun _=>HE.out,fun h=>absurd h (by omega)⟩
      case measure=>simp [intOf]
  · have hX:Below wr.heap.size wr (wr.alloc (.cells #[.int .i64 rb,.slice bj mj dj,.slice bn mn dn,.slice bl ml dl] 26)):=(Below.refl _ _).alloc (Nat.le_refl _) _
    have hC:=fq ⟨rb,jb,nb,lb⟩ ⟨bj,mj,dj,bn,mn,dn,bl,ml,dl⟩ (wr.alloc (.cells #[.int .i64 rb,.slice bj mj dj,.slice bn mn dn,.slice bl ml dl] 26)) (HB.out.upE (hat.kept hX).below) (HT.out.below (hat.kept hX).below)
    obtain⟨E,hE⟩:∃ E,ay ⟨rb,jb,nb,lb⟩=E:=⟨_,rfl⟩
    rw [hE] at hC
    unfold stC at hC
    dsimp only at hC
    have HC:=hid hC
    have HE:=hid hE
    have HX2:=hid (hat.kept hX)
    have HLX:=hid (hL.below hX hL.lt)
    have Ha:=hid (hca (by omega))
    have g0:wr.cell? ⟨w.heap.size+3,4,none⟩=some (.int .i64 rb):=hL.cell 4
    have g1:wr.cell? ⟨w.heap.size+3,5,none⟩=some (.slice bj mj dj):=hL.cell 5
    have g2:wr.cell? ⟨w.heap.size+3,6,none⟩=some (.slice bn mn dn):=hL.cell 6
    have g3:wr.cell? ⟨w.heap.size+3,7,none⟩=some (.slice bl ml dl):=hL.cell 7
    clear hC hE hat hL hX hca hcb HAt HL
    go_wp2_with fail
    refine Calls.mono HC.out ?_
    rintro e w3 ⟨rfl,hb3⟩
    have H3:=hid (HX2.out.kept hb3)
    have HL3:=hid (HLX.out.below hb3 HLX.out.lt)
    clear hb3 HC HX2 HLX g0 g1 g2 g3
    by_cases h0:E=0
    rotate_left
    · have e2:(E != 0)=true:=bne_iff_ne.2 h0
      have hrr:=H3.out.r
      have hrl:=hrr.lt
      obtain⟨ur0,ur1,ur2,ur3,ur4,ur5,ur6,ur7⟩:=Blk.z8 (hrr)
      obtain⟨sr0,sr1,sr2,sr3,sr4,sr5,sr6,sr7⟩:=Blk.c8 (hrr)
      obtain⟨hR4,hG4⟩:=Blk.S8 (hrr) (.int .i64 0) (.int .i64 0) (.slice none 0 0) (.slice none 0 0) (.slice none 0 0) (.slice none 0 0) (.slice none 0 0) (.slice none 0 0)
      obtain⟨q0,q1,q2,q3,q4,q5,q6,q7⟩:=Blk.c8 hR4
      have cX:=hid (xO.out E (by rw [Nk Ha.out (by rw [HE.out]; exact h0),HE.out]) _ (aJ H3.out.below hG4 (by omega)))
      clear hrr hR4 hG4
      go_wp2
      refine bodyPost_ret (v:=.tuple #[.agg #[.int .i64 0,.int .i64 0,.slice none 0 0,.slice none 0 0,.slice none 0 0,.slice none 0 0,.slice none 0 0,.slice none 0 0],.int .i64 E]) (by simp [results,Tryz.results14,go_sem, *]) rfl ?_
      exact cX.out
    · subst h0
      go_wp2
      go_roundw
      case rel=>exact⟨2,by omega,by go_num,H3.out,HL3.out,fun _=>Ha.out,fun _=>HE.out⟩
      case measure=>simp [intOf]
  · have HEa:=hid (hca (by omega))
    have HEb:=hid (hcb (by omega))
    have v0:wr.cell? ⟨w.heap.size,0,none⟩=some (.int .i64 ra):=hat.a.cell 0
    have v1:wr.cell? ⟨w.heap.size+1,0,none⟩=some (.int .i64 rb):=hat.b.cell 0
    clear hca hcb hat hL
    by_cases hold:rb≤ra
    · have d1:decide (rb≤ra)=true:=decide_eq_true hold
      have hrr:=HAt.out.r
      have hrl:=hrr.lt
      obtain⟨ur0,ur1,ur2,ur3,ur4,ur5,ur6,ur7⟩:=Blk.z8 (hrr)
      obtain⟨sr0,sr1,sr2,sr3,sr4,sr5,sr6,sr7⟩:=Blk.c8 (hrr)
      obtain⟨hR4,hG4⟩:=Blk.S8 (hrr) (.int .i64 0) (.int .i64 0) (.slice none 0 0) (.slice none 0 0) (.slice none 0 0) (.slice none 0 0) (.slice none 0 0) (.slice none 0 0)
      obtain⟨q0,q1,q2,q3,q4,q5,q6,q7⟩:=Blk.c8 hR4
      have cX:=hid (xO.out 1 (I4 HEa.out HEb.out hold) _ (aJ HAt.out.below hG4 (by omega)))
      clear hrr hR4 hG4
      go_wp2
      refine bodyPost_ret (v:=.tuple #[.agg #[.int .i64 0,.int .i64 0,.slice none 0 0,.slice none 0 0,.slice none 0 0,.slice none 0 0,.slice none 0 0,.slice none 0 0],.int .i64 1]) (by simp [results,Tryz.results14,go_sem, *]) rfl ?_
      exact cX.out
    · have d1:decide (rb≤ra)=false:=decide_eq_false hold
      obtain⟨m0,m1,m2,m3⟩:=Blk.c4 (HAt.out.a)
      obtain⟨n0,n1,n2,n3⟩:=Blk.c4 (HAt.out.b)
      have hzA:=qK HEa.out
      have hzB:=qK HEb.out
      have k1:=HA.out.lj
      have k2:=HA.out.ln
      have k3:=HA.out.ll
      have k4:=HB.out.lj
      have k5:=HB.out.ln
      have k6:=HB.out.ll
      dsimp only at hzA hzB k1 k2 k3 k4 k5 k6
      have hBw:=wQ ⟨ra,ja,na,la⟩ ⟨rb,jb,nb,lb⟩ ⟨aj,nj,cj,an,nn,cn,al,nl,cl⟩ ⟨bj,mj,dj,bn,mn,dn,bl,ml,dl⟩ wr (HA.out.upE HAt.out.below) (HB.out.upE HAt.out.below) (by dsimp only; omega) (by dsimp only; omega) (by dsimp only; omega) (by dsimp only; omega) (by dsimp only; omega) (by dsimp only; omega)
      unfold stC at hBw
      dsimp only at hBw
      have HBw:=hid hBw
      clear hBw k1 k2 k3 k4 k5 k6 hzA hzB
      go_wp2_with fail
      refine Calls.mono HBw.out ?_
      rintro e w9 ⟨xd,rfl,hO,hb9⟩
      obtain⟨y0,p0,e0,y1,p1,e1,y2,p2,e2,y3,p3,e3,y4,p4,e4,y5,p5,e5⟩:=xd
      rw [show dC (cF ⟨ra,ja,na,la⟩ ⟨rb,jb,nb,lb⟩) ⟨y0,p0,e0,y1,p1,e1,y2,p2,e2,y3,p3,e3,y4,p4,e4,y5,p5,e5⟩=#[.int .i64 ra,.int .i64 rb,.slice y0 p0 e0,.slice y1 p1 e1,.slice y2 p2 e2,.slice y3 p3 e3,.slice y4 p4 e4,.slice y5 p5 e5] from rfl]
      have hk:=HAt.out.kept hb9
      have hrr:=hk.r
      have hrl:=hrr.lt
      have hwr:=hb9.size
      have hw3:w.heap.size+2<(wr).heap.size:=HAt.out.r.lt
      obtain⟨ur0,ur1,ur2,ur3,ur4,ur5,ur6,ur7⟩:=Blk.z8 (hrr)
      obtain⟨sr0,sr1,sr2,sr3,sr4,sr5,sr6,sr7⟩:=Blk.c8 (hrr)
      obtain⟨hR4,hG4⟩:=Blk.S8 (hrr) (.int .i64 ra) (.int .i64 rb) (.slice y0 p0 e0) (.slice y1 p1 e1) (.slice y2 p2 e2) (.slice y3 p3 e3) (.slice y4 p4 e4) (.slice y5 p5 e5)
      obtain⟨q0,q1,q2,q3,q4,q5,q6,q7⟩:=Blk.c8 hR4
      have hO2:rW _ (w.heap.size+2) (cF ⟨ra,ja,na,la⟩ ⟨rb,jb,nb,lb⟩) ⟨y0,p0,e0,y1,p1,e1,y2,p2,e2,y3,p3,e3,y4,p4,e4,y5,p5,e5⟩:=hO.low hw3
      have hAt:=(hO2.grow hG4).at_ (rZ HA.out HB.out HEa.out HEb.out)
      have cX:=hid (show vN ⟨ra,ja,na,la⟩ ⟨rb,jb,nb,lb⟩ w (.returned (.tuple #[.agg #[.int .i64 ra,.int .i64 rb,.slice y0 p0 e0,.slice y1 p1 e1,.slice y2 p2 e2,.slice y3 p3 e3,.slice y4 p4 e4,.slice y5 p5 e5],.int .i64 0])) _ from ⟨cF ⟨ra,ja,na,la⟩ ⟨rb,jb,nb,lb⟩,⟨y0,p0,e0,y1,p1,e1,y2,p2,e2,y3,p3,e3,y4,p4,e4,y5,p5,e5⟩,0,rfl,DF HEa.out HEb.out (by show ¬ (rb≤ra); omega),hAt,aJ hk.below hG4 (by omega)⟩)
      clear hrr hR4 hG4 hO hO2 hAt hk hb9 HBw v0 v1 HAt m0 n0 m1 n1 m2 n2 m3 n3
      go_wp2
      refine bodyPost_ret (v:=.tuple #[.agg #[.int .i64 ra,.int .i64 rb,.slice y0 p0 e0,.slice y1 p1 e1,.slice y2 p2 e2,.slice y3 p3 e3,.slice y4 p4 e4,.slice y5 p5 e5],.int .i64 0]) (by simp [results,Tryz.results14,go_sem, *]) rfl ?_
      exact cX.out
section
variable {α:Type} {key:α→ByteArray}
theorem tS {a b:List α} {z:α}:z ∈ newL a b↔z ∈ b∧z ∉ a:=by
 unfold newL
 rw [List.mem_filter]
 refine and_congr_right fun _=>?_
 rw [Bool.not_eq_true',← Bool.not_eq_true,List.any_eq_true]
 constructor
 · exact fun h hz=>h ⟨z,hz,by simp [eqB]⟩
 · rintro h ⟨x,hx,he⟩
   have:z=x:=by simpa [eqB] using he
   exact h (this ▸ hx)
theorem tT {a b:List α} {s:ByteArray}:s ∈ bH key a b↔∃ x ∈ a,key x=s∧∀ y ∈ b,key y≠s:=by
 unfold bH
 rw [List.mem_map]
 constructor
 · rintro⟨x,hx,rfl⟩
   obtain⟨h1,h2⟩:=List.mem_filter.1 hx
   refine⟨x,h1,rfl,fun y hy e=>?_⟩
   rw [Bool.not_eq_true',← Bool.not_eq_true,List.any_eq_true] at h2
   exact h2 ⟨y,hy,by simpa using e⟩
 · rintro⟨x,hx,rfl,h⟩
   refine⟨x,List.mem_filter.2 ⟨hx,?_⟩,rfl⟩
   rw [Bool.not_eq_true',← Bool.not_eq_true,List.any_eq_true]
   rintro⟨y,hy,e⟩
   exact h y hy (by simpa using e)
theorem nU {a b:List α} (ha:aT key a) (hb:aT key b):bR key a (newL a b) (bH key a b)=b:=by
 have hA:=cO ha
 have hB:=cO hb
 have hs:aT key (newL a b):=List.Pairwise.filter _ hb
 refine (Bj ha hs hb fun z=>?_).symm
 have uniq:∀ {l:List α},l.Pairwise (fun a b=>key a≠key b)→∀ {x y:α},x ∈ l→y ∈ l→key x=key y→x=y:=by
  intro l hl x y hx hy e
  have h1:=mG hl hx
  have h2:=mG hl hy
  rw [e,h2] at h1
  injection h1 with h1
  exact h1.symm
 constructor
 · intro hz
   unfold eA
   by_cases hza:z ∈ a
   · have hf:(newL a b).find? (fun x=>decide (key x=key z))=none:=by
      rw [List.find?_eq_none]
      intro x hx hk
      obtain⟨h1,h2⟩:=tS.1 hx
      exact h2 (uniq hB h1 hz (by simpa using hk) ▸ hza)
     rw [hf]
     dsimp only
     rw [if_neg]
     · exact mG hA hza
     · rw [List.any_eq_true]
       rintro⟨q,hq,e⟩
       obtain⟨x,_,_,h3⟩:=tT.1 hq
       exact h3 z hz (by simpa using Eq.symm (by simpa using e))
   · rw [mG (cO hs) (tS.2 ⟨hz,hza⟩)]
 · intro h
   unfold eA at h
   cases hf:(newL a b).find? (fun x=>decide (key x=key z)) with
   | some y=>
    rw [hf] at h
    injection h with h
    subst h
    exact (tS.1 (oF hf).2).1
   | none=>
    rw [hf] at h
    dsimp only at h
    split at h
    · cases h
    · rename_i hg
      obtain⟨_,hza⟩:=oF h
      rw [List.any_eq_true] at hg
      have hy:∃ y ∈ b,key y=key z:=Classical.byContradiction fun hn=>hg ⟨key z,tT.2 ⟨z,hza,rfl,fun y hy e=>hn ⟨y,hy,e⟩⟩,by simp⟩
      obtain⟨y,hyb,hyk⟩:=hy
      by_cases hya:y ∈ a
      · rw [← uniq hA hya hza hyk]; exact hyb
      · have:=List.find?_eq_none.1 hf y (tS.2 ⟨hyb,hya⟩)
        simp [hyk] at this
theorem xP {a b:List α}:aW key a (bH key a b)=false:=by
 unfold aW
 rw [← Bool.not_eq_true,List.any_eq_true]
 rintro⟨s,hs,h⟩
 obtain⟨x,hx,e,_⟩:=tT.1 hs
 rw [Bool.not_eq_true',← Bool.not_eq_true,List.any_eq_true] at h
 exact h ⟨x,hx,by simpa using e⟩
theorem Bn {has:ByteArray→Bool}:∀ (p:Option ByteArray) (l:List ByteArray),(∀ s ∈ l,cK s=true∧before p s=true∧has s=false)→l.Pairwise (fun a b=>bytesLess a.toList b.toList=true)→dI has p l=0
 | _,[],_,_=>rfl
 | p,s :: l,h,hs=>by
  obtain⟨h1,h2⟩:=List.pairwise_cons.1 hs
  obtain⟨a,b,c⟩:=h s List.mem_cons_self
  rw [dI,if_pos a,if_pos b,if_neg (by rw [c]; simp)]
  exact Bn (some s) l (fun y hy=>⟨(h y (List.mem_cons_of_mem _ hy)).1,h1 y hy,(h y (List.mem_cons_of_mem _ hy)).2.2⟩) h2
theorem pN {a b:List α} (ha:aT key a) (hn:∀ x ∈ a,cK (key x)=true):nE (fun s=>((newL a b).find? fun x=>decide (key x=s)).isSome) (bH key a b)=0:=by
 refine Bn none _ (fun s hs=>?_) ?_
 · obtain⟨x,hx,e,h3⟩:=tT.1 hs
   refine⟨e ▸ hn x hx,rfl,?_⟩
   rw [← Bool.not_eq_true,List.find?_isSome]
   rintro⟨y,hy,hk⟩
   exact h3 y (tS.1 hy).1 (by simpa using hk)
 · unfold bH
   rw [List.pairwise_map]
   exact List.Pairwise.filter _ ha
end
theorem wY {st:ah} (h:ay st=0) {l:ak} (hl:l ∈ st.leases):cK l.job=true∧cK l.node=true∧ranged l.till 0 1099511627776=true:=by
 obtain⟨_,_,h3,h4,h5,_⟩:=cP.1 h
 have he:=cI h5 hl
 unfold eN at he
 split at he
 · rename_i h1
   split at he
   · rename_i h2
     simp only [Bool.and_eq_true] at h1
     obtain⟨j,hj⟩:=Option.isSome_iff_exists.1 h1.1
     obtain⟨n,hn⟩:=Option.isSome_iff_exists.1 h1.2
     have hje:j.name=l.job:=by simpa using List.find?_some hj
     have hne:n.name=l.node:=by simpa using List.find?_some hn
     have a:=(fQ (cI h3 (List.mem_of_find?_eq_some hj))).1
     have b:=(iJ (cI h4 (List.mem_of_find?_eq_some hn))).1
     rw [hje] at a
     rw [hne] at b
     exact⟨a,b,h2⟩
   · cases he
 · cases he
theorem KR {st:ah} (h:ay st=0) {l:ak} (hl:l ∈ st.leases):lsE l=0:=by
 obtain⟨a,b,c⟩:=wY h hl
 unfold lsE
 rw [if_pos (by simp [a,b]),if_pos c]
theorem AX {a b:ah} (ha:ay a=0) (hb:ay b=0) (hr:a.rev<b.rev):cW (cF a b)=0:=by
 obtain⟨a1,a2,a3,a4,a5,_⟩:=cP.1 ha
 obtain⟨b1,b2,b3,b4,b5,_⟩:=cP.1 hb
 have r1:=aZ.1 a1
 have r2:=aZ.1 b1
 have t1:kI (cF a b)=true:=by
  unfold kI
  simp only [Bool.and_eq_true,decide_eq_true_eq,aZ]
  show ((0≤a.rev∧a.rev≤1099511627776)∧a.rev<b.rev)∧b.rev≤1099511627776
  omega
 have t2:jR (cF a b)=true:=by
  unfold dR at a2 b2
  unfold jR
  simp only [Bool.and_eq_true,decide_eq_true_eq] at a2 b2 ⊢
  have e1:=oN a.jobs b.jobs
  have e2:=oN a.nodes b.nodes
  have e3:=oN a.leases b.leases
  have e4:=mH aB.name a.jobs b.jobs
  have e5:=mH av.name a.nodes b.nodes
  have e6:=mH ak.job a.leases b.leases
  show (((((newL a.jobs b.jobs).length≤40∧(newL a.leases b.leases).length≤40)∧(bH aB.name a.jobs b.jobs).length≤40)∧(bH ak.job a.leases b.leases).length≤40)∧(newL a.nodes b.nodes).length≤20)∧(bH av.name a.nodes b.nodes).length≤20
  omega
 unfold cW
 rw [if_neg (by rw [t1]; simp),if_neg (by rw [t2]; simp)]
 unfold wV
 rw [gK,gK,gK,gK,gK,gK]
 · rfl
 · exact pN (key:=ak.job) (dh a5) (fun x hx=>(wY ha hx).1)
 · exact pN (key:=av.name) (dh a4) (fun x hx=>(iJ (cI a4 hx)).1)
 · exact pN (key:=aB.name) (dh a3) (fun x hx=>(fQ (cI a3 hx)).1)
 · exact oO (E:=eN b) b5 List.filter_sublist (fun x hx _=>KR hb (List.filter_sublist.subset hx))
 · exact oO (E:=eV) b4 List.filter_sublist (fun _ _ h=>h)
 · exact oO (E:=eZ) b3 List.filter_sublist (fun _ _ h=>h)
theorem AY {a b:ah} (ha:ay a=0) (hb:ay b=0) (hr:a.rev<b.rev):gN a (cF a b)=(b,0):=by
 obtain⟨a1,a2,a3,a4,a5,_⟩:=cP.1 ha
 obtain⟨b1,b2,b3,b4,b5,_⟩:=cP.1 hb
 have e:kJ a (cF a b)=b:=by
  unfold kJ cF
  simp only
  rw [nU (dh a3) (dh b3),nU (dh a4) (dh b4),nU (dh a5) (dh b5)]
 unfold gN
 rw [if_neg (by simp [ha]),if_neg (by simp [AX ha hb hr]),if_neg (by simp [cF]),if_neg,e,if_neg (by simp [hb])]
 unfold cF
 simp only [xP]
 decide
end Go.Proofs.YtcpgnjmaampglaaGreatDoor
