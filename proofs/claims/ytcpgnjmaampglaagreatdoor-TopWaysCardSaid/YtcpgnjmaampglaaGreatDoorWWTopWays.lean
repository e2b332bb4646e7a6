/- Of the proof of a statement: Works, Works1, RestF, WServeL, WTopWays. -/
import Derived.Lib.QuietBelow
import Derived.Deep.CutBlock
import Derived.Deep.DeepCutAuto
import Derived.Test.YtcpgnjmaampglaaGreatDoorWDApply
import Derived.Test.YtcpgnjmaampglaaGreatDoorWHubS
import Derived.Test.YtcpgnjmaampglaaGreatDoorWJpars
set_option linter.unusedVariables false
set_option linter.unusedSimpArgs false
set_option maxRecDepth 100000
set_option maxHeartbeats 8000000
/- The walk of the tops' works: does a job come to be there, by bytes? -/
namespace Go.Proofs.YtcpgnjmaampglaaGreatDoor
open Go.Lib (hid)
open Go.RowKit
theorem Kx (q:cJ) (w:World) (hq:q.kind=1) (hok:ROk q) (hT:Tabs w) (h0:kB q=0) (hl:(bg 1 ++ eC q.job 3).length≤6000) :
 Calls Tryz.prog 17 #[gY q] w (wP (BA (gB 3 3 (bg 1 ++ eC q.job 3))) true w):=
 G6 q _ w hT hl fun W hW=>Le q W hq hok hW h0
def zSA:StA:=⟨none,0,0,none,0,0,none,0,0⟩
theorem G9 (w:World) (B:Nat):StAt w B aY zSA:=
 ⟨aQ.nil,aQ.nil,aQ.nil,rfl,rfl,rfl,by decide,by decide,by decide,(fun _ h=>by cases h),(fun _ h=>by cases h),(fun _ h=>by cases h)⟩
theorem HU {g V:Nat} {fb:Nat→Nat} {wv:Nat→Value} {cs:Nat→cu} {st:ah} {x:StA} {now:Int} (w:World) (h:cC w g V fb wv cs st x now) :
 Calls Tryz.prog 19 #[.pointer (some ⟨g,0,none⟩)] w (rH st w):=by
 obtain⟨W,hW⟩:∃ W,w.alloc (.cells iT 26)=W:=⟨_,rfl⟩
 have hbW:Below w.heap.size w W:=by rw [← hW]; exact (Below.refl _ _).alloc (Nat.le_refl _) _
 have hR:Blk W w.heap.size 26 iT:=by rw [← hW]; exact heap_alloc_new w _
 have HS:=hid (wZ st x now V W (h.below hbW).srv)
 have c0:w.cell? ⟨g,0,none⟩=some (.pointer (some ⟨V,0,none⟩)):=by rw [h.blk.cell]; exact uZ
 have hlt:=h.blk.lt
 have HR:=hid hR
 have HbW:=hid hbW
 have HW:=hid hW
 clear h hR hbW hW
 go_enter Tryz.func19,Tryz.ntmps19
 go_wp2_with fail
 try rw [HW.out]
 clear HW
 refine Calls.mono HS.out ?_
 rintro e w2 ⟨y,rfl,hy,hb2⟩
 have hR2:=HR.out.below hb2 HR.out.lt
 have hB2:=HbW.out.trans (hb2.mono HbW.out.size)
 obtain⟨z0,z1,z2,z3⟩:=Blk.z4 (hR2)
 obtain⟨r0,r1,r2,r3⟩:=Blk.c4 (hR2)
 obtain⟨hR3,hG3⟩:=Blk.S4 (hR2) (.int .i64 st.rev) (.slice y.aj y.nj y.cj) (.slice y.an y.nn y.cn) (.slice y.al y.nl y.cl)
 obtain⟨y0,y1,y2,y3⟩:=Blk.c4 hR3
 have hlr:=hR2.lt
 have bJ:=hid (show rH st w (.returned (.agg (stC st y))) _ from ⟨y,rfl,(hy.jk hR2 (zm ⟨0,[],[],[]⟩ ⟨none,0,0,none,0,0,none,0,0⟩) hG3).more hG3.size,aJ hB2 hG3 (Nat.le_refl _)⟩)
 clear hy hb2 hR2 hB2 hR3 hG3 HS c0 hlt HR HbW
 unfold stC
 go_wp2
 refine bodyPost_ret (v:=.agg (stC st y)) (by simp [results,Tryz.results19,go_sem,stC, *]) rfl ?_
 exact bJ.out
def rqA (b:ByteArray):cJ × Int:=(jL,0)
def tlA (st:ah):List UInt8:=[]
theorem Rm:qQ tlA rqA (zC aY) 0 (BA pB) [⟨3,3,BA xT⟩] pB.length 3=ng tlA ⟨aY,0,upd (zC aY).cs 0 (ug ((zC aY).cs 0) (BA pB) pB.length 3)⟩ 0 jL:=by
 unfold qQ
 rw [if_neg (fun h=>h.1 rfl)]
 show eF tlA rqA 0 _ [⟨3,3,BA xT⟩]=_
 rw [eF,eF,if_neg (by simp [zC,upd,ug])]
 unfold je
 rw [if_neg (by simp),if_neg (by simp [rqA])]
 rfl
theorem M3:(qQ tlA rqA (zC aY) 0 (BA pB) [⟨3,3,BA xT⟩] pB.length 3).st=Oj∧0<((qQ tlA rqA (zC aY) 0 (BA pB) [⟨3,3,BA xT⟩] pB.length 3).cs 0).waits.length:=by
 rw [Rm]
 unfold ng
 dsimp only
 rw [srvA]
 dsimp only
 rw [if_pos rfl]
 refine⟨rfl,?_⟩
 show 0<((jI tlA Oj _ _ _ 8) 0).waits.length
 unfold jI
 rw [if_pos (by decide),cL]
 have ha:∀ c:cu,lW tlA jL ⟨0,true,Oj,0⟩ c=nY 0 1 c:=fun c=>by
  unfold lW
  rw [if_neg (by rintro⟨_,h | h⟩ <;> exact absurd h (by decide))]
  rfl
 rw [ha]
 unfold qh
 rw [if_pos (.inr rfl)]
 show 0<([] ++ gB 3 4 _).length
 have h2:=rJ 3 4 (jX 0 1).1.data.toList (by have:=nI 0 1; simp; omega)
 rw [List.nil_append]
 exact h2.1
theorem M4 (hdo:Lp jL aY 0) (w:World) (hT:Tabs w):Calls Tryz.prog 4 #[] w fun e w'=>e = .returned (.bool true)∧Below w.heap.size w w':=by
 have HN:=hid (show Calls Tryz.prog 16 #[.agg iT] w (uj aY w) from LA aY zSA w (G9 w _) hT)
 have HT:=hid hT
 have Hdo:=hid hdo
 clear hT hdo
 go_enter Tryz.func4,Tryz.ntmps4
 go_wp2_with fail
 refine Calls.mono HN.out ?_
 rintro e w1 ⟨hb1,⟨hbad,_⟩ | ⟨_,g,V,fb,x',rfl,hA,hlo⟩⟩
 · exact absurd Ok hbad
 have hok:ROk jL:=⟨by decide,by decide,by decide,by decide,by decide,by decide,by decide⟩
 have HB:=hid (show Calls Tryz.prog 17 #[.agg #[.int .i64 1,.string ⟨#[97]⟩,.int .i64 0,.int .i64 0,.int .i64 0,.string ⟨#[]⟩,.string ⟨#[]⟩,.int .i64 0,.string ⟨#[]⟩,.string ⟨#[]⟩,.string ⟨#[]⟩,.int .i64 0,.string ⟨#[]⟩,.int .i64 0]] w1 (wP (BA pB) true w1) from Kx jL w1 rfl hok (HT.out.below hb1) uK (by show xT.length≤6000; decide +kernel))
 have HA:=hid hA
 have HI:=hid (show nH w w1 g V fb (fun _=>.slice none 0 0) from ⟨hb1,HT.out,hlo⟩)
 clear hA hlo hb1 HN
 go_wp2_with fail
 refine Calls.mono HB.out ?_
 rintro e w2 ⟨rfl,hb2⟩
 have hA2:=HA.out.below hb2
 have hI2:=HI.out.more hb2
 have hrun:=Jn tlA rqA (H:=zC aY) (k:=0) (s:=BA pB) (fs:=[⟨3,3,BA xT⟩]) (m:=pB.length) (e:=3) w2 (BA pB) (by show (⟨#[]⟩:ByteArray) ++ BA pB=BA pB; exact ByteArray.ext (by rw [ByteArray.data_append]; simp)) frsA hA2 (by decide) hI2 rfl rfl (by rw [cT]; decide +kernel) (by decide)
  (fun f hf _ _ W hW=>by
   have e1:f=⟨3,3,BA xT⟩:=by simpa using hf
   subst e1
   exact LN EP W ID hW)
  (fun f _=>hok) (fun n f hf=>by
   have hn:n=0:=by have:=(List.getElem?_eq_some_iff.1 hf).1; simpa using this
   subst hn
   exact Hdo.out) (.inl ⟨fun _ _=>rfl,fun f _ h=>by
   rcases h with h | h
   · exact absurd (show (1:Int)=8 from h) (by decide)
   · exact absurd (show (1:Int)=9 from h) (by decide)⟩) (fun _=>Nat.zero_le _) (fun _ _=>Nat.zero_le _)
 obtain⟨SD,hSD⟩:∃ SD,qQ tlA rqA (zC aY) 0 (BA pB) [⟨3,3,BA xT⟩] pB.length 3=SD:=⟨_,rfl⟩
 have hst:=M3
 rw [hSD] at hrun hst
 obtain⟨FB,hFB⟩:∃ FB,BA pB=FB:=⟨_,rfl⟩
 rw [hFB] at hrun ⊢
 have HR:=hid (show Calls Tryz.prog 18 #[.pointer (some ⟨g,0,none⟩),.int .i64 0,.string FB] w2 (D4 g V fb (fun _=>.slice none 0 0) SD 0 w2) from hrun)
 have Hst:=hid hst
 have HI2:=hid hI2
 clear hA2 hI2 hrun hst hSD hFB hok hb2 HA HI HB
 go_wp2_with fail
 refine Calls.mono HR.out ?_
 rintro e w3 ⟨rfl,wv3,x3,hA3,t3⟩
 have HI3:=hid (HI2.out.to t3)
 have HSt:=hid (HU w3 hA3)
 obtain⟨s,hs⟩:∃ s,BA (SD.cs 0).waits=s:=⟨_,rfl⟩
 have hsz:s.size≠0:=by rw [← hs,cT]; have:=Hst.out.2; omega
 rw [hs]
 have b1:=tG hsz
 have b2:=uT hsz
 have b3:(!s.toList.isEmpty)=true:=by have:=tG hsz; revert this; cases s.toList <;> simp
 have hlg:=hA3.blk.lt
 clear hA3 t3 hs hsz HR
 go_wp2_with fail
 refine Calls.mono HSt.out ?_
 rintro e w4 ⟨y,rfl,hy,hb4⟩
 have hnj:y.nj=1:=by have:=hy.lj; rw [Hst.out.1] at this; exact this.symm
 have Hb4:=hid (HI3.out.base.trans (hb4.mono HI3.out.base.size))
 have Hnj:=hid hnj
 clear hy hb4 HSt hnj
 unfold stC
 rw [Hnj.out]
 have hf:∀ W,(Instr.field 26 (.agg #[.int .i64 SD.st.rev,.slice y.aj 1 y.cj,.slice y.an y.nn y.cn,.slice y.al y.nl y.cl]) 1).run Tryz.prog W = .ok (.slice y.aj 1 y.cj) W:=fun _=>by kernel_rfl
 go_wp2
 go_ret
 exact⟨rfl,Hb4.out⟩
theorem Qv:ROk jL:=⟨by decide,by decide,by decide,by decide,by decide,by decide,by decide⟩
theorem H7:Lp jL aY 0:=fun x V w h hT=>by
 have h0:(doR aY 0 jL).1=0:=by rw [doA]
 have hr:¬ uI aY (doR aY 0 jL).2.1:=by
  rw [doA]
  rintro⟨h,_⟩
  cases h
 have h3:¬ 1099511627776<aY.rev+1:=by decide
 rw [Mx uK h0 hr h3]
 exact My jL aY x 0 V w h (FK rfl Qv) (PM rfl ⟨by decide,by decide⟩) hT uK h0 hr h3
theorem OR (w:World) (hT:Tabs w):Calls Tryz.prog 4 #[] w fun e w'=>e = .returned (.bool true)∧Below w.heap.size w w':=M4 H7 w hT
theorem M5 (n m:Int) (w:World) (hm:0<m∧m≤9223372036854775807) :
 Calls Tryz.prog 9 #[.int .i64 n,.int .i64 m] w fun e w'=>(∃ r:Nat,e = .returned (.int .i64 (r:Int))∧(r:Int)<m)∧Below w.heap.size w w':=by
 have h0:¬ m=0:=by omega
 go_enter Tryz.func9,Tryz.ntmps9
 have h1:=Int.tmod_lt_of_pos n hm.1
 have h2:=Int.lt_tmod_of_pos n hm.1
 go_wp2
 · rename_i h3
   obtain⟨r,hr⟩:=Int.eq_ofNat_of_zero_le (show 0≤n.tmod m+m by omega)
   rw [hr]
   go_ret
   exact⟨⟨r,rfl,by omega⟩,Below.refl _ _⟩
 · rename_i h3
   obtain⟨r,hr⟩:=Int.eq_ofNat_of_zero_le (show 0≤n.tmod m by omega)
   rw [hr] at h1 ⊢
   go_ret
   exact⟨⟨r,rfl,h1⟩,Below.refl _ _⟩
theorem Dl {ops:Array Oper} {o p:Oper} {a:Act} {j t:Nat} {b:Bool} (h1:ops[j]? = some p) (h2:p.dst=some t) (h3:a.tmps[t]? = some (.bool b)) (h4:o.guard=some (j,b)):Region.wanted o (yielded ops a.tmps)=true:=by
 unfold Region.wanted yielded
 rw [h4]
 simp only [h1,Option.bind_some,h2,h3]
 cases b <;> rfl
theorem H9 {P:Program} {ops:Array Oper} {o p:Oper} {a:Act} {w:World} {j t:Nat} (b:Bool) {K:Act→World→Prop} {Q:Exit→Act→World→Prop} (h1:ops[j]? = some p) (h2:p.dst=some t) (h4:o.guard=some (j,b)) (h3:∃ u,a.tmps[t]? = some u∧u = .bool b) (ht:o.wp P a w K Q):pY P ops o a w K Q:=by
 obtain⟨u,h3,rfl⟩:=h3
 unfold pY
 rw [Dl h1 h2 h3 h4,if_pos rfl]
 exact ht
theorem okR {Γ:Type} {P:Program} {ops:Array Oper} {V:Γ→Nat→Value→Prop} {a0:Act} {S:List Nat} {Ph:Nat→Γ→World→Prop} {Q:Exit→Act→World→Prop} {i:Nat} {o p0:Oper} (b:Bool) (j t:Nat) (h1:ops[j]? = some p0) (h2:p0.dst=some t) (hg:o.guard=some (j,b)) (hv:∀ γ u,V γ j u→u = .bool b)
 (h:∀ p γ a w,0≤p→p≤0→Ph p γ w→Knows ops (V γ) a0 i o a→o.wp P a w (fun a' w'=>∃ u γ',a'=a.put o.dst u∧(∀ j v,j≠i→V γ j v→V γ' j v)∧V γ' i u∧Ph p γ' w') Q)
 (h0:i ∉ S:=by decide) (hl:loB S o 0=true:=by decide +kernel) (hh:hiB ops S i 0=true:=by decide +kernel) (h3:waitsFor o j=true:=by decide +kernel):Ao P ops V S Ph a0 Q i o:=
 .inr ⟨h0,0,0,hl,hh,fun p γ a w hpl hph hp hk=>H9 b h1 h2 hg (by obtain⟨u,hu,hV⟩:=hk.g j t h1 h2 h3; exact⟨u,hu,hv γ u hV⟩) (h p γ a w hpl hph hp hk)⟩
theorem SrvAt.drew {w:World} {T:TypeId} {B:Nat} {st:ah} {x:StA} {now:Int} (h:SrvAt w T B st x now):SrvAt w.drew T B st x now:=⟨h.blk,h.at_.drew,h.ok,h.t⟩
structure Bf (w0:World) (vb:Nat) (T:ByteArray) (f:bL) (p:Nat) (A:Option Addr) (c:Nat) (w:World):Prop where
 below:Below w0.heap.size w0 w
 le:p≤T.size
 feed:gX w vb (upto T p) ((qm T p:Nat):Int) 0
 lo:w0.heap.size≤vb
 rows:w.ownsRow w0.heap.size 43 3 (.slice A (fS T f p).length c) (fS T f p).length (au qw (fS T f p))
theorem Bf.up {w0 w w':World} {vb:Nat} {T:ByteArray} {f:bL} {p:Nat} {A:Option Addr} {c:Nat} (h:Bf w0 vb T f p A c w) (hb:Below w.heap.size w w'):Bf w0 vb T f p A c w':=
 ⟨h.below.trans (hb.mono h.below.size),h.le,Blk.below h.feed hb (Blk.lt h.feed),h.lo,nC h.rows hb⟩
def M6 (w0:World) (vb:Nat) (T:ByteArray) (f:bL) (p q:Nat) (A:Option Addr) (c:Nat) (w:World) (e:Ending) (w':World):Prop:=
 ∃ (fs:List bL) (A1:Option Addr) (n1 c1:Nat),e = .returned (.tuple #[.slice A1 n1 c1,.int .i64 0])∧fs.length=n1∧n1≤1∧w'.ownsRow w.heap.size 43 3 (.slice A1 n1 c1) n1 (au qw fs)∧fS T f p ++ fs=fS T f q ∧
  w0.heap.size≤vb∧Below w0.heap.size w0 w'∧gX w' vb (upto T q) ((qm T q:Nat):Int) 0∧w'.ownsRow w0.heap.size 43 3 (.slice A (fS T f p).length c) (fS T f p).length (au qw (fS T f p))
theorem B9 {w0:World} {vb:Nat} {T:ByteArray} {f:bL} {p q:Nat} {A:Option Addr} {c:Nat} (w:World) (hT:eK T=(f,T.size,0)) (h0:0<T.size) (hT2:T.size≤2097152) (h:Bf w0 vb T f p A c w) (hp:p≤q) (hq:q≤T.size) :
 Calls Tryz.prog 10 #[.pointer (some ⟨vb,0,none⟩),.string (T.extract p q)] w (M6 w0 vb T f p q A c w):=by
 obtain⟨s,m,hs,hF,hsz,hr,hn,hf⟩:=Jz hT h0 hp hq
 refine (D5 w hs hF h.feed (by omega) (Nat.le_trans (JD T p) hT2)).mono ?_
 rintro e w' ⟨A1,n1,c1,rfl,hl,ho,hg,hfd⟩
 rw [if_pos rfl] at hfd
 rw [hr] at hfd
 refine⟨_,A1,n1,c1,by rw [if_pos rfl],hl,by rw [← hl]; split <;> simp,ho,hf,h.lo,aJ h.below hg h.lo,?_,?_⟩
 · rw [if_pos rfl,← Int.natCast_add,hn] at hfd; exact hfd
 · exact h.rows.kept hg (by cases hv:(Value.slice A (fS T f p).length c).ownBlock with | none=>exact .inl rfl | some g=>exact .inr (fun e=>uU h.feed h.rows (by decide) (hv.trans e)))
theorem Bf.next {w0 w w':World} {vb:Nat} {T:ByteArray} {f:bL} {p q:Nat} {A:Option Addr} {c:Nat} {e:Ending} (hq:q≤T.size) (ty:TypeId) (h:M6 w0 vb T f p q A c w e w') :
 ∃ (A1:Option Addr) (n1 c1:Nat),e = .returned (.tuple #[.slice A1 n1 c1,.int .i64 0])∧∃ (A2:Option Addr) (c2:Nat) (w2:World),(Builtin.append_ #[36,36] ty #[.slice A (fS T f p).length c,.slice A1 n1 c1]).run Tryz.prog w' = .ok (.slice A2 (fS T f q).length c2) w2∧Bf w0 vb T f q A2 c2 w2:=by
 obtain⟨fs,A1,n1,c1,rfl,hl,hn1,ho,hf,hlo,hb,hfd,hr⟩:=h
 have hlp:=JC T f p
 obtain⟨v',w2,hrun,ho2,hg2⟩:=AD w' ty hr ho hb.size (by omega)
 rw [hf] at ho2
 have hlen:(fS T f p).length+n1=(fS T f q).length:=by rw [← hf,List.length_append,hl]
 rw [hlen] at ho2
 obtain⟨A2,c2,rfl⟩:∃ A2 c2,v' = .slice A2 (fS T f q).length c2:=by
  rcases ho2.2 with ⟨h1,h2⟩ | ⟨g,cap,cur,h1,_⟩
  · exact⟨none,0,by rw [h1,h2]⟩
  · exact⟨_,cap,h1⟩
 refine⟨A1,n1,c1,rfl,A2,c2,w2,hrun,?_,hq,?_,hlo,ho2⟩
 · exact⟨hg2.os.trans hb.os,hg2.tape.trans hb.tape,hg2.output.trans hb.output,Nat.le_trans hb.size hg2.size,fun k hk=>(hg2.block k (by have:=hb.size; omega) (fun e=>by have:=(hr.lt k e.symm).1; omega)).trans (hb.block k hk)⟩
 · exact (hg2.block vb (Blk.lt hfd) (fun e=>uU hfd hr (by decide) e.symm)).trans hfd
theorem OS (T:ByteArray) {p k:Nat} (h:p+k≤T.size):(T.extract p T.size).extract 0 k=T.extract p (p+k)∧(T.extract p T.size).extract k (T.extract p T.size).size=T.extract (p+k) T.size:=by
 constructor
 · rw [ByteArray.extract_extract]
   congr 1
   omega
 · rw [ByteArray.extract_extract,ByteArray.size_extract]
   congr 1
   omega
theorem Ev (w:World) (s0:ah) (x0:StA) (zs:List Int) (A:Option Addr) (n c:Nat) (hs:StAt w w.heap.size s0 x0) (hz:aQ w w.heap.size 1 A n (zs.map fun z=>.int .i64 z)) (hl:zs.length=n) (hn:n≤9223372036854775807) (hf:∀ z ∈ zs,-9223372036854775808≤z∧z≤9223372036854775807)
 (hT : Tabs w) (hP : Lib.TabIs Tryz.prog w "internal/strconv.uint64pow10" .u64 Lib.pow10Tab) (hES : ∃ t p, w.cell? ⟨2, 0, none⟩ = some (.iface t p)) (hER : ∃ t p, w.cell? ⟨3, 0, none⟩ = some (.iface t p)) :
 Calls Tryz.prog 3 #[.agg (stC s0 x0),.slice A n c] w fun e w'=>e = .returned (.bool true)∧Below w.heap.size w w':=by
 have hPB:=Lib.tabBelow_of_tabIs hP
 have HPW := hid (fun (W : World) (hb : Below w.heap.size w W) => (show Lib.TabBelow Tryz.prog W.heap.size W "internal/strconv.uint64pow10" .u64 Lib.pow10Tab from fun w' h' => hPB w' (hb.trans (h'.mono hb.size))))
 have hcl:∀ (W:World) (a:Addr),Below w.heap.size w W→(∃ t p,w.cell? a=some (.iface t p))→∃ t p,W.cell? a=some (.iface t p):=fun W a hw h=>by
  obtain⟨t,p,h⟩:=h
  exact⟨t,p,(hw.cell (block_lt_of_cell h)).trans h⟩
 have HE:=hid (fun (W:World) (hb:Below w.heap.size w W)=>And.intro (hcl W _ hb hES) (hcl W _ hb hER))
 have hb1:Below w.heap.size w (w.alloc (.cells (stC s0 x0) 26)):=(Below.refl _ _).alloc (Nat.le_refl _) _
 obtain⟨W1,hW1⟩:∃ W1,w.alloc (.cells (stC s0 x0) 26)=W1:=⟨_,rfl⟩
 have hB:Blk W1 w.heap.size 26 (stC s0 x0):=by rw [← hW1]; exact heap_alloc_new w _
 rw [hW1] at hb1
 have HS:=hid hs
 have HF:=hid hf
 have Hl:=hid hl
 have HT:=hid hT
 have Hb1:=hid hb1
 have HB:=hid hB
 have HWk:=hid (OR W1 (hT.below hb1))
 have HW1:=hid hW1
 have HZ:=hid hz
 have OT:=hid (LO (st:=s0))
 have Hok:=hid (NS (st:=s0))
 clear hs hf hl hT hb1 hB hW1 hz hPB hcl hES hER hP
 unfold stC at HW1 ⊢
 go_enter Tryz.func3,Tryz.ntmps3
 go_wp2_with fail
 try rw [HW1.out]
 clear HW1
 refine Calls.mono HWk.out ?_
 rintro e w1 ⟨rfl,hbk⟩
 have hb:=Hb1.out.trans (hbk.mono Hb1.out.size)
 have hB1:=HB.out.below hbk HB.out.lt
 have HFr:=hid (show Calls Tryz.prog 5 #[.agg #[.int .i64 s0.rev,.slice x0.aj x0.nj x0.cj,.slice x0.an x0.nn x0.cn,.slice x0.al x0.nl x0.cl],.int .i64 3] w1 (rN s0 3 w1) from Gi s0 x0 3 w1 (HS.out.upS hb) (HT.out.below hb))
 obtain⟨c0,c1,c2,c3⟩:=Blk.c4 (hB1)
 have hlb:=hB1.lt
 have HBk:=hid hB1
 have Hbk:=hid hb
 clear hbk hb hB1 HWk HB Hb1
 unfold rN at HFr
 obtain⟨T,hTn⟩:∃ T,(nL s0 3).1=T:=⟨_,rfl⟩
 obtain⟨E1,hE1⟩:∃ E1,(nL s0 3).2=E1:=⟨_,rfl⟩
 obtain⟨U,hUn⟩:∃ U,(j6 s0).1=U:=⟨_,rfl⟩
 obtain⟨E2,hE2⟩:∃ E2,(j6 s0).2=E2:=⟨_,rfl⟩
 rw [hTn,hE1] at HFr
 rw [hE1,hE2] at OT Hok
 rw [hTn,hUn] at Hok
 have Hpr:=hid (And.intro hUn hE2)
 clear hTn hE1 hUn hE2
 go_wp2_with fail
 refine Calls.mono HFr.out ?_
 rintro e w2 ⟨rfl,hb2⟩
 have hb:=Hbk.out.trans (hb2.mono Hbk.out.size)
 have hB2:=HBk.out.below hb2 HBk.out.lt
 have HPr:=hid (show Calls Tryz.prog 6 #[.agg #[.int .i64 s0.rev,.slice x0.aj x0.nj x0.cj,.slice x0.an x0.nn x0.cn,.slice x0.al x0.nl x0.cl]] w2 (fun e w'=>e = .returned (.tuple #[.string U,.int .i64 E2])∧Below w2.heap.size w2 w') from by
  have h:=Gb s0 x0 w2 (HS.out.upS hb) (HT.out.below hb) (HPW.out w2 hb)
  unfold CG at h
  rw [Hpr.out.1,Hpr.out.2] at h
  exact h)
 obtain⟨d0,d1,d2,d3⟩:=Blk.c4 (hB2)
 have hlb2:=hB2.lt
 have HB2:=hid hB2
 have Hb2:=hid hb
 clear hb2 hb hB2 HFr HBk Hbk c0 c1 c2 c3 hlb Hpr
 go_wp2_with fail
 refine Calls.mono HPr.out ?_
 rintro e w3 ⟨rfl,hb3⟩
 have hb:=Hb2.out.trans (hb3.mono Hb2.out.size)
 have hB3:=HB2.out.below hb3 HB2.out.lt
 obtain⟨c0,c1,c2,c3⟩:=Blk.c4 (hB3)
 have hlb:=hB3.lt
 have HB3:=hid hB3
 have Hb3:=hid hb
 clear hb3 hb hB3 HPr HB2 Hb2 d0 d1 d2 d3 hlb2
 by_cases hbad:E1≠0∨E2≠0
 · have HCk:=hid (show Calls Tryz.prog 7 #[.agg #[.int .i64 s0.rev,.slice x0.aj x0.nj x0.cj,.slice x0.an x0.nn x0.cn,.slice x0.al x0.nl x0.cl]] w3 (fun e w'=>e = .returned (.int .i64 (ay s0))∧Below w3.heap.size w3 w') from fq s0 x0 w3 (HS.out.upS Hb3.out) (HT.out.below Hb3.out))
   have hor:=OT.out hbad
   obtain⟨CE,hCE⟩:∃ CE,ay s0=CE:=⟨_,rfl⟩
   rw [hCE] at hor HCk
   have Hor:=hid (show ((CE != 0)=true)∨((CE != 0)=false∧(E1 == 2)=true) from by
    by_cases h0:CE=0
    · rcases hor with h | h
      · exact absurd h0 h
      · exact .inr ⟨by simp [h0],by simp [h]⟩
    · exact .inl (by simpa using h0))
   have hway:((E1 != 0)=true)∨((E1 != 0)=false∧(E2 != 0)=true):=by
    by_cases h0:E1=0
    · rcases hbad with h | h
      · exact absurd h0 h
      · exact .inr ⟨by simp [h0],by simpa using h⟩
    · exact .inl (by simpa using h0)
   clear hbad hor hCE OT Hok
   rcases hway with k0 | ⟨k0,k1⟩
   all_goals
    go_wp2_with fail
    refine Calls.mono HCk.out ?_
    rintro e w4 ⟨rfl,hb4⟩
    have Hz:=hid (Hb3.out.trans (hb4.mono Hb3.out.size))
    clear hb4 HCk c0 c1 c2 c3
    rcases Hor.out with o0 | ⟨o0,o1⟩
    all_goals
     go_wp2
     go_ret
     exact⟨rfl,Hz.out⟩
 · have h1:E1=0:=Classical.byContradiction fun h=>hbad (.inl h)
   have h2:E2=0:=Classical.byContradiction fun h=>hbad (.inr h)
   obtain⟨hck,hL6,hTe,hUe⟩:=Hok.out h1 h2
   have hdec:eK T=(⟨3,1,BA (jc s0 3)⟩,T.size,0):=by rw [hTe]; exact NT hL6
   have hTs:0<T.size∧T.size≤6020:=by rw [hTe,cT]; exact rJ 3 1 _ hL6
   obtain⟨P,hPn⟩:∃ P,BA (jc s0 3)=P:=⟨_,rfl⟩
   rw [hPn] at hdec
   have HPn:=hid hPn
   have HCk:=hid hck
   have HL6:=hid hL6
   have HUe:=hid hUe
   have Hdec:=hid hdec
   have HTs:=hid hTs
   obtain⟨f,hfn⟩:∃ f:bL,(⟨3,1,P⟩:bL)=f:=⟨_,rfl⟩
   have hdf:eK T=(f,T.size,0):=by rw [← hfn]; exact hdec
   have Hdf:=hid hdf
   have Hfn:=hid hfn
   subst h1
   subst h2
   clear hbad OT Hok hck hL6 hTe hUe hdec hTs hPn hfn hdf
   go_wp2_with fail
   refine Calls.mono (Io _) ?_
   rintro e w4 ⟨rfl,hw4⟩
   have hb4:Below w3.heap.size w3 w4:=by rw [hw4]; exact (Below.refl _ _).alloc (Nat.le_refl _) _
   have hu:=JB HTs.out.1
   have H0:=hid (show Bf w3 w3.heap.size T f 0 none 0 w4 from ⟨hb4,Nat.zero_le _,by rw [hu.1,hu.2.1,hw4]; exact MF w3,Nat.le_refl _,by rw [hu.2.2 f]; exact World.ownsRow_nil _ _ _ _⟩)
   have hl0:(fS T f 0).length=0:=by rw [hu.2.2 f]; rfl
   have Hl0:=hid hl0
   obtain⟨vb,hvb⟩:∃ vb,w3.heap.size=vb:=⟨_,rfl⟩
   rw [hvb] at H0 ⊢
   have Hvb:=hid hvb
   have ht0:T=T.extract 0 T.size:=by simp
   have Ht0:=hid ht0
   clear hw4 hb4 hu hl0 hvb ht0 c0 c1 c2 c3 hlb
   go_wp2
   go_loopw [10,11,56] (fun fr rs i wr=>∃ (k p:Nat) (A1:Option Addr) (c1:Nat),k≤n∧i = .int .i64 k∧fr = .slice A1 (fS T f p).length c1∧rs = .string (T.extract p T.size)∧Bf w3 vb T f p A1 c1 wr) (fun _ _ i _=>n - (intOf i).toNat)
   case atStart=>exact⟨0,0,none,0,Nat.zero_le _,rfl,by rw [Hl0.out],by rw [← Ht0.out],H0.out⟩
   case round=>
    obtain⟨k,p,A1,c1,hk,rfl,rfl,rfl,hA⟩:=hrel
    have hpT:=hA.le
    have HA:=hid hA
    clear hA
    by_cases hlt:k<n
    · obtain⟨z,hzk⟩:∃ z,zs[k]? = some z:=⟨_,List.getElem?_eq_getElem (by rw [Hl.out]; exact hlt)⟩
      have hzb:=HF.out z (List.mem_of_getElem? hzk)
      have hbw:=Hb3.out.trans (HA.out.below.mono Hb3.out.size)
      obtain⟨bz,offz,u,rfl,hbz,hu,hcz⟩:=(HZ.out.below hbw).cell (j:=k) (by omega)
      rw [List.getElem?_map,hzk] at hu
      injection hu with hu
      subst hu
      have z0:wr.cell? ⟨bz,offz+k,none⟩=some (.int .i64 z):=hcz
      have hbl:bz<wr.heap.size:=by have:=hbw.size; omega
      have hrs:(T.extract p T.size).size=T.size - p:=by rw [ByteArray.size_extract]; omega
      have hT6:=HTs.out.2
      have hrl:(((T.extract p T.size).size:Nat):Int)+1=((T.size - p+1:Nat):Int):=by omega
      have HR:=hid (M5 z ((T.size - p+1:Nat):Int) wr (by omega))
      have Hrl:=hid hrl
      have hwr1:IntKind.i64.wrap ((((T.extract p T.size).size:Nat):Int)+1)=((T.size - p+1:Nat):Int):=by rw [IntKind.wrap_i64]; omega
      obtain⟨RS,hRS⟩:∃ RS,T.extract p T.size=RS:=⟨_,rfl⟩
      rw [hRS] at hwr1 hrs ⊢
      have HRS:=hid hRS
      clear hbw hcz hzk hrl hzb hRS hrs
      go_wp2_with fail
      refine Calls.mono HR.out ?_
      rintro e w5 ⟨⟨r,rfl,hr⟩,hb5⟩
      have hpq:p+r≤T.size:=by have:=HA.out.le; omega
      obtain⟨e1,e2⟩:=OS T hpq
      rw [HRS.out] at e1 e2
      have hrs2:RS.size=T.size - p:=by rw [← HRS.out,ByteArray.size_extract]; omega
      have q1:∀ W:World,(Instr.slice 9 (.string RS) none (some (.int .i64 ((r:Nat):Int))) none).run Tryz.prog W = .ok (.string (T.extract p (p+r))) W:=fun W=>by
       rw [run_slice_string_to_if (P:=Tryz.prog) (w:=W) 9 RS .i64 ((r:Nat):Int) Tryz.underlying9,if_pos ⟨by omega,by omega⟩,Int.toNat_natCast,e1]
      have q2:∀ W:World,(Instr.slice 9 (.string RS) (some (.int .i64 ((r:Nat):Int))) none none).run Tryz.prog W = .ok (.string (T.extract (p+r) T.size)) W:=fun W=>by
       rw [run_slice_string_from_if (P:=Tryz.prog) (w:=W) 9 RS .i64 ((r:Nat):Int) Tryz.underlying9,if_pos ⟨by omega,by omega⟩,Int.toNat_natCast,e2]
      have HPc:=hid (B9 w5 Hdf.out HTs.out.1 (by omega) (HA.out.up hb5) (Nat.le_add_right p r) hpq)
      clear hr hb5 HR e1 e2 hrs2 hwr1 z0
      go_wp2_with fail
      refine Calls.mono HPc.out ?_
      rintro e w6 hp
      obtain⟨A2,n2,c2,rfl,A3,c3,w7,hrun,hA7⟩:=Bf.next hpq 36 hp
      have HA7:=hid hA7
      have Kk:=hid hrun
      clear hp hrun hA7 HPc HA
      go_wp2_with (at_builtin; refine Lib.wpList_append_run _ rfl _ _ 36 36 rfl _ _ rfl rfl _ _ Kk.out ?_)
      go_roundw
      case rel=>exact⟨k+1,p+r,A3,c3,by omega,by go_num,rfl,rfl,HA7.out⟩
      case measure=>simp [intOf]; omega
    · obtain rfl:k=n:=by omega
      have HPc:=hid (B9 wr Hdf.out HTs.out.1 (by have:=HTs.out.2; omega) HA.out hpT (Nat.le_refl _))
      clear hlt
      go_wp2_with fail
      refine Calls.mono HPc.out ?_
      rintro e w6 hp
      obtain⟨A2,n2,c2,rfl,A3,c3,w7,hrun,hA7⟩:=Bf.next (Nat.le_refl _) 36 hp
      have hlen:(fS T f T.size).length=1:=by rw [BK]; rfl
      have hrow:=hA7.rows
      rw [hlen] at hrun hrow
      rw [BK] at hrow
      obtain⟨bf,capf,hvf,hbf1,hbf2⟩:=hrow.form (by omega)
      injection hvf with hv1 hv2 hv3
      subst hv1
      have hcf:=hrow.cells rfl 2 (.string P) (by rw [kO,← Hfn.out]; rfl)
      have y0:w7.cell? ⟨bf,2,none⟩=some (.string P):=by simpa [Addr.add] using hcf
      have Kk:=hid hrun
      have HbW:=hid hA7.below
      have hbT:=HT.out.below (Hb3.out.trans (hA7.below.mono Hb3.out.size))
      have HD:=hid (Kt P 3 w7 (by rw [← HPn.out,cT]; have:=HL6.out; omega) hbT (by omega) (by omega))
      have hB7:=HB3.out.below hA7.below HB3.out.lt
      clear hp hrun hA7 HPc HA hlen hrow hcf hv2 hv3 hbT
      go_wp2_with (at_builtin; refine Lib.wpList_append_run _ rfl _ _ 36 36 rfl _ _ rfl rfl _ _ Kk.out ?_)
      refine Calls.mono HD.out ?_
      rintro e w8 ⟨st8,x8,E8,rfl,hd8,hA8,hb8⟩
      rw [← HPn.out,Jy HCk.out] at hd8
      obtain⟨rfl,rfl⟩:=Prod.mk.inj hd8
      obtain⟨w9,hw9⟩:∃ w9,w8.alloc (.cells (stC s0 x8) 26)=w9:=⟨_,rfl⟩
      have hb9:Below w8.heap.size w8 w9:=by rw [← hw9]; exact (Below.refl _ _).alloc (Nat.le_refl _) _
      have Qw:=(HbW.out.trans (hb8.mono HbW.out.size)).trans (hb9.mono (HbW.out.trans (hb8.mono HbW.out.size)).size)
      have hS9:=HS.out.upS (Hb3.out.trans (Qw.mono Hb3.out.size))
      have HSm:=hid (show Calls Tryz.prog 12 #[.agg #[.int .i64 s0.rev,.slice x8.aj x8.nj x8.cj,.slice x8.an x8.nn x8.cn,.slice x8.al x8.nl x8.cl],.agg #[.int .i64 s0.rev,.slice x0.aj x0.nj x0.cj,.slice x0.an x0.nn x0.cn,.slice x0.al x0.nl x0.cl]] w9 _ from yZ s0 s0 x8 x0 w9 (hA8.upS hb9) hS9)
      have hBs:=HB3.out.below (HbW.out.trans (hb8.mono HbW.out.size)) HB3.out.lt
      obtain⟨c0,c1,c2,c3⟩:=Blk.c4 (hBs)
      have hl0:=hBs.lt
      have Hb9:=hid Qw
      have Hw9:=hid hw9
      clear hA8 hb8 hd8 hw9 hb9 Qw hS9 hBs HD y0 hB7
      unfold stC at Hw9 ⊢
      go_wp2_with fail
      try simp only [Hw9.out]
      clear Hw9
      refine Calls.mono HSm.out ?_
      rintro e w10 ⟨t10,rfl,ht10,hb10⟩
      obtain rfl:t10=true:=ht10.2 rfl
      have Fk:=hid (Hb9.out.trans (hb10.mono Hb9.out.size))
      clear hb10 ht10 HSm Hb9 c0 c1 c2 c3 hl0
      go_upto_if 116 with fail
      go_cut [21,22] (fun s21 s22 wx=>Below w3.heap.size w3 wx)
      case first=>
       by_cases hU:U.size≤60000
       · have dU:decide ((U.size:Int)≤60000)=true:=decide_eq_true (by omega)
         have hbw:=Hb3.out.trans (Fk.out.mono Hb3.out.size)
         have HPa:=hid (Gm U w10 (by omega) (HT.out.below hbw) (HPW.out w10 hbw) (HE.out w10 hbw).1 (HE.out w10 hbw).2)
         have hpf:nu U=(s0,0):=by rw [HUe.out]; exact Gk HCk.out (by rw [← HUe.out]; exact hU)
         have Hpf:=hid hpf
         clear hbw hpf
         go_wp2_with fail
         refine Calls.mono HPa.out ?_
         rintro e w11 ⟨st11,x11,E11,rfl,Qx,hA11,OU⟩
         rw [Hpf.out] at Qx
         obtain⟨rfl,rfl⟩:=Prod.mk.inj Qx
         obtain⟨w12,Qy⟩:∃ w12,w11.alloc (.cells (stC s0 x11) 26)=w12:=⟨_,rfl⟩
         have Qz:Below w11.heap.size w11 w12:=by rw [← Qy]; exact (Below.refl _ _).alloc (Nat.le_refl _) _
         have M7:=(Fk.out.trans (OU.mono Fk.out.size)).trans (Qz.mono (Fk.out.trans (OU.mono Fk.out.size)).size)
         have hS12:=HS.out.upS (Hb3.out.trans (M7.mono Hb3.out.size))
         have HSm:=hid (show Calls Tryz.prog 12 #[.agg #[.int .i64 s0.rev,.slice x11.aj x11.nj x11.cj,.slice x11.an x11.nn x11.cn,.slice x11.al x11.nl x11.cl],.agg #[.int .i64 s0.rev,.slice x0.aj x0.nj x0.cj,.slice x0.an x0.nn x0.cn,.slice x0.al x0.nl x0.cl]] w12 _ from yZ s0 s0 x11 x0 w12 (hA11.upS Qz) hS12)
         have hBs:=HB3.out.below (Fk.out.trans (OU.mono Fk.out.size)) HB3.out.lt
         obtain⟨c0,c1,c2,c3⟩:=Blk.c4 (hBs)
         have hl0:=hBs.lt
         have QA:=hid M7
         have QB:=hid Qy
         clear hA11 OU Qx Qy Qz M7 hS12 hBs HPa hU dU
         unfold stC at QB ⊢
         go_wp2_with fail
         try simp only [QB.out]
         clear QB
         refine Calls.mono HSm.out ?_
         rintro e w13 ⟨t13,rfl,ht13,A7⟩
         obtain rfl:t13=true:=ht13.2 rfl
         have Mz:=hid (QA.out.trans (A7.mono QA.out.size))
         clear A7 ht13 HSm QA c0 c1 c2 c3 hl0
         go_wp2
         go_meet
         exact Mz.out
       · have dU:decide ((U.size:Int)≤60000)=false:=decide_eq_false (by omega)
         go_wp2
         go_meet
         exact Fk.out
      case rest=>
       have hBs:=HB3.out.below hcut HB3.out.lt
       obtain⟨c0,c1,c2,c3⟩:=Blk.c4 (hBs)
       have hl0:=hBs.lt
       have Hbc:=hid hcut
       clear hBs hcut
       by_cases hr0:s0.rev=0
       · have dr:(s0.rev == 0)=true:=by simp [hr0]
         have Hz:=hid (Hb3.out.trans (Hbc.out.mono Hb3.out.size))
         clear hr0
         go_wp2
         go_ret
         exact⟨rfl,Hz.out⟩
       · have dr:(s0.rev == 0)=false:=by simpa using hr0
         obtain⟨hdf,hap⟩:=JE HCk.out hr0
         obtain⟨D,hD⟩:∃ D,cF aY s0=D:=⟨_,rfl⟩
         have hDf:D.from_=0:=by rw [← hD]; rfl
         rw [hD] at hdf hap
         have Hdf2:=hid hdf
         have Hap:=hid hap
         have HDf:=hid hDf
         have hbw:=Hb3.out.trans (Hbc.out.mono Hb3.out.size)
         have HDi:=hid (show Calls Tryz.prog 14 #[.agg iT,.agg #[.int .i64 s0.rev,.slice x0.aj x0.nj x0.cj,.slice x0.an x0.nn x0.cn,.slice x0.al x0.nl x0.cl]] wc (vN aY s0 wc) from I3 aY s0 zSA x0 wc (G9 wc _) (HS.out.upS hbw) (HT.out.below hbw))
         clear hr0 hdf hap hD hDf hbw
         go_wp2_with fail
         refine Calls.mono HDi.out ?_
         rintro e w14 ⟨D14,y,E14,rfl,QC,hA14,zU⟩
         rw [Hdf2.out] at QC
         obtain⟨rfl,rfl⟩:=Prod.mk.inj QC
         obtain⟨w15,QD⟩:∃ w15,w14.alloc (.cells (dC D y) 48)=w15:=⟨_,rfl⟩
         have QE:Below w14.heap.size w14 w15:=by rw [← QD]; exact (Below.refl _ _).alloc (Nat.le_refl _) _
         have M8:=(Hbc.out.trans (zU.mono Hbc.out.size)).trans (QE.mono (Hbc.out.trans (zU.mono Hbc.out.size)).size)
         have Po:=Hb3.out.trans (M8.mono Hb3.out.size)
         have HAp:=hid (show Calls Tryz.prog 15 #[.agg iT,.agg #[.int .i64 D.from_,.int .i64 D.to_,.slice y.aj y.nj y.cj,.slice y.an y.nn y.cn,.slice y.al y.nl y.cl,.slice y.agj y.ngj y.cgj,.slice y.agn y.ngn y.cgn,.slice y.agl y.ngl y.cgl]] w15 (vE aY D w15) from I0 aY zSA D y w15 (G9 w15 _) (hA14.upS QE) (HT.out.below Po) (by rw [HDf.out]; decide) (by rw [HDf.out]; decide))
         have Ca:=hid M8
         have QF:=hid QD
         clear hA14 zU QC QD QE M8 Po HDi c0 c1 c2 c3 hl0
         unfold dC at QF ⊢
         go_wp2_with fail
         try simp only [QF.out]
         clear QF
         refine Calls.mono HAp.out ?_
         rintro e w16 ⟨st16,x16,E16,rfl,QG,hA16,OV⟩
         rw [Hap.out] at QG
         obtain⟨rfl,rfl⟩:=Prod.mk.inj QG
         obtain⟨w17,QH⟩:∃ w17,w16.alloc (.cells (stC s0 x16) 26)=w17:=⟨_,rfl⟩
         have QI:Below w16.heap.size w16 w17:=by rw [← QH]; exact (Below.refl _ _).alloc (Nat.le_refl _) _
         have Pp:=(Ca.out.trans (OV.mono Ca.out.size)).trans (QI.mono (Ca.out.trans (OV.mono Ca.out.size)).size)
         have M9:=Hb3.out.trans (Pp.mono Hb3.out.size)
         have HSm:=hid (show Calls Tryz.prog 12 #[.agg #[.int .i64 s0.rev,.slice x16.aj x16.nj x16.cj,.slice x16.an x16.nn x16.cn,.slice x16.al x16.nl x16.cl],.agg #[.int .i64 s0.rev,.slice x0.aj x0.nj x0.cj,.slice x0.an x0.nn x0.cn,.slice x0.al x0.nl x0.cl]] w17 _ from yZ s0 s0 x16 x0 w17 (hA16.upS QI) (HS.out.upS M9))
         have hBs:=HB3.out.below (Ca.out.trans (OV.mono Ca.out.size)) HB3.out.lt
         obtain⟨c0,c1,c2,c3⟩:=Blk.c4 (hBs)
         have hl0:=hBs.lt
         have Na:=hid M9
         have QJ:=hid QH
         clear hA16 OV QG QH QI Pp M9 hBs HAp
         unfold stC at QJ ⊢
         go_wp2_with fail
         try simp only [QJ.out]
         clear QJ
         refine Calls.mono HSm.out ?_
         rintro e w18 ⟨t18,rfl,ht18,hb18⟩
         obtain rfl:t18=true:=ht18.2 rfl
         have Hz:=hid (Na.out.trans (hb18.mono Na.out.size))
         clear hb18 ht18 HSm Na c0 c1 c2 c3 hl0
         go_wp2
         go_ret
         exact⟨rfl,Hz.out⟩
end Go.Proofs.YtcpgnjmaampglaaGreatDoor
