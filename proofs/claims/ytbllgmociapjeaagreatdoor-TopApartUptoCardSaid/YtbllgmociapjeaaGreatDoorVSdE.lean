/- Of the proof of a statement: SdE, RcF, RcG. -/
import Derived.Test.YtbllgmociapjeaaGreatDoorVRcE
set_option linter.unusedVariables false
set_option linter.unusedSimpArgs false
set_option maxRecDepth 100000
set_option maxHeartbeats 8000000
/- The end of a server's Do, in the program and in the reference: what has been made is stored. -/
namespace Go.Proofs.YtbllgmociapjeaaGreatDoor
open Go.Lib (hid)
open Go.RowKit
abbrev zD:aW:=⟨0,0,[],[],[],[],[],[]⟩
abbrev zA:fP:=⟨none,0,0,none,0,0,none,0,0,none,0,0,none,0,0,none,0,0⟩
theorem tC {l:List ByteArray} {n:Nat} (h:l.length=n) (hn:0<n):∃ s,(au mD l)[0]? = some (.string s):=by
 match l,h with
 | [],h=>simp at h; omega
 | a :: l,_=>exact⟨a,rfl⟩
theorem l7 (d:aW) (x:fP):jf (dC d x):=lH (by
 intro v hv s
 simp only [dC,List.mem_toArray,List.mem_cons,List.not_mem_nil,or_false] at hv
 rcases hv with rfl | rfl | rfl | rfl | rfl | rfl | rfl | rfl <;> simp)
theorem eF.gR {w w':World} {B g:Nat} {t:TypeId} {cs:Array Value} {d:aW} {x:fP} (h:eF w B d x) (hb:Blk w g t cs) (hc:jf cs) (hg:w.grownBy w' (some g)):eF w' B d x:=
 ⟨h.j.gR hb hc (sP h.lj) hg,h.n.gR hb hc (qy h.ln) hg,h.l.gR hb hc (ou h.ll) hg,h.gj.gR hb hc (tC h.lgj) hg,h.gn.gR hb hc (tC h.lgn) hg,h.gl.gR hb hc (tC h.lgl) hg,
  h.lj,h.ln,h.ll,h.lgj,h.lgn,h.lgl,h.bj,h.bn,h.bl,h.bgj,h.bgn,h.bgl,h.oj,h.on_,h.ol,h.ogj,h.ogn,h.ogl⟩
theorem eF.drew {w:World} {B:Nat} {d:aW} {x:fP} (h:eF w B d x):eF w.drew B d x:=
 ⟨h.j.drew,h.n.drew,h.l.drew,h.gj.drew,h.gn.drew,h.gl.drew,h.lj,h.ln,h.ll,h.lgj,h.lgn,h.lgl,h.bj,h.bn,h.bl,h.bgj,h.bgn,h.bgl,h.oj,h.on_,h.ol,h.ogj,h.ogn,h.ogl⟩
theorem eF.upS {w w':World} {d:aW} {x:fP} (h:eF w w.heap.size d x) (hb:Below w.heap.size w w'):eF w' w'.heap.size d x:=(h.below hb).more hb.size
theorem yC {w0 a b:World} {V g:Nat} (h:w0.grownBy a (some V)) (hg:a.grownBy b (some g)) (hn:w0.heap.size≤g):w0.grownBy b (some V):=
 ⟨hg.os.trans h.os,hg.tape.trans h.tape,hg.output.trans h.output,Nat.le_trans h.size hg.size,fun k hk hne=>(hg.block k (Nat.lt_of_lt_of_le hk h.size) (by simp; omega)).trans (h.block k hk hne)⟩
theorem grown_of {w0 a:World} (V:Nat) (h:Below w0.heap.size w0 a):w0.grownBy a (some V):=
 ⟨h.os,h.tape,h.output,h.size,fun k hk _=>h.block k hk⟩
structure SdE (T:TypeId) (w0:World) (V DD:Nat) (st1:ah) (x1:StA) (wT:Int) (D:aW) (dx:fP) (rc dc:Array Value) (w:World):Prop where
 v:Blk w V T (wY st1 x1 wT)
 at_:StAt w w.heap.size st1 x1
 del:eF w w.heap.size D dx
 db:Blk w DD 113 (dC D dx)
 r:Blk w (w0.heap.size+1) 111 rc
 d:Blk w (w0.heap.size+2) 113 dc
 gr:w0.grownBy w (some V)
 lt:V<w0.heap.size
 dd:w0.heap.size+3≤DD
section
variable {T:TypeId} {w0 w w':World} {V DD:Nat} {st1:ah} {x1:StA} {wT:Int} {D:aW} {dx:fP} {rc dc rc' dc':Array Value}
theorem SdE.drew (h:SdE T w0 V DD st1 x1 wT D dx rc dc w):SdE T w0 V DD st1 x1 wT D dx rc dc w.drew:=
 ⟨h.v,h.at_.drew,h.del.drew,h.db,h.r,h.d,⟨h.gr.os,h.gr.tape,h.gr.output,h.gr.size,h.gr.block⟩,h.lt,h.dd⟩
theorem SdE.BU (h:SdE T w0 V DD st1 x1 wT D dx rc dc w) (hn:jf rc) (hg:w.grownBy w' (some (w0.heap.size+1))) (hb:Blk w' (w0.heap.size+1) 111 rc'):SdE T w0 V DD st1 x1 wT D dx rc' dc w':=by
 have h1:=h.lt
 have h2:=h.dd
 exact⟨aD hg h.v (by omega),(h.at_.gR h.r hn hg).more hg.size,(h.del.gR h.r hn hg).more hg.size,aD hg h.db (by omega),hb,aD hg h.d (by omega),yC h.gr hg (by omega),h.lt,h.dd⟩
theorem SdE.BV (h:SdE T w0 V DD st1 x1 wT D dx rc dc w) (hn:jf dc) (hg:w.grownBy w' (some (w0.heap.size+2))) (hb:Blk w' (w0.heap.size+2) 113 dc'):SdE T w0 V DD st1 x1 wT D dx rc dc' w':=by
 have h1:=h.lt
 have h2:=h.dd
 exact⟨aD hg h.v (by omega),(h.at_.gR h.d hn hg).more hg.size,(h.del.gR h.d hn hg).more hg.size,aD hg h.db (by omega),aD hg h.r (by omega),hb,yC h.gr hg (by omega),h.lt,h.dd⟩
theorem SdE.Lg (h:SdE T w0 V DD st1 x1 wT D dx rc dc w) (m:Int):SdE T w0 V DD st1 x1 m D dx rc dc (w.setCell ⟨V,4,none⟩ (.int .i64 m)):=by
 have h1:=h.lt
 have h2:=h.dd
 have hg:=bE w V 4 (.int .i64 m)
 exact⟨Blk.eq (h.v.set 4 _) rfl,(h.at_.gR h.v (pD _ _ _) hg).more hg.size,(h.del.gR h.v (pD _ _ _) hg).more hg.size,aD hg h.db (by omega),aD hg h.r (by omega),aD hg h.d (by omega),jO h.gr hg,h.lt,h.dd⟩
theorem SdE.end_ (h:SdE T w0 V DD st1 x1 wT D dx rc dc w) {st:ah} {R:mM} (h1:R.st=st1) (h2:R.now=wT) (h3:D=if R.ch=true then eW st R.st else zD):nE T V st R w0 (.returned (.tuple #[.agg #[.int .i64 R.e,.int .i64 R.st.rev],.agg (dC D dx),.bool R.ch])) w:=
 ⟨D,dx,x1,rfl,h3,h.del,by rw [h1,h2]; exact h.v,by rw [h1]; exact h.at_,h.gr⟩
end
theorem eO {st:ah} (h:aE st=0):mB st.jobs∧kN st.nodes∧jv st.leases:=by
 obtain⟨_,_,h3,h4,h5,_⟩:=bP.1 h
 refine⟨fun j hj=>?_,fun n hn=>?_,fun l hl=>?_⟩
 · have hz:=gI (dX h3 hj)
   have:=bO hz.1
   have:=gy hz.2.1
   omega
 · have hz:=iY (dX h4 hn)
   have:=bO hz.1
   have:=gy hz.2.1
   omega
 · have hz:=dX h5 hl
   unfold fC at hz
   split at hz
   · rename_i hb
     simp only [Bool.and_eq_true] at hb
     obtain⟨j,hj⟩:=Option.isSome_iff_exists.1 hb.1
     obtain⟨n,hn⟩:=Option.isSome_iff_exists.1 hb.2
     have ej:j.name=l.job:=by simpa using List.find?_some hj
     have en:n.name=l.node:=by simpa using List.find?_some hn
     have hj2:=bO (gI (dX h3 (List.mem_of_find?_eq_some hj))).1
     have hn2:=bO (iY (dX h4 (List.mem_of_find?_eq_some hn))).1
     rw [ej] at hj2
     rw [en] at hn2
     omega
   · omega
theorem nI {q:aF} (h:cu q=0):1≤q.kind∧q.kind≤9∧(q.kind=7→0≤q.n∧q.n≤1099511627776):=by
 unfold cu at h
 split at h
 · cases h
 rename_i hr
 split at h
 · cases h
 have hk:1≤q.kind∧q.kind≤9:=by
  cases h1:ranged q.kind 1 9 with
  | false=>exact absurd h1 hr
  | true=>exact aL.1 h1
 refine⟨hk.1,hk.2,fun hk=>?_⟩
 unfold bR at h
 rw [hk] at h
 simp only [show ¬ (7:Int)=1 from by decide,show ¬ (7:Int)=2 from by decide,show ¬ (7:Int)=3 from by decide,show ¬ (7:Int)=4 from by decide,show ¬ (7:Int)=5 from by decide,show ¬ (7:Int)=6 from by decide,or_false,if_false,if_true] at h
 by_cases hr:ranged q.n 0 1099511627776=true
 · exact aL.1 hr
 · rw [if_neg hr] at h; cases h
def rcP (E rev:Int):Nat→Array Value
 | 0=>#[.int .i64 0,.int .i64 0]
 | _=>#[.int .i64 E,.int .i64 rev]
def dcP (D:aW) (dx:fP):Nat→Array Value
 | 0=>#[.int .i64 0,.int .i64 0,.slice none 0 0,.slice none 0 0,.slice none 0 0,.slice none 0 0,.slice none 0 0,.slice none 0 0]
 | 1=>#[.int .i64 0,.int .i64 0,.slice none 0 0,.slice none 0 0,.slice none 0 0,.slice none 0 0,.slice none 0 0,.slice none 0 0]
 | _=>dC D dx
def In (V:Nat) (st1:ah) (E:Int) (D:aW) (dx:fP) (ch:Bool):Nat→Value→Prop
 | 0,u=>u = .int .i64 E
 | 1,u=>u = .pointer (some ⟨V,0,none⟩)
 | 2,u=>u = .pointer (some ⟨V,0,none⟩)
 | 3,u=>u = .pointer (some ⟨V,0,none⟩)
 | 4,u=>u = .pointer (some ⟨V,0,none⟩)
 | 5,u=>u = .int .i64 st1.rev
 | 6,u=>u = .agg #[.int .i64 E,.int .i64 st1.rev]
 | 7,u=>u = .agg #[.int .i64 D.from_,.int .i64 D.to_,.slice dx.aj dx.nj dx.cj,.slice dx.an dx.nn dx.cn,.slice dx.al dx.nl dx.cl,.slice dx.agj dx.ngj dx.cgj,.slice dx.agn dx.ngn dx.cgn,.slice dx.agl dx.ngl dx.cgl]
 | 8,u=>u = .bool ch
 | 11,u=>u = .bool ch
 | _,_=>True
end Go.Proofs.YtbllgmociapjeaaGreatDoor
/- req.Check at the kinds without a part, and at no kind; req.Check at any request. -/
namespace Go.Proofs.YtbllgmociapjeaaGreatDoor
open Go.Lib (hid)
open Go.RowKit
theorem CP (q:aF) (w:World) (hq:q.kind=8):Calls Tryz.prog 56 #[bH q] w fun e w'=>e = .returned (.iface 183 (.agg #[]))∧Below w.heap.size w w':=by
 obtain⟨W,hW⟩:∃ W,w.alloc (.cells (aN q) 38)=W:=⟨_,rfl⟩
 have hb:Blk W w.heap.size 38 (aN q):=by rw [← hW]; exact heap_alloc_new w _
 have hbW:Below w.heap.size w W:=by rw [← hW]; exact (Below.refl _ _).alloc (Nat.le_refl _) _
 have h0:W.cell? ⟨w.heap.size,0,none⟩=some (.int .i64 8):=by rw [hb.cell 0,← hq]; rfl
 have HbW:=hid hbW
 unfold bH
 unfold aN at hW ⊢
 clear hq hb hbW
 go_enter Tryz.func56,Tryz.ntmps56
 go_wp2
 try rw [hW]
 clear hW
 go_ret
 exact⟨rfl,HbW.out⟩
theorem CQ (q:aF) (w:World) (hq:q.kind=9):Calls Tryz.prog 56 #[bH q] w fun e w'=>e = .returned (.iface 183 (.agg #[]))∧Below w.heap.size w w':=by
 obtain⟨W,hW⟩:∃ W,w.alloc (.cells (aN q) 38)=W:=⟨_,rfl⟩
 have hb:Blk W w.heap.size 38 (aN q):=by rw [← hW]; exact heap_alloc_new w _
 have hbW:Below w.heap.size w W:=by rw [← hW]; exact (Below.refl _ _).alloc (Nat.le_refl _) _
 have h0:W.cell? ⟨w.heap.size,0,none⟩=some (.int .i64 9):=by rw [hb.cell 0,← hq]; rfl
 have HbW:=hid hbW
 unfold bH
 unfold aN at hW ⊢
 clear hq hb hbW
 go_enter Tryz.func56,Tryz.ntmps56
 go_wp2
 try rw [hW]
 clear hW
 go_ret
 exact⟨rfl,HbW.out⟩
theorem Lh (q:aF) (w:World) (hq:ranged q.kind 1 9=false):Calls Tryz.prog 56 #[bH q] w fun e w'=>e = .returned .nilIface∧Below w.heap.size w w':=by
 obtain⟨W,hW⟩:∃ W,w.alloc (.cells (aN q) 38)=W:=⟨_,rfl⟩
 have hb:Blk W w.heap.size 38 (aN q):=by rw [← hW]; exact heap_alloc_new w _
 have hbW:Below w.heap.size w W:=by rw [← hW]; exact (Below.refl _ _).alloc (Nat.le_refl _) _
 have h0:W.cell? ⟨w.heap.size,0,none⟩=some (.int .i64 q.kind):=hb.cell 0
 have hk:=gT.1 hq
 have d1:(q.kind == 1)=false:=beq_false_of_ne (by omega)
 have d2:(q.kind == 2)=false:=beq_false_of_ne (by omega)
 have d3:(q.kind == 3)=false:=beq_false_of_ne (by omega)
 have d4:(q.kind == 4)=false:=beq_false_of_ne (by omega)
 have d5:(q.kind == 5)=false:=beq_false_of_ne (by omega)
 have d6:(q.kind == 6)=false:=beq_false_of_ne (by omega)
 have d7:(q.kind == 7)=false:=beq_false_of_ne (by omega)
 have d8:(q.kind == 8)=false:=beq_false_of_ne (by omega)
 have d9:(q.kind == 9)=false:=beq_false_of_ne (by omega)
 have HbW:=hid hbW
 unfold bH
 unfold aN at hW ⊢
 clear hq hb hbW hk
 go_enter Tryz.func56,Tryz.ntmps56
 go_wp2
 try rw [hW]
 clear hW
 go_ret
 exact⟨rfl,HbW.out⟩
theorem Fb (p:Value) (w:World):Calls Tryz.prog 298 #[.agg #[],p] w fun e w'=>e = .returned (.tuple #[])∧Below w.heap.size w w':=by
 go_enter Tryz.func298,Tryz.ntmps298
 go_wp2
 go_end0
 exact⟨rfl,(Below.refl _ _).alloc (Nat.le_refl _) _⟩
theorem tZ (w:World):Calls Tryz.prog 297 #[.agg #[]] w (cF 0 w):=by
 go_enter Tryz.func297,Tryz.ntmps297
 go_wp2
 go_ret
 exact⟨rfl,(Below.refl _ _).alloc (Nat.le_refl _) _⟩
end Go.Proofs.YtbllgmociapjeaaGreatDoor
/- req.Check at the kinds without a part, and at no kind; req.Check at any request. -/
namespace Go.Proofs.YtbllgmociapjeaaGreatDoor
open Go.Lib (hid)
open Go.RowKit
theorem nH (q:aF) (w:World):Calls Tryz.prog 86 #[.int .i64 q.kind,.iface 183 (.agg #[])] w fun e w'=>e = .returned (bH (eI q.kind))∧Below w.heap.size w w':=
 lg q.kind _ _ 298 _ w (fun _=>by kernel_rfl) (fun _ _=>by kernel_rfl) (fun W S hb hS hs=>(Fb _ W).mono fun e w' h=>⟨h.1,hs.below h.2 hs.lt,fun g hg _=>h.2.block g hg,h.2.mono (Nat.le_of_lt hs.lt)⟩)
theorem Io (q:aF) (w:World) (hq:q.kind=8):Calls Tryz.prog 54 #[bH q] w (cF (cu q) w):=by
 refine gA q (eI q.kind) w 183 297 0 (fun v _=>v = .agg #[]) (fun _ _ _ h _=>h) ?_ (nG (by rw [hq]; rfl) (by unfold iK; simp [hq,eI]) (by unfold bR; simp [hq])) (fun w=>(CP q w hq).mono fun e w' h=>⟨_,h.1,rfl,h.2⟩) ?_ ?_ ?_ ?_
 · exact fun _ _=>rfl
 · rintro v wx rfl
   exact nH q wx
 · rintro v wx rfl w'
   kernel_rfl
 · exact fun _ _=>by kernel_rfl
 · rintro v wy rfl hb
   exact tZ wy
theorem Ip (q:aF) (w:World) (hq:q.kind=9):Calls Tryz.prog 54 #[bH q] w (cF (cu q) w):=by
 refine gA q (eI q.kind) w 183 297 0 (fun v _=>v = .agg #[]) (fun _ _ _ h _=>h) ?_ (nG (by rw [hq]; rfl) (by unfold iK; simp [hq,eI]) (by unfold bR; simp [hq])) (fun w=>(CQ q w hq).mono fun e w' h=>⟨_,h.1,rfl,h.2⟩) ?_ ?_ ?_ ?_
 · exact fun _ _=>rfl
 · rintro v wx rfl
   exact nH q wx
 · rintro v wx rfl w'
   kernel_rfl
 · exact fun _ _=>by kernel_rfl
 · rintro v wy rfl hb
   exact tZ wy
theorem Iq (q:aF) (w:World) (hq:ranged q.kind 1 9=false):Calls Tryz.prog 54 #[bH q] w (cF (cu q) w):=by
 obtain⟨W,hW⟩:∃ W,w.alloc (.cells (aN q) 38)=W:=⟨_,rfl⟩
 have hb:Blk W w.heap.size 38 (aN q):=by rw [← hW]; exact heap_alloc_new w _
 have hbW:Below w.heap.size w W:=by rw [← hW]; exact (Below.refl _ _).alloc (Nat.le_refl _) _
 have HPt:=hid (Lh q W hq)
 have hre:cu q=1:=by unfold cu; rw [if_pos hq]
 rw [hre]
 obtain⟨c0,c1,c2,c3,c4,c5,c6,c7,c8,c9,c10,c11,c12,c13⟩:=Blk.c14 (hb)
 have hlt:=hb.lt
 have HbW:=hid hbW
 have HW:=hid hW
 clear hb hbW hre hW hq
 unfold bH at HPt ⊢
 unfold aN at HPt ⊢
 unfold aN at HW
 have hn:∀ (w:World),(binOp .eql 130 .nilIface .nilIface).run Tryz.prog w = .ok (.bool true) w:=fun _=>rfl
 go_enter Tryz.func54,Tryz.ntmps54
 go_wp2_with fail
 try simp only [HW.out]
 clear HW
 refine Calls.mono HPt.out ?_
 rintro e w1 ⟨rfl,hb1⟩
 have bI:=hid (show cF 1 w (.returned (.int .i64 1)) w1 from ⟨rfl,HbW.out.trans (hb1.mono HbW.out.size)⟩)
 clear hb1 HPt c0 c1 c2 c3 c4 c5 c6 c7 c8 c9 c10 c11 c12 c13 hlt
 go_wp2
 go_ret
 exact bI.out
theorem cE (q:aF) (w:World) (hok:ROk q) (hT:Tabs w):Calls Tryz.prog 54 #[bH q] w (cF (cu q) w):=by
 cases hr:ranged q.kind 1 9 with
 | false=>exact Iq q w hr
 | true=>
  obtain⟨h1,h2⟩:=aL.1 hr
  have:q.kind=1∨q.kind=2∨q.kind=3∨q.kind=4∨q.kind=5∨q.kind=6∨q.kind=7∨q.kind=8∨q.kind=9:=by omega
  rcases this with h | h | h | h | h | h | h | h | h
  · exact G5 q w h hok hT
  · exact G6 q w h hok hT
  · exact G8 q w h hok hT
  · exact G9 q w h hok hT
  · exact G7 q w h hok hT
  · exact Hu q w h hok hT
  · exact HU q w h hok hT
  · exact Io q w h
  · exact Ip q w h
end Go.Proofs.YtbllgmociapjeaaGreatDoor
