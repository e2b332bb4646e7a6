/- Of the proof of a statement: ButFd, SdE, DoD, WServeL. -/
import Derived.Test.YtoeejfhdjmkpcaaGreatDoorTBetween
import Derived.Test.YtoeejfhdjmkpcaaGreatDoorTGrant
import Derived.Test.YtoeejfhdjmkpcaaGreatDoorTRcE
set_option linter.unusedVariables false
set_option linter.unusedSimpArgs false
set_option maxRecDepth 100000
set_option maxHeartbeats 8000000
/- Rows that begin with a text do not lie in a feed's block. -/
namespace Go.Proofs.YtoeejfhdjmkpcaaGreatDoor
open Go.Lib (hid)
open Go.RowKit
theorem aW.qh {W w2:World} {B g sz n:Nat} {rest:ByteArray} {a st:Int} {A:Option Addr} {xs:List Value} (h:aW W B sz A n xs) (hb:iq W g rest a st) (h0:0<n→∃ s,xs[0]? = some (.string s)) (h1:0<n→∃ (j:Nat) (u:Value),xs[j]? = some u∧(#[.string rest,.int .i64 a,.int .i64 st]:Array Value)[j]? ≠ some u)
 (hg:W.grownBy w2 (some g)):aW w2 B sz A n xs:=
 ⟨h.len,fun hn=>by
  obtain⟨b,off,e,hB,hr⟩:=h.at_ hn
  obtain⟨s,hs⟩:=h0 hn
  obtain⟨j,u,hu,hne⟩:=h1 hn
  have c0:=hr 0 _ hs
  have cj:=hr j _ hu
  have hbg:b≠g:=fun e=>by
   subst e
   rw [Blk.cell hb] at c0 cj
   have ho:off=0:=by
    rcases off with _ | _ | _ | off
    · rfl
    · simp at c0
    · simp at c0
    · simp at c0
   subst ho
   rw [Nat.zero_add] at cj
   exact hne cj
  exact⟨b,off,e,hB,fun j u hu=>hg.cell (hr j u hu) (fun e=>hbg (by simpa using e))⟩⟩
theorem xQ {α:Type} {enc:α→List Value} {l:List α} {n:Nat} (h:l.length=n) (hn:0<n):∃ a,∀ (j:Nat) u,(enc a)[j]? = some u→(au enc l)[j]? = some u:=by
 cases l with
 | nil=>simp at h; omega
 | cons a l=>
  refine⟨a,fun j u hu=>?_⟩
  obtain⟨hlt,_⟩:=List.getElem?_eq_some_iff.1 hu
  unfold au
  rw [List.flatMap_cons,List.getElem?_append_left hlt]; exact hu
theorem StAt.qh {W w2:World} {B g:Nat} {rest:ByteArray} {a st:Int} {s:ah} {x:StA} (h:StAt W B s x) (hb:iq W g rest a st) (hg:W.grownBy w2 (some g)):StAt w2 B s x:=
 ⟨h.j.qh hb (qN h.lj) (fun hn=>by obtain⟨a,ha⟩:=xQ (enc:=aL) h.lj hn; exact⟨3,_,ha 3 _ rfl,by simp⟩) hg,
  h.n.qh hb (oK h.ln) (fun hn=>by obtain⟨a,ha⟩:=xQ (enc:=aC) h.ln hn; exact⟨2,_,ha 2 _ rfl,by simp⟩) hg,
  h.l.qh hb (mO h.ll) (fun hn=>by obtain⟨a,ha⟩:=xQ (enc:=av) h.ll hn; exact⟨1,_,ha 1 _ rfl,by simp⟩) hg,
  h.lj,h.ln,h.ll,h.bj,h.bn,h.bl,h.oj,h.on_,h.ol⟩
end Go.Proofs.YtoeejfhdjmkpcaaGreatDoor
/- The end of a server's Do, in the program and in the reference: what has been made is stored. -/
namespace Go.Proofs.YtoeejfhdjmkpcaaGreatDoor
open Go.Lib (hid)
open Go.RowKit
abbrev zD:aX:=⟨0,0,[],[],[],[],[],[]⟩
abbrev zA:fH:=⟨none,0,0,none,0,0,none,0,0,none,0,0,none,0,0,none,0,0⟩
theorem rK {l:List ByteArray} {n:Nat} (h:l.length=n) (hn:0<n):∃ s,(au lC l)[0]? = some (.string s):=by
 match l,h with
 | [],h=>simp at h; omega
 | a :: l,_=>exact⟨a,rfl⟩
theorem kZ (d:aX) (x:fH):iI (dC d x):=ku (by
 intro v hv s
 simp only [dC,List.mem_toArray,List.mem_cons,List.not_mem_nil,or_false] at hv
 rcases hv with rfl | rfl | rfl | rfl | rfl | rfl | rfl | rfl <;> simp)
theorem dQ.gG {w w':World} {B g:Nat} {t:TypeId} {cs:Array Value} {d:aX} {x:fH} (h:dQ w B d x) (hb:Blk w g t cs) (hc:iI cs) (hg:w.grownBy w' (some g)):dQ w' B d x:=
 ⟨h.j.gG hb hc (qN h.lj) hg,h.n.gG hb hc (oK h.ln) hg,h.l.gG hb hc (mO h.ll) hg,h.gj.gG hb hc (rK h.lgj) hg,h.gn.gG hb hc (rK h.lgn) hg,h.gl.gG hb hc (rK h.lgl) hg,
  h.lj,h.ln,h.ll,h.lgj,h.lgn,h.lgl,h.bj,h.bn,h.bl,h.bgj,h.bgn,h.bgl,h.oj,h.on_,h.ol,h.ogj,h.ogn,h.ogl⟩
theorem dQ.drew {w:World} {B:Nat} {d:aX} {x:fH} (h:dQ w B d x):dQ w.drew B d x:=
 ⟨h.j.drew,h.n.drew,h.l.drew,h.gj.drew,h.gn.drew,h.gl.drew,h.lj,h.ln,h.ll,h.lgj,h.lgn,h.lgl,h.bj,h.bn,h.bl,h.bgj,h.bgn,h.bgl,h.oj,h.on_,h.ol,h.ogj,h.ogn,h.ogl⟩
theorem dQ.upS {w w':World} {d:aX} {x:fH} (h:dQ w w.heap.size d x) (hb:Below w.heap.size w w'):dQ w' w'.heap.size d x:=(h.below hb).more hb.size
theorem wH {w0 a b:World} {V g:Nat} (h:w0.grownBy a (some V)) (hg:a.grownBy b (some g)) (hn:w0.heap.size≤g):w0.grownBy b (some V):=
 ⟨hg.os.trans h.os,hg.tape.trans h.tape,hg.output.trans h.output,Nat.le_trans h.size hg.size,fun k hk hne=>(hg.block k (Nat.lt_of_lt_of_le hk h.size) (by simp; omega)).trans (h.block k hk hne)⟩
theorem grown_of {w0 a:World} (V:Nat) (h:Below w0.heap.size w0 a):w0.grownBy a (some V):=
 ⟨h.os,h.tape,h.output,h.size,fun k hk _=>h.block k hk⟩
structure SdE (T:TypeId) (w0:World) (V DD:Nat) (st1:ah) (x1:StA) (uX:Int) (D:aX) (dx:fH) (rc dc:Array Value) (w:World):Prop where
 v:Blk w V T (sV st1 x1 uX)
 at_:StAt w w.heap.size st1 x1
 del:dQ w w.heap.size D dx
 db:Blk w DD 45 (dC D dx)
 r:Blk w (w0.heap.size+1) 42 rc
 d:Blk w (w0.heap.size+2) 45 dc
 gr:w0.grownBy w (some V)
 lt:V<w0.heap.size
 dd:w0.heap.size+3≤DD
section
variable {T:TypeId} {w0 w w':World} {V DD:Nat} {st1:ah} {x1:StA} {uX:Int} {D:aX} {dx:fH} {rc dc rc' dc':Array Value}
theorem SdE.drew (h:SdE T w0 V DD st1 x1 uX D dx rc dc w):SdE T w0 V DD st1 x1 uX D dx rc dc w.drew:=
 ⟨h.v,h.at_.drew,h.del.drew,h.db,h.r,h.d,⟨h.gr.os,h.gr.tape,h.gr.output,h.gr.size,h.gr.block⟩,h.lt,h.dd⟩
theorem SdE.AK (h:SdE T w0 V DD st1 x1 uX D dx rc dc w) (hn:iI rc) (hg:w.grownBy w' (some (w0.heap.size+1))) (hb:Blk w' (w0.heap.size+1) 42 rc'):SdE T w0 V DD st1 x1 uX D dx rc' dc w':=by
 have h1:=h.lt
 have h2:=h.dd
 exact⟨aF hg h.v (by omega),(h.at_.gG h.r hn hg).more hg.size,(h.del.gG h.r hn hg).more hg.size,aF hg h.db (by omega),hb,aF hg h.d (by omega),wH h.gr hg (by omega),h.lt,h.dd⟩
theorem SdE.AL (h:SdE T w0 V DD st1 x1 uX D dx rc dc w) (hn:iI dc) (hg:w.grownBy w' (some (w0.heap.size+2))) (hb:Blk w' (w0.heap.size+2) 45 dc'):SdE T w0 V DD st1 x1 uX D dx rc dc' w':=by
 have h1:=h.lt
 have h2:=h.dd
 exact⟨aF hg h.v (by omega),(h.at_.gG h.d hn hg).more hg.size,(h.del.gG h.d hn hg).more hg.size,aF hg h.db (by omega),aF hg h.r (by omega),hb,wH h.gr hg (by omega),h.lt,h.dd⟩
theorem SdE.IR (h:SdE T w0 V DD st1 x1 uX D dx rc dc w) (m:Int):SdE T w0 V DD st1 x1 m D dx rc dc (w.setCell ⟨V,4,none⟩ (.int .i64 m)):=by
 have h1:=h.lt
 have h2:=h.dd
 have hg:=bH w V 4 (.int .i64 m)
 exact⟨Blk.eq (h.v.set 4 _) rfl,(h.at_.gG h.v (lK _ _ _) hg).more hg.size,(h.del.gG h.v (lK _ _ _) hg).more hg.size,aF hg h.db (by omega),aF hg h.r (by omega),aF hg h.d (by omega),jq h.gr hg,h.lt,h.dd⟩
theorem SdE.end_ (h:SdE T w0 V DD st1 x1 uX D dx rc dc w) {st:ah} {R:oC} (h1:R.st=st1) (h2:R.now=uX) (h3:D=if R.ch=true then eQ st R.st else zD):jP T V st R w0 (.returned (.tuple #[.agg #[.int .i64 R.e,.int .i64 R.st.rev],.agg (dC D dx),.bool R.ch])) w:=
 ⟨D,dx,x1,rfl,h3,h.del,by rw [h1,h2]; exact h.v,by rw [h1]; exact h.at_,h.gr⟩
end
theorem eu {st:ah} (h:aG st=0):lB st.jobs∧jR st.nodes∧iS st.leases:=by
 obtain⟨_,_,h3,h4,h5,_⟩:=bO.1 h
 refine⟨fun j hj=>?_,fun n hn=>?_,fun l hl=>?_⟩
 · have hz:=iJ (iO h3 hj)
   have:=eB hz.1
   have:=jc hz.2.1
   omega
 · have hz:=pB (iO h4 hn)
   have:=eB hz.1
   have:=jc hz.2.1
   omega
 · have hz:=iO h5 hl
   unfold gC at hz
   split at hz
   · rename_i hb
     simp only [Bool.and_eq_true] at hb
     obtain⟨j,hj⟩:=Option.isSome_iff_exists.1 hb.1
     obtain⟨n,hn⟩:=Option.isSome_iff_exists.1 hb.2
     have ej:j.name=l.job:=by simpa using List.find?_some hj
     have en:n.name=l.node:=by simpa using List.find?_some hn
     have hj2:=eB (iJ (iO h3 (List.mem_of_find?_eq_some hj))).1
     have hn2:=eB (pB (iO h4 (List.mem_of_find?_eq_some hn))).1
     rw [ej] at hj2
     rw [en] at hn2
     omega
   · omega
theorem mH {q:aH} (h:bK q=0):1≤q.kind∧q.kind≤9∧(q.kind=7→0≤q.n∧q.n≤1099511627776):=by
 unfold bK at h
 split at h
 · cases h
 rename_i hr
 split at h
 · cases h
 have hk:1≤q.kind∧q.kind≤9:=by
  cases h1:ranged q.kind 1 9 with
  | false=>exact absurd h1 hr
  | true=>exact bB.1 h1
 refine⟨hk.1,hk.2,fun hk=>?_⟩
 unfold cN at h
 rw [hk] at h
 simp only [show ¬ (7:Int)=1 from by decide,show ¬ (7:Int)=2 from by decide,show ¬ (7:Int)=3 from by decide,show ¬ (7:Int)=4 from by decide,show ¬ (7:Int)=5 from by decide,show ¬ (7:Int)=6 from by decide,or_false,if_false,if_true] at h
 by_cases hr:ranged q.n 0 1099511627776=true
 · exact bB.1 hr
 · rw [if_neg hr] at h; cases h
def rcP (E rev:Int):Nat→Array Value
 | 0=>#[.int .i64 0,.int .i64 0]
 | _=>#[.int .i64 E,.int .i64 rev]
def dcP (D:aX) (dx:fH):Nat→Array Value
 | 0=>#[.int .i64 0,.int .i64 0,.slice none 0 0,.slice none 0 0,.slice none 0 0,.slice none 0 0,.slice none 0 0,.slice none 0 0]
 | 1=>#[.int .i64 0,.int .i64 0,.slice none 0 0,.slice none 0 0,.slice none 0 0,.slice none 0 0,.slice none 0 0,.slice none 0 0]
 | _=>dC D dx
def Fk (V:Nat) (st1:ah) (E:Int) (D:aX) (dx:fH) (ch:Bool):Nat→Value→Prop
 | 0,u=>u = .int .i64 E
 | 1,u=>u = .pointer (some ⟨V,0,none⟩)
 | 2,u=>u = .pointer (some ⟨V,0,none⟩)
 | 3,u=>u = .pointer (some ⟨V,0,none⟩)
 | 4,u=>u = .pointer (some ⟨V,0,none⟩)
 | 5,u=>u = .int .i64 st1.rev
 | 6,u=>u = .agg #[.int .i64 E,.int .i64 st1.rev]
 | 7,u=>u = .agg #[.int .i64 D.from_,.int .i64 D.to_,.slice dx.aj dx.nj dx.cj,.slice dx.an dx.nn dx.cn,.slice dx.al dx.nl dx.cl,.slice dx.agj dx.ngj dx.cgj,.slice dx.agn dx.ngn dx.cgn,.slice dx.agl dx.ngl dx.cgl]
 | 8,u=>u = .bool ch
 | 11,u=>u = .bool ch
 | _,_=>True
end Go.Proofs.YtoeejfhdjmkpcaaGreatDoor
/- (*work).do at the grant; do at every kind. -/
namespace Go.Proofs.YtoeejfhdjmkpcaaGreatDoor
open Go.Lib (hid)
open Go.RowKit
theorem do_5 (base:Nat) (st:ah) (x:StA) (N WK:Nat) (now:Int) (q:aH) (w:World) (h:vg w base st x N WK now) (hq:q.kind=5) (hT:rT base w) (htr:∀ j ∈ st.jobs,0≤j.tries∧j.tries≤100) (hok:q.lease.job.size≤9223372036854775807∧q.lease.node.size≤9223372036854775807) :
 Calls Tryz.prog 45 #[.pointer (some ⟨WK,0,none⟩),bP q] w (fK base N WK (fR st now q.lease) w):=by
 obtain⟨W,hW⟩:∃ W,(w.alloc (.cells #[.pointer (some ⟨WK,0,none⟩)] 111)).alloc (.cells (aB q) 40)=W:=⟨_,rfl⟩
 have hbW:Below w.heap.size w W:=by rw [← hW]; exact ((Below.refl _ _).alloc (Nat.le_refl _) _).alloc (by simp) _
 have hbp:Blk W w.heap.size 111 #[.pointer (some ⟨WK,0,none⟩)]:=by rw [← hW]; exact Blk.alloc (show Blk _ _ _ _ from heap_alloc_new w _) _
 have hqb:Blk W (w.heap.size+1) 40 (aB q):=by
  rw [← hW]
  have:=heap_alloc_new (w.alloc (.cells #[.pointer (some ⟨WK,0,none⟩)] 111)) (.cells (aB q) 40)
  rwa [show (w.alloc (.cells #[.pointer (some ⟨WK,0,none⟩)] 111)).heap.size=w.heap.size+1 by simp] at this
 have hw:=h.w.below hbW
 have hk0:W.cell? ⟨w.heap.size+1,0,none⟩=some (.int .i64 5):=by rw [hqb.cell 0,← hq]; rfl
 have q9:W.cell? ⟨w.heap.size+1,9,none⟩=some (.string q.lease.job):=hqb.cell 9
 have q10:W.cell? ⟨w.heap.size+1,10,none⟩=some (.string q.lease.node):=hqb.cell 10
 have q11:W.cell? ⟨w.heap.size+1,11,none⟩=some (.int .i64 q.lease.till):=hqb.cell 11
 have bp0:W.cell? ⟨w.heap.size,0,none⟩=some (.pointer (some ⟨WK,0,none⟩)):=hbp.cell 0
 have HG:=hid (Ck base st x N WK now q.lease W ⟨hw,h.nj,h.nn,h.nl,h.oj,h.on_,h.ol,h.sj,h.sn,h.sl⟩ (hT.next (hbW.mono h.w.bs)) htr hok)
 have HbW:=hid (hbW.mono h.w.bs)
 clear hbW hbp hqb hw h hq hT htr
 unfold bP
 unfold aB at hW ⊢
 obtain⟨R,hR⟩:∃ R,fR st now q.lease=R:=⟨_,rfl⟩
 rw [hR] at HG ⊢
 clear hR
 go_enter Tryz.func45,Tryz.ntmps45
 go_wp2_with fail
 try rw [hW]
 clear hW
 refine Calls.mono HG.out ?_
 rintro e w5 ⟨rfl,hb5,hk5⟩
 have aR:=hid (show fK base N WK R w (.returned (.int .i64 R.1)) w5 from ⟨rfl,HbW.out.trans hb5,hk5⟩)
 clear hb5 hk5 HG
 go_wp2
 go_ret
 exact aR.out
structure QOk (q:aH):Prop where
 j:q.job.name.size≤9223372036854775807∧q.job.tag.size≤9223372036854775807
 n:q.node.name.size≤9223372036854775807∧q.node.zone.size≤9223372036854775807
 l:q.lease.job.size≤9223372036854775807∧q.lease.node.size≤9223372036854775807
theorem xP (base:Nat) (st:ah) (x:StA) (N WK:Nat) (now:Int) (q:aH) (w:World) (h:vg w base st x N WK now) (hT:rT base w) (htr:∀ j ∈ st.jobs,0≤j.tries∧j.tries≤100) (hok:QOk q) (hk:1≤q.kind) (hn0:0≤now) (hn1:now≤1099511627776) (hq0:q.kind=7→0≤q.n∧q.n≤1099511627776) :
 Calls Tryz.prog 45 #[.pointer (some ⟨WK,0,none⟩),bP q] w (fK base N WK (doR st now q) w):=by
 unfold doR
 split
 · exact do_1 base st x N WK now q w h ‹_› hok.j hT
 split
 · exact do_2 base st x N WK now q w h ‹_› hok.n hT
 split
 · exact do_3 base st x N WK now q w h ‹_›
 split
 · exact do_4 base st x N WK now q w h ‹_›
 split
 · exact do_5 base st x N WK now q w h ‹_› hT htr hok.l
 split
 · exact do_6 base st x N WK now q w h ‹_›
 split
 · exact do_7 base st x N WK now q w h ‹_› hn0 hn1 (hq0 ‹_›).1 (hq0 ‹_›).2
 · exact do_8 base st x N WK now q w h (by omega)
end Go.Proofs.YtoeejfhdjmkpcaaGreatDoor
/- Words for the walks of laws that ask a server. -/
namespace Go.Proofs.YtoeejfhdjmkpcaaGreatDoor
open Go.Lib (hid)
open Go.RowKit
theorem IV {q:aH} (h:qF q):ROk q:=⟨h.job.1,h.job.2.2.2.2,h.node.1,h.node.2.2,h.lease.1,h.lease.2.1,h.name⟩
theorem xR {ops:Array Oper} {o p:Oper} {a:Act} {j t:Nat} {b:Bool} (h1:ops[j]? = some p) (h2:p.dst=some t) (h3:a.tmps[t]? = some (.bool b)) (h4:o.guard=some (j,b)):Region.wanted o (yielded ops a.tmps)=true:=by
 unfold Region.wanted yielded
 rw [h4]
 simp only [h1,Option.bind_some,h2,h3]
 cases b <;> rfl
theorem Bk {P:Program} {ops:Array Oper} {o p:Oper} {a:Act} {w:World} {j t:Nat} (b:Bool) {K:Act→World→Prop} {Q:Exit→Act→World→Prop} (h1:ops[j]? = some p) (h2:p.dst=some t) (h4:o.guard=some (j,b)) (h3:∃ u,a.tmps[t]? = some u∧u = .bool b) (ht:o.wp P a w K Q):mF P ops o a w K Q:=by
 obtain⟨u,h3,rfl⟩:=h3
 unfold mF
 rw [xR h1 h2 h3 h4,if_pos rfl]
 exact ht
theorem okR {Γ:Type} {P:Program} {ops:Array Oper} {V:Γ→Nat→Value→Prop} {a0:Act} {S:List Nat} {Ph:Nat→Γ→World→Prop} {Q:Exit→Act→World→Prop} {i:Nat} {o p0:Oper} (b:Bool) (j t:Nat) (h1:ops[j]? = some p0) (h2:p0.dst=some t) (hg:o.guard=some (j,b)) (hv:∀ γ u,V γ j u→u = .bool b)
 (h:∀ p γ a w,0≤p→p≤0→Ph p γ w→Knows ops (V γ) a0 i o a→o.wp P a w (fun a' w'=>∃ u γ',a'=a.put o.dst u∧(∀ j v,j≠i→V γ j v→V γ' j v)∧V γ' i u∧Ph p γ' w') Q)
 (h0:i ∉ S:=by decide) (hl:loB S o 0=true:=by decide +kernel) (hh:hiB ops S i 0=true:=by decide +kernel) (h3:waitsFor o j=true:=by decide +kernel):uM P ops V S Ph a0 Q i o:=
 .inr ⟨h0,0,0,hl,hh,fun p γ a w hpl hph hp hk=>Bk b h1 h2 hg (by obtain⟨u,hu,hV⟩:=hk.g j t h1 h2 h3; exact⟨u,hu,hv γ u hV⟩) (h p γ a w hpl hph hp hk)⟩
theorem SrvAt.drew {w:World} {T:TypeId} {B:Nat} {st:ah} {x:StA} {now:Int} (h:SrvAt w T B st x now):SrvAt w.drew T B st x now:=⟨h.blk,h.at_.drew,h.ok,h.t⟩
end Go.Proofs.YtoeejfhdjmkpcaaGreatDoor
