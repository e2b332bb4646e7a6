/- Of the proof of a statement: Frm, LawBTopAgain, EqFrm, PlFrs, FrsR, PushFeed, ReqQ, ArgSt. -/
import Derived.Test.YtoeejfhdjmkpcaaGreatDoorRows
import Derived.WalkKit
import Derived.ProofKit
import Derived.OpenShut
import Derived.ShutString
import Derived.ChangeOld
import Derived.Below
import Derived.Lib.SmallJoins
import Derived.Test.YtoeejfhdjmkpcaaGreatDoorCards
import Derived.Test.YtoeejfhdjmkpcaaGreatDoorTie
import Derived.Deep.DeepHandedRow
import Derived.Deep.DeepWitnessRowRef
import Derived.Lib.LaidIn
import Derived.Conc.Holds
import Derived.Leaving
import Derived.Deep.QuietTactic
import Derived.BigQuiet
import Derived.Lib.QuietBelow
import Derived.Deep.Slices
import Derived.Test.YtoeejfhdjmkpcaaGreatDoorTDoA
import Derived.Test.YtoeejfhdjmkpcaaGreatDoorTFrmDec
set_option linter.unusedVariables false
set_option linter.unusedSimpArgs false
set_option maxRecDepth 100000
set_option maxHeartbeats 8000000
/- What every law's frame uses: the program's fixed facts, and bounds out of well-formed integers. -/
namespace Go.Proofs.YtoeejfhdjmkpcaaGreatDoor
open Go.Lib (hid)
theorem own:ownKnob Tryz.prog.godebug=none:=by kernel_rfl
theorem laidOut:laidOutB Tryz.prog = true:=by kernel_rfl
theorem eA {n:Int} (h:(Lit.int .i64 n).wf=true) : -9223372036854775808≤n∧n≤9223372036854775807:=by
 simp only [Lit.wf,IntKind.min,IntKind.max,IntKind.signed,IntKind.bits,Bool.and_eq_true,decide_eq_true_eq,if_true] at h
 omega
end Go.Proofs.YtoeejfhdjmkpcaaGreatDoor
/- The closed facts of the statement TopAgain: what the listed variables hold, a world for the witness, the facts of the row and of its card. -/
namespace Go.Proofs.YtoeejfhdjmkpcaaGreatDoor.topAgainLaw
open Go.Lib (hid)
open Go.ChangeShapes Go.WideShapes Go.ChangeAt Go.RowKit Go.Lib
open Go.ChangeMaps (open_string shut_string)
set_option linter.unusedVariables false
theorem Bm : Rows.topAgainRow.laid = [("unicode/utf8.acceptRanges", Lib.acceptData), ("unicode/utf8.first", Lib.firstData)] := by kernel_rfl
noncomputable def qJ (os:Os):World:=
 let w0:=World.holding Tryz.prog os ⟨#[],#[],[]⟩
 let put (h:Array Obj) (g:Nat) (cs:Array Value):Array Obj:=h.modify g fun
  | .cells _ t frozen=>.cells cs t frozen
  | o=>o
 let h1:=put w0.heap 0 (Lib.firstTab.map fun z=>Value.int .u8 z).toArray
 let h2:=put h1 1 ((List.range 16).flatMap fun i=>[Value.int .u8 (Lib.accLo i),Value.int .u8 (Lib.accHi i)]).toArray
 { w0 with heap:=h2 }
theorem Db (os:Os):laidMet Tryz.prog Rows.topAgainRow.laid ((qJ os).forCall (fun _ _=>0) ⟨#[],#[.agg #[.int .i64 0,.slice none 0 0,.slice none 0 0,.slice none 0 0],.slice none 0 0],[]⟩).memory:=by
 rw [Bm]
 exact (LaidIn.of_run (l := [("unicode/utf8.acceptRanges", Lib.acceptData), ("unicode/utf8.first", Lib.firstData)]) [1, 0] 8 (by kernel_rfl) (by kernel_rfl) (by kernel_rfl) (by kernel_rfl)).met
theorem reads (os:Os) {H:Type} (enc:TypeId × Value→H):∃ places,DataW.whole enc Tryz.prog ((qJ os).forCall (fun _ _=>0) ⟨#[],#[.agg #[.int .i64 0,.slice none 0 0,.slice none 0 0,.slice none 0 0],.slice none 0 0],[]⟩).memory Tryz.f3.params.toList Rows.topAgainSpec.vars false #[.agg #[.int .i64 0,.slice none 0 0,.slice none 0 0,.slice none 0 0],.slice none 0 0].toList 8=some ([.agg [.lit (.int .i64 0),.nil,.nil,.nil],.nil],[],places):=
 ⟨[],by kernel_rfl⟩
theorem HM {a b:Bool} (h:a=true) (k:b=true):(a && b)=true:=by rw [h,k]; rfl
/- The closed facts, each weighed in a declaration of its own: the program is great. -/
theorem closed:joinedFacts Tryz.prog 3 Tryz.f3 (OpenSpec.ofChange Rows.topAgainSpec).bare Rows.topAgainRow=true:=by
 unfold joinedFacts
 with_reducible repeat' refine HM ?_ ?_
 all_goals as_aux_lemma=>kernel_rfl
theorem pH {a:Assume} {C:Checked} {os:Os} {f:FuncId} {r:Reach} {Pre:World→Array Value→Prop} {Post:World→Array Value→Value→World→Prop} (h:ReturnsInHanded a C os f r Pre Post):ReturnsInLeavingWide a C os f r Pre Post:=
 fun e=>ReturnsInOpen.mono (fun _ _ _ x=>⟨x.2.1,onlyLeaving_of_quiet x.1,x.2.2⟩) (fun _ x=>x) (h e)
theorem BL (Lk:Looks) {p:Pinned} {s:OpenSpec} {c:OpenClaim} (kinds:List LaidKind) (tests:Bool) (har:Bool × String) (lk:Bool)
 (hc:c.holds p s) (hw:c.wfByText s=true) (htie:c.laidByTextAt Lk p kinds tests)
 (hst:c.start = .entering) (hnb:c.noBlocks=false∧c.again=false) (hm:p.checked.prog.mainIs=some (har.1,har.2.toList)) (hn:(!har.1 && har.2.isEmpty && !lk)=false)
 (hl:∀ f fn,p.checked.prog.funcNamed c.func=some f→p.checked.prog.funcs[f]? = some fn→lk=p.checked.prog.looks []∧∀ (j:Nat) t,fn.params[j]? = some t→p.checked.prog.wantsStandIn t=false)
 (hg:true=c.goesBy p.checked.prog) :
 Claim7.holds p (.plain s) { stood:={ row:=c,standIns:=[],harness:=har,looks:=lk },kinds:=[],alts:=[],goes:=true,laidByText:=true,laidKinds:=kinds,laidTests:=tests,laidLooks:=Lk }:=by
 have h6:Claim7.isSixth { stood:={ row:=c,standIns:=[],harness:=har,looks:=lk },kinds:=[] }=false:=by simpa [Claim7.isSixth] using hn
 refine⟨Claim7.tied_new_at Lk kinds tests (Claim7.new_of_sixth hc har lk hst hnb hm h6 hl) hw,fun D hD=>?_,htie,(fun h=>by cases h),hg⟩
 have hD':D ∈ ([]:List (List PathCond)):=hD
 cases hD'
theorem hName : Tryz.pinned.checked.prog.funcNamed Rows.topAgainRow.func=some 3:=by kernel_rfl
theorem IX : Tryz.f3.isInstance Tryz.pinned.checked.prog Rows.topAgainRow.origin Rows.topAgainRow.targs:=of_decide_eq_true (by kernel_rfl)
theorem IY : Tryz.f3.isWrapper Tryz.pinned.checked.prog Rows.topAgainRow.wrapper Rows.topAgainRow.mainSum:=by unfold Func.isWrapper; first | (rw [if_pos (by decide +kernel)]; kernel_rfl) | (rw [if_neg (by decide +kernel)]; exact⟨rfl,rfl⟩)
theorem plain (f : FuncId) (fn : Func) (hf : Tryz.pinned.checked.prog.funcNamed "bracken/brackentop.TopAgain" = some f) (hfn : Tryz.pinned.checked.prog.funcs[f]? = some fn) :
 true = Tryz.pinned.checked.prog.looks []∧∀ (j:Nat) t,fn.params[j]? = some t → Tryz.pinned.checked.prog.wantsStandIn t=false:=by
 obtain rfl : f = 3 := Option.some.inj ((show Tryz.prog.funcNamed "bracken/brackentop.TopAgain" = some 3 by kernel_rfl).symm.trans hf) |>.symm
 obtain rfl:fn = Tryz.f3:=(Option.some.inj (Tryz.func3.symm.trans hfn)).symm
 refine⟨by kernel_rfl,fun j t ht=>?_⟩
 rw [Tryz.params3] at ht
 have hm:t = 26 ∨ t = 27:=by simpa using Array.mem_of_getElem? ht
 rcases hm with rfl | rfl
 · exact (show Tryz.prog.wantsStandIn 26 = false by kernel_rfl)
 · exact (show Tryz.prog.wantsStandIn 27 = false by kernel_rfl)
theorem hWf:Rows.topAgainRow.wfByText (OpenSpec.ofChange Rows.topAgainSpec)=true:=by kernel_rfl
theorem IZ : Tryz.pinned.checked.prog.mainIs = some (true, "559b06e263d15863621590265984a57e0c515cb79d047c62b706781e1f0bc726".toList) := by kernel_rfl
theorem I0:true=Rows.topAgainRow.goesBy Tryz.pinned.checked.prog:=by kernel_rfl
end Go.Proofs.YtoeejfhdjmkpcaaGreatDoor.topAgainLaw
/- Eq at Frame, of the same frames. -/
namespace Go.Proofs.YtoeejfhdjmkpcaaGreatDoor
open Go.Lib (hid)
open Go.RowKit
def xT (f:cY):List Value:=[.int .i64 f.ver,.int .i64 f.kind,.string f.pay]
theorem sR (f:cY):(xT f).length=3:=rfl
end Go.Proofs.YtoeejfhdjmkpcaaGreatDoor
/- Frames, one behind the other: plain. -/
namespace Go.Proofs.YtoeejfhdjmkpcaaGreatDoor
open Go.Lib (hid)
theorem zS {s:ByteArray} {f:cY} {n e:Nat} (h:gD s=(f,n,e)):(e≠0→f = .zero∧n=0)∧(e=0→9≤n∧n≤s.size):=by
 unfold gD at h
 by_cases hd:jN s=0
 · rw [if_pos hd] at h
   obtain⟨n',k,x,hr⟩:∃ n k x,rdNum (s.extract 4 s.size)=(n,k,x):=⟨_,_,_,rfl⟩
   have hf:=iH hr
   rw [hr] at h
   dsimp only at h
   by_cases hx:x=0
   · rw [if_pos hx] at h
     have h1:=(hf.2.2.2 hx).1
     by_cases hn:6000<n'
     · rw [if_pos hn] at h; cases h; exact⟨fun _=>⟨rfl,rfl⟩,fun h=>absurd h (by omega)⟩
     · rw [if_neg hn] at h
       by_cases hl:s.size<8+k+n'
       · rw [if_pos hl] at h; cases h; exact⟨fun _=>⟨rfl,rfl⟩,fun h=>absurd h (by omega)⟩
       · rw [if_neg hl] at h
         split at h
         · cases h; exact⟨fun h=>absurd rfl h,fun _=>⟨by omega,by omega⟩⟩
         · cases h; exact⟨fun _=>⟨rfl,rfl⟩,fun h=>absurd h (by omega)⟩
   · rw [if_neg hx] at h; cases h; exact⟨fun _=>⟨rfl,rfl⟩,fun h=>absurd h hx⟩
 · rw [if_neg hd] at h; cases h; exact⟨fun _=>⟨rfl,rfl⟩,fun h=>absurd h hd⟩
inductive Frs:ByteArray→List cY→Nat→Nat→Prop
 | stop {s:ByteArray} {e:Nat}:gD s=(.zero,0,e)→e≠0→Frs s [] 0 e
 | step {s:ByteArray} {f:cY} {n:Nat} {fs:List cY} {m e:Nat}:gD s=(f,n,0)→1≤n→n≤s.size→Frs (s.extract n s.size) fs m e→Frs s (f :: fs) (n+m) e
theorem Frs.all_:∀ (k:Nat) (s:ByteArray),s.size≤k→∃ fs m e,Frs s fs m e
 | k,s,hk=>by
  obtain⟨f,n,e,h⟩:∃ f n e,gD s=(f,n,e):=⟨_,_,_,rfl⟩
  obtain⟨h1,h2⟩:=zS h
  by_cases he:e=0
  · subst he
    obtain⟨h3,h4⟩:=h2 rfl
    match k,hk with
    | 0,hk=>omega
    | k+1,hk=>
     obtain⟨fs,m,e,hr⟩:=Frs.all_ k (s.extract n s.size) (by rw [ByteArray.size_extract]; omega)
     exact⟨_,_,_,.step h (by omega) h4 hr⟩
  · obtain⟨rfl,rfl⟩:=h1 he
    exact⟨_,_,_,.stop h he⟩
theorem Frs.all (s:ByteArray):∃ fs m e,Frs s fs m e:=Frs.all_ s.size s (Nat.le_refl _)
theorem Frs.facts {s:ByteArray} {fs:List cY} {m e:Nat} (h:Frs s fs m e):m≤s.size∧e≠0∧fs.length≤m:=by
 induction h with
 | stop _ he=>exact⟨Nat.zero_le _,he,Nat.le_refl _⟩
 | step _ h1 h2 _ ih=>
  rw [ByteArray.size_extract] at ih
  refine⟨by omega,ih.2.1,?_⟩
  rw [List.length_cons]; omega
end Go.Proofs.YtoeejfhdjmkpcaaGreatDoor
/- The walk of the reference Frames. -/
namespace Go.Proofs.YtoeejfhdjmkpcaaGreatDoor
open Go.Lib (hid)
open Go.RowKit
def GS:Value:=.agg #[.int .i64 0,.int .i64 0,.string ⟨#[]⟩]
theorem BM:(Tryz.prog.info? 53).map (fun i=>(i.zero,i.size,i.bytes))=some (some GS,3,32):=by kernel_rfl
theorem Dc (f:cY):∀ u ∈ xT f,u.oneCell'=true:=by
 intro u hu
 simp only [xT,List.mem_cons,List.not_mem_nil,or_false] at hu
 rcases hu with rfl | rfl | rfl <;> rfl
theorem l8 {w w':World} {base:Nat} {e:TypeId} {sz n:Nat} {v:Value} {xs:List Value} (h:w.ownsRow base e sz v n xs) (hb:Below w.heap.size w w'):w'.ownsRow base e sz v n xs:=
 h.kept (row:=none) ⟨hb.os,hb.tape,hb.output,hb.size,fun k hk _=>hb.block k hk⟩ (by
  by_cases h:v.ownBlock=none
  · exact .inl h
  · exact .inr h)
theorem Dd {s:ByteArray} {f:cY} {n e:Nat} (h:gD s=(f,n,e)) (w:World) (hs:s.size≤9223372036854775807) :
 Calls Tryz.prog 16 #[.string s] w fun x w'=>x = .returned (.tuple #[.agg #[.int .i64 f.ver,.int .i64 f.kind,.string f.pay],.int .i64 (n:Int),.int .i64 (e:Int)])∧Below w.heap.size w w':=by
 have h1:=Fu s w hs
 unfold gZ HU at h1
 rw [h] at h1
 exact h1
end Go.Proofs.YtoeejfhdjmkpcaaGreatDoor
/- The walk of Feed.Push. -/
namespace Go.Proofs.YtoeejfhdjmkpcaaGreatDoor
open Go.Lib (hid)
open Go.RowKit
def iq (w:World) (g:Nat) (rest:ByteArray) (at_:Int) (stuck:Int):Prop:=Blk w g 219 #[.string rest,.int .i64 at_,.int .i64 stuck]
def I1 (s:ByteArray) (g at0:Nat) (fs:List cY) (m e:Nat) (w:World) (out:Value) (wr:World) (k:Nat):Prop:=
 ∃ (done left:List cY) (A:Option Addr) (n c a m':Nat),fs=done ++ left∧m=a+m'∧out = .slice A n c∧n≤a∧a≤s.size∧k=s.size - a∧Frs (s.extract a s.size) left m' e∧wr.ownsRow w.heap.size 53 3 (.slice A n c) n (au xT done)∧w.grownBy wr (some g)∧iq wr g (s.extract a s.size) ((at0:Int)+(a:Int)) 0
def Fv (s:ByteArray) (g at0:Nat) (fs:List cY) (m e:Nat) (w:World) (x:Ending) (w':World):Prop:=
 ∃ A n c,x = .returned (.tuple #[.slice A n c,.int .i64 (if e=3 then 0 else (e:Int))])∧fs.length=n∧w'.ownsRow w.heap.size 53 3 (.slice A n c) n (au xT fs)∧w.grownBy w' (some g) ∧
  iq w' g (if e=3 then s.extract m s.size else ⟨#[]⟩) ((at0:Int)+(m:Int)) (if e=3 then 0 else (e:Int))
theorem De {rest p s:ByteArray} {g at0:Nat} {fs:List cY} {m e:Nat} (w:World) (hs:rest ++ p=s) (h:Frs s fs m e) (hF:iq w g rest at0 0) (hsz:s.size≤2097152) (hat:at0≤2097152) :
 Calls Tryz.prog 40 #[.pointer (some ⟨g,0,none⟩),.string p] w (Fv s g at0 fs m e w):=by
 have hh:=hid h
 have hlt:=hF.lt
 have x0:w.cell? ⟨g,0,none⟩=some (.string rest):=Blk.cell hF 0
 have x2:w.cell? ⟨g,2,none⟩=some (.int .i64 0):=Blk.cell hF 2
 have t0:=Blk.thaw hF 0
 have hB0:=hid (show iq (w.setCell ⟨g,0,none⟩ (.string s)) g s (at0:Int) 0 from Blk.eq (Blk.set hF 0 _) (by simp))
 have hpl:¬ 9223372036854775807<rest.size+p.size:=by
  have:=congrArg ByteArray.size hs
  rw [ByteArray.size_append] at this; omega
 have hpl2:rest.size+p.size≤9223372036854775807:=by omega
 clear h hF
 go_enter Tryz.func40,Tryz.ntmps40
 go_wp2
 go_loopg [4,5,6,7,8,9,27] s.size (fun k _ _ out _ _ _ _ wr=>I1 s g at0 fs m e w out wr k)
 case atStart=>exact⟨[],fs,none,0,0,0,m,rfl,by omega,rfl,Nat.le_refl _,Nat.zero_le _,rfl,by rw [show s.extract 0 s.size=s from by simp]; exact hh.out,World.ownsRow_nil _ _ _ _,aK (World.grownBy.refl w _) _ _,by rw [show s.extract 0 s.size=s from by simp]; exact Blk.eq hB0.out (by simp)⟩
 case round=>
  obtain⟨done,left,A,n,c,a,m',hfs,hm,rfl,hna,ha,rfl,hF,ho,hg,hB⟩:=hrel
  have y0:wr.cell? ⟨g,0,none⟩=some (.string (s.extract a s.size)):=Blk.cell hB 0
  have hsz1:=hid (show (s.extract a s.size).size≤9223372036854775807 from by rw [ByteArray.size_extract]; omega)
  have hgl:=hB.lt
  have HB:=hid hB
  clear x0 x2 t0 hB0 hpl hpl2 hs hB
  cases hF with
  | stop hd he=>
   have hd:=hid hd
   have e1:((e:Int) == 0)=false:=by simp; omega
   have fin:=hid (show fs=done from by rw [hfs]; simp)
   have hm:=hid (show m=a from hm)
   clear hfs
   go_wp2_with fail
   refine Calls.mono (Dd hd.out _ hsz1.out) ?_
   rintro x w1 ⟨rfl,hb1⟩
   have ho1:=hid ((l8 ho hb1).alloc (.cells #[.int .i64 0,.int .i64 0,.string ⟨#[]⟩] 53))
   have hb2:=hb1.alloc hb1.size (.cells #[.int .i64 0,.int .i64 0,.string ⟨#[]⟩] 53)
   have hG:=hid (fY hg hb2)
   have hB1:=HB.out.below hb2 hgl
   have z0:w1.cell? ⟨g,0,none⟩=some (.string (s.extract a s.size)):=Blk.cell (Blk.below HB.out hb1 hgl) 0
   have z2:w1.cell? ⟨g,2,none⟩=some (.int .i64 0):=Blk.cell (Blk.below HB.out hb1 hgl) 2
   have t0:=Blk.thaw (Blk.below HB.out hb1 hgl) 0
   have t2:=Blk.thaw (Blk.below HB.out hb1 hgl) 2
   have hgl1:g<w1.heap.size:=by have:=hb1.size; omega
   have HB1:=hid hB1
   have hlen:=hid (show done.length=n from by have:=ho.1; rw [jO sR] at this; omega)
   have hoE:=hid ((l8 ho hb1).kept (row:=some g) (aK (aK (World.grownBy.refl w1 _) 0 (.string ⟨#[]⟩)) 2 (.int .i64 (e:Int))) (.inr (fun h=>by have:=((l8 ho hb1).lt g h).1; omega)))
   have hGE:=hid (aK (aK (fY hg hb1) 0 (.string ⟨#[]⟩)) 2 (.int .i64 (e:Int)))
   have hBE:=hid (show iq ((w1.setCell ⟨g,0,none⟩ (.string ⟨#[]⟩)).setCell ⟨g,2,none⟩ (.int .i64 (e:Int))) g ⟨#[]⟩ ((at0:Int)+(a:Int)) (e:Int) from Blk.eq ((Blk.set (Blk.below HB.out hb1 hgl) 0 _).set 2 _) (by simp))
   clear ho hb1 hb2 hg hB1 y0
   by_cases h3:e=3
   · subst h3
     clear e1 he
     go_wp2
     refine bodyPost_ret (v:=.tuple #[.slice A n c,.int .i64 0]) (by simp [results,Tryz.results40,go_sem]) rfl ?_
     exact⟨A,n,c,rfl,by rw [fin.out]; exact hlen.out,by rw [fin.out]; exact ho1.out,hG.out,by rw [hm.out]; exact HB1.out⟩
   · have e2:((e:Int) == 3)=false:=by simp; omega
     go_wp2
     refine bodyPost_ret (v:=.tuple #[.slice A n c,.int .i64 (e:Int)]) (by simp [results,Tryz.results40,go_sem]) rfl ?_
     exact⟨A,n,c,by rw [if_neg h3],by rw [fin.out]; exact hlen.out,by rw [fin.out]; exact hoE.out.alloc _,fY hGE.out ((Below.refl _ _).alloc (Nat.le_refl _) _),by rw [hm.out,if_neg h3,if_neg h3]; exact hBE.out.alloc _⟩
  | @step _ f n1 fs1 m1 _ hd h1 h2 hF=>
   have hd:=hid hd
   have h2':=h2
   rw [ByteArray.size_extract] at h2'
   have e0:(s.extract a s.size).extract n1 (s.extract a s.size).size=s.extract (a+n1) s.size:=by
    rw [ByteArray.extract_extract,ByteArray.size_extract]
    congr 1
    omega
   have hF1:=hid (show Frs (s.extract (a+n1) s.size) fs1 m1 e from by rw [← e0]; exact hF)
   have q1:∀ W:World,(Instr.slice 9 (.string (s.extract a s.size)) (some (.int .i64 (n1:Int))) none none).run Tryz.prog W = .ok (.string (s.extract (a+n1) s.size)) W:=fun W=>by
    rw [run_slice_string_from_if (P:=Tryz.prog) (w:=W) 9 (s.extract a s.size) .i64 (n1:Int) Tryz.underlying9,if_pos ⟨by omega,by omega⟩,show ((n1:Int)).toNat=n1 from by omega,e0]
   have fin:=hid (show fs=(done ++ [f]) ++ fs1 from by rw [hfs]; simp)
   have hm:=hid (show m=(a+n1)+m1 from by omega)
   clear hfs hF e0
   obtain⟨ver,kind,pay⟩:=f
   go_wp2_with fail
   refine Calls.mono (Dd hd.out _ hsz1.out) ?_
   rintro x w1 ⟨rfl,hb1⟩
   dsimp only
   have ho1:=(l8 ho hb1).alloc (.cells #[.int .i64 (ver:Int),.int .i64 (kind:Int),.string pay] 53)
   have hb2:=hb1.alloc hb1.size (.cells #[.int .i64 (ver:Int),.int .i64 (kind:Int),.string pay] 53)
   have hG:=hid (fY hg hb2)
   have hbr:=hG.out.size
   have HB1:=hid (HB.out.below hb2 hgl)
   have Hlt:=hid ho1.lt
   clear ho hb1 hb2 hg y0
   go_wp2_with (at_builtin; refine ko xT rfl _ _ 100 53 GS 3 32 rfl Tryz.underlying100 BM rfl (by decide) sR Dc w.heap.size _ _ _ done rfl ho1 _ ⟨ver,kind,pay⟩ rfl _ (by simp) rfl (by omega) (by unfold maxLen; omega) hbr ?_; intro A2 c2 w2 ho2 hg2; have HB2:=hid (HB1.out.grew hg2 (fun k hk=>by have:=(Hlt.out k hk).1; omega)); have y0:=Blk.cell HB2.out 0; have y1:=Blk.cell HB2.out 1; have t0:=Blk.thaw HB2.out 0; have t1:=Blk.thaw HB2.out 1; dsimp at y0 y1)
   go_roundg (s.size - (a+n1))
   case rel=>exact⟨done ++ [⟨ver,kind,pay⟩],fs1,A2,n+1,c2,a+n1,m1,fin.out,hm.out,rfl,by omega,by omega,rfl,hF1.out,ho2.kept (row:=some g) (aK (aK (World.grownBy.refl w2 _) 0 _) 1 _) (.inr (fun h=>by have:=(ho2.lt g h).1; omega)),aK (aK (Df hG.out hg2 (fun k hk=>(Hlt.out k hk).1)) _ _) _ _,Blk.eq ((HB2.out.set 0 _).set 1 _) (by simp; omega)⟩
   case measure=>omega
end Go.Proofs.YtoeejfhdjmkpcaaGreatDoor
/- What a reading of a request leaves. -/
namespace Go.Proofs.YtoeejfhdjmkpcaaGreatDoor
open Go.Lib (hid)
open Go.RowKit
def pI (q:aH) (e:Int) (w:World) (x:Ending) (w':World):Prop:=x = .returned (.tuple #[bP q,.int .i64 e])∧Below w.heap.size w w'
end Go.Proofs.YtoeejfhdjmkpcaaGreatDoor
/- An argument that is a state, opened. -/
namespace Go.Proofs.YtoeejfhdjmkpcaaGreatDoor
open Go.Lib (hid)
open Go.ChangeShapes Go.WideShapes Go.ChangeAt Go.RowKit
def I64 (n:Int):Prop:=-9223372036854775808≤n∧n≤9223372036854775807
def Short (s:ByteArray):Prop:=s.size≤9223372036854775807
def sK (j:aD):Prop:=Short j.name∧I64 j.prio∧I64 j.need∧I64 j.tries∧Short j.tag
def pJ (n:aA):Prop:=Short n.name∧I64 n.room∧Short n.zone
def nS (l:ak):Prop:=Short l.job∧Short l.node∧I64 l.till
theorem nT {H α:Type} {enc:TypeId × Value→H} {W:World} {held:Bool} {fuel:Nat} {cs:List Value} {x:DataW H × List MemPlace} {t e:TypeId} {sz:Nat} (BN:α→List Value) (ok:α→Prop) (a0:α)
 (ht : Tryz.prog.underlying t=some (.slice e)) (hc : Tryz.prog.cellsOf e=sz) (hsz:0<sz) (hlen:∀ a,(BN a).length=sz)
 (each:∀ n cs' y,DataW.trod enc Tryz.prog W 0 (fun _=>true) held n e cs'=some y→∃ a:α,cs'=BN a∧ok a)
 (h:DataW.trod enc Tryz.prog W 0 (fun _=>true) held fuel t cs=some x) (hlt:∀ z ∈ x.2,z.block<W.heap.size) :
 ∃ (xs:List α) (A:Option Addr) (n c:Nat),cs=[.slice A n c]∧xs.length=n∧n≤9223372036854775807∧aW W W.heap.size sz A n (au BN xs)∧∀ a ∈ xs,ok a:=by
 haveI:Inhabited α:=⟨a0⟩
 rcases Go.Deep.open_slice ht h with ⟨rfl,-⟩ | ⟨a,len,cap,m,n,D,Pl,rfl,hb,hl,hm,hmm,rfl,hx⟩
 · exact⟨[],none,0,0,rfl,rfl,by omega,aW.nil,by simp⟩
 · simp only [if_true] at hmm
   subst hmm
   rw [hc] at hx hlt
   obtain⟨f,hf⟩:=Go.Deep.choose_lt (α:=α) (p:=fun i u=>W.cells? 0 (a.add (i*sz)) sz=some (BN u)∧ok u) (fun i hi=>by
    obtain⟨cs',h1,h2⟩:=hx i hi
    obtain⟨u,rfl,hu⟩:=each _ _ _ h2
    exact⟨u,h1,hu⟩)
   have hcell:∀ i,i<m→∀ j,j<sz→W.cell? ((a.add (i*sz)).add j)=(BN (f i))[j]?:=fun i hi j hj=>(World.cells?_some (hf i hi).1).2.2 j hj
   refine⟨(List.range len).map f,some a,len,m,rfl,by simp,by unfold maxLen at hm; omega,⟨by rw [jO hlen]; simp,fun hn=>?_⟩,fun u hu=>?_⟩
   · have hfst:∃ v,W.cell? ((a.add (0*sz)).add 0)=some v:=by
      rw [hcell 0 (by omega) 0 hsz]
      exact⟨_,List.getElem?_eq_getElem (by rw [hlen]; exact hsz)⟩
     obtain⟨v,hv⟩:=hfst
     obtain⟨b,off,spot⟩:=a
     have hspot:spot=none:=by simpa [Addr.add] using World.cell?_spot hv
     subst hspot
     refine⟨b,off,rfl,?_,fun j u hu=>?_⟩
     · refine hlt (.cell b off) (List.mem_append_left _ (MemPlace.mem_row.2 ⟨0,?_,rfl⟩))
       exact Nat.mul_pos (by omega) hsz
     · have hj:j<len*sz:=by
        rcases Nat.lt_or_ge j (len*sz) with h1 | h1
        · exact h1
        · rw [List.getElem?_eq_none (by rw [jO hlen]; simpa using h1)] at hu; cases hu
       have hq:j / sz<len:=Nat.div_lt_of_lt_mul (by rw [Nat.mul_comm]; exact hj)
       have hr:j % sz<sz:=Nat.mod_lt _ hsz
       have hjd:j=j / sz*sz+j % sz:=by rw [Nat.mul_comm]; exact (Nat.div_add_mod j sz).symm
       have h1:=hcell (j / sz) (by omega) (j % sz) hr
       rw [add_plain,add_plain,Nat.add_assoc,← hjd] at h1
       rw [h1,← hu]
       conv=>rhs; rw [hjd]
       rw [qK hlen _ _ _ (f (j / sz)) (by simp [hq]) hr]
   · obtain⟨i,hi,rfl⟩:=List.mem_map.1 hu
     exact (hf i (by have:=List.mem_range.1 hi; omega)).2
theorem xU : Tryz.prog.cellsOf 34 = 5:=by kernel_rfl
theorem vD : Tryz.prog.cellsOf 36 = 3:=by kernel_rfl
theorem sS : Tryz.prog.cellsOf 38 = 3:=by kernel_rfl
theorem zT : Tryz.prog.cellsOf 26 = 4:=by kernel_rfl
theorem kr {s:ByteArray} (h:s.size≤maxLen):Short s:=by unfold maxLen at h; unfold Short; omega
theorem Bn {H:Type} {enc:TypeId × Value→H} {W:World} {held:Bool} (n:Nat) (cs:List Value) (y:DataW H × List MemPlace) (h:DataW.trod enc Tryz.prog W 0 (fun _=>true) held n 34 cs=some y):∃ a:aD,cs=aL a∧sK a:=by
 obtain⟨xs,m,-,-,hl,hxs,hall⟩:=DataW.trod_struct Tryz.underlying34 h
 have hl2:cs.length=5:=hl.trans xU
 have H7:xs.length=5:=hxs
 match cs,hl2 with
 | [v0,v1,v2,v3,v4],_=>
  have q0:=hall 0 _ rfl
  rw [List.getElem?_eq_getElem (by omega)] at q0
  obtain⟨s0,e0,-,z0⟩:=DataW.trod_string Tryz.underlying9 q0
  replace e0:[v0]=[_]:=e0
  obtain rfl:=(List.cons.inj e0).1
  have q1:=hall 1 _ rfl
  rw [List.getElem?_eq_getElem (by omega)] at q1
  obtain⟨s1,e1,-,z1⟩:=DataW.trod_int Tryz.underlying3 q1
  replace e1:[v1]=[_]:=e1
  obtain rfl:=(List.cons.inj e1).1
  have q2:=hall 2 _ rfl
  rw [List.getElem?_eq_getElem (by omega)] at q2
  obtain⟨s2,e2,-,z2⟩:=DataW.trod_int Tryz.underlying3 q2
  replace e2:[v2]=[_]:=e2
  obtain rfl:=(List.cons.inj e2).1
  have q3:=hall 3 _ rfl
  rw [List.getElem?_eq_getElem (by omega)] at q3
  obtain⟨s3,e3,-,z3⟩:=DataW.trod_int Tryz.underlying3 q3
  replace e3:[v3]=[_]:=e3
  obtain rfl:=(List.cons.inj e3).1
  have q4:=hall 4 _ rfl
  rw [List.getElem?_eq_getElem (by omega)] at q4
  obtain⟨s4,e4,-,z4⟩:=DataW.trod_string Tryz.underlying9 q4
  replace e4:[v4]=[_]:=e4
  obtain rfl:=(List.cons.inj e4).1
  exact⟨⟨s0,s1,s2,s3,s4⟩,rfl,kr z0,eA z1,eA z2,eA z3,kr z4⟩
theorem xV {H:Type} {enc:TypeId × Value→H} {W:World} {held:Bool} (n:Nat) (cs:List Value) (y:DataW H × List MemPlace) (h:DataW.trod enc Tryz.prog W 0 (fun _=>true) held n 36 cs=some y):∃ a:aA,cs=aC a∧pJ a:=by
 obtain⟨xs,m,-,-,hl,hxs,hall⟩:=DataW.trod_struct Tryz.underlying36 h
 have hl2:cs.length=3:=hl.trans vD
 have H7:xs.length=3:=hxs
 match cs,hl2 with
 | [v0,v1,v2],_=>
  have q0:=hall 0 _ rfl
  rw [List.getElem?_eq_getElem (by omega)] at q0
  obtain⟨s0,e0,-,z0⟩:=DataW.trod_string Tryz.underlying9 q0
  replace e0:[v0]=[_]:=e0
  obtain rfl:=(List.cons.inj e0).1
  have q1:=hall 1 _ rfl
  rw [List.getElem?_eq_getElem (by omega)] at q1
  obtain⟨s1,e1,-,z1⟩:=DataW.trod_int Tryz.underlying3 q1
  replace e1:[v1]=[_]:=e1
  obtain rfl:=(List.cons.inj e1).1
  have q2:=hall 2 _ rfl
  rw [List.getElem?_eq_getElem (by omega)] at q2
  obtain⟨s2,e2,-,z2⟩:=DataW.trod_string Tryz.underlying9 q2
  replace e2:[v2]=[_]:=e2
  obtain rfl:=(List.cons.inj e2).1
  exact⟨⟨s0,s1,s2⟩,rfl,kr z0,eA z1,kr z2⟩
theorem vE {H:Type} {enc:TypeId × Value→H} {W:World} {held:Bool} (n:Nat) (cs:List Value) (y:DataW H × List MemPlace) (h:DataW.trod enc Tryz.prog W 0 (fun _=>true) held n 38 cs=some y):∃ a:ak,cs=av a∧nS a:=by
 obtain⟨xs,m,-,-,hl,hxs,hall⟩:=DataW.trod_struct Tryz.underlying38 h
 have hl2:cs.length=3:=hl.trans sS
 have H7:xs.length=3:=hxs
 match cs,hl2 with
 | [v0,v1,v2],_=>
  have q0:=hall 0 _ rfl
  rw [List.getElem?_eq_getElem (by omega)] at q0
  obtain⟨s0,e0,-,z0⟩:=DataW.trod_string Tryz.underlying9 q0
  replace e0:[v0]=[_]:=e0
  obtain rfl:=(List.cons.inj e0).1
  have q1:=hall 1 _ rfl
  rw [List.getElem?_eq_getElem (by omega)] at q1
  obtain⟨s1,e1,-,z1⟩:=DataW.trod_string Tryz.underlying9 q1
  replace e1:[v1]=[_]:=e1
  obtain rfl:=(List.cons.inj e1).1
  have q2:=hall 2 _ rfl
  rw [List.getElem?_eq_getElem (by omega)] at q2
  obtain⟨s2,e2,-,z2⟩:=DataW.trod_int Tryz.underlying3 q2
  replace e2:[v2]=[_]:=e2
  obtain rfl:=(List.cons.inj e2).1
  exact⟨⟨s0,s1,s2⟩,rfl,kr z0,kr z1,eA z2⟩
structure Dg (st:ah):Prop where
 rev:I64 st.rev
 jobs:∀ j ∈ st.jobs,sK j
 nodes:∀ n ∈ st.nodes,pJ n
 leases:∀ l ∈ st.leases,nS l
theorem zU {H:Type} {enc:TypeId × Value→H} {W:World} {r:Reach} {b0:Nat} {held:Bool} {v:Value} {d:DataW H} {p:List MemPlace}
 (hval:Value.okWide Tryz.prog W r b0 26 v) (hd:DataW.Trod enc Tryz.prog W 0 (fun _=>true) held 26 v d p) (hlt:∀ x ∈ p,x.block<W.heap.size) :
 ∃ (st:ah) (x:StA),v = .agg (stC st x)∧StAt W W.heap.size st x∧Dg st:=by
 obtain⟨v0,v1,v2,v3,y0,y1,y2,y3,n,rfl,rfl,rfl,h0,h1,h2,h3⟩:=Joins.open_agg4 Tryz.underlying26 (by kernel_rfl) zT hval hd
 obtain⟨rev,e0,-,zr⟩:=DataW.trod_int Tryz.underlying3 h0
 obtain⟨js,aj,nj,cj,e1,lj,bj,hj,oj⟩:=nT aL sK ⟨⟨#[]⟩,0,0,0,⟨#[]⟩⟩ Tryz.underlying22 xU (by omega) aT (fun n cs y h=>Bn n cs y h) h1 (fun z hz=>hlt z (by simp [hz]))
 obtain⟨ns,an,nn,cn,e2,ln,bn,hn,on_⟩:=nT aC pJ ⟨⟨#[]⟩,0,⟨#[]⟩⟩ Tryz.underlying23 vD (by omega) aM (fun n cs y h=>xV n cs y h) h2 (fun z hz=>hlt z (by simp [hz]))
 obtain⟨ls,al,nl,cl,e3,ll,bl,hl,ol⟩:=nT av nS ⟨⟨#[]⟩,⟨#[]⟩,0⟩ Tryz.underlying24 sS (by omega) aE (fun n cs y h=>vE n cs y h) h3 (fun z hz=>hlt z (by simp [hz]))
 obtain rfl:=(List.cons.inj e0).1
 obtain rfl:=(List.cons.inj e1).1
 obtain rfl:=(List.cons.inj e2).1
 obtain rfl:=(List.cons.inj e3).1
 exact⟨⟨rev,js,ns,ls⟩,⟨aj,nj,cj,an,nn,cn,al,nl,cl⟩,rfl,⟨hj,hn,hl,lj,ln,ll,bj,bn,bl,fun x hx=>⟨(oj x hx).1,(oj x hx).2.2.2.2⟩,fun x hx=>⟨(on_ x hx).1,(on_ x hx).2.2⟩,fun x hx=>⟨(ol x hx).1,(ol x hx).2.1⟩⟩,
  ⟨eA zr,oj,on_,ol⟩⟩
end Go.Proofs.YtoeejfhdjmkpcaaGreatDoor
