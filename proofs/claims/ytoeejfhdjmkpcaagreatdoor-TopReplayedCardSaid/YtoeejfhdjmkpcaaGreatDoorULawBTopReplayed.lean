/- Of the proof of a statement: LawBTopReplayed. -/
import Derived.Test.YtoeejfhdjmkpcaaGreatDoorCards
import Derived.Test.YtoeejfhdjmkpcaaGreatDoorTie
import Derived.Deep.DeepHandedRow
import Derived.Deep.DeepWitnessRowRef
import Derived.Lib.LaidIn
import Derived.Conc.Holds
import Derived.Leaving
import Derived.Test.YtoeejfhdjmkpcaaGreatDoorUArgSt
set_option linter.unusedVariables false
set_option linter.unusedSimpArgs false
set_option maxRecDepth 100000
set_option maxHeartbeats 8000000
/- The closed facts of the statement TopReplayed: what the listed variables hold, a world for the witness, the facts of the row and of its card. -/
namespace Go.Proofs.YtoeejfhdjmkpcaaGreatDoor.topReplayedLaw
open Go.Lib (hid)
open Go.ChangeShapes Go.WideShapes Go.ChangeAt Go.RowKit Go.Lib
open Go.ChangeMaps (open_string shut_string)
set_option linter.unusedVariables false
theorem Ev : Rows.topReplayedRow.laid = [("unicode/utf8.acceptRanges", Lib.acceptData), ("unicode/utf8.first", Lib.firstData)] := by kernel_rfl
noncomputable def uW (os:Os):World:=
 let w0:=World.holding Tryz.prog os ⟨#[],#[],[]⟩
 let put (h:Array Obj) (g:Nat) (cs:Array Value):Array Obj:=h.modify g fun
  | .cells _ t frozen=>.cells cs t frozen
  | o=>o
 let h1:=put w0.heap 0 (Lib.firstTab.map fun z=>Value.int .u8 z).toArray
 let h2:=put h1 1 ((List.range 16).flatMap fun i=>[Value.int .u8 (Lib.accLo i),Value.int .u8 (Lib.accHi i)]).toArray
 { w0 with heap:=h2 }
theorem IK (os:Os):laidMet Tryz.prog Rows.topReplayedRow.laid ((uW os).forCall (fun _ _=>0) ⟨#[],#[.agg #[.int .i64 0,.slice none 0 0,.slice none 0 0,.slice none 0 0],.slice none 0 0],[]⟩).memory:=by
 rw [Ev]
 exact (LaidIn.of_run (l := [("unicode/utf8.acceptRanges", Lib.acceptData), ("unicode/utf8.first", Lib.firstData)]) [1, 0] 8 (by kernel_rfl) (by kernel_rfl) (by kernel_rfl) (by kernel_rfl)).met
theorem reads (os:Os) {H:Type} (enc:TypeId × Value→H):∃ places,DataW.whole enc Tryz.prog ((uW os).forCall (fun _ _=>0) ⟨#[],#[.agg #[.int .i64 0,.slice none 0 0,.slice none 0 0,.slice none 0 0],.slice none 0 0],[]⟩).memory Tryz.f5.params.toList Rows.topReplayedSpec.vars false #[.agg #[.int .i64 0,.slice none 0 0,.slice none 0 0,.slice none 0 0],.slice none 0 0].toList 8=some ([.agg [.lit (.int .i64 0),.nil,.nil,.nil],.nil],[],places):=
 ⟨[],by kernel_rfl⟩
theorem Ma {a b:Bool} (h:a=true) (k:b=true):(a && b)=true:=by rw [h,k]; rfl
/- The closed facts, each weighed in a declaration of its own: the program is great. -/
theorem closed:joinedFacts Tryz.prog 5 Tryz.f5 (OpenSpec.ofChange Rows.topReplayedSpec).bare Rows.topReplayedRow=true:=by
 unfold joinedFacts
 with_reducible repeat' refine Ma ?_ ?_
 all_goals as_aux_lemma=>kernel_rfl
theorem tI {a:Assume} {C:Checked} {os:Os} {f:FuncId} {r:Reach} {Pre:World→Array Value→Prop} {Post:World→Array Value→Value→World→Prop} (h:ReturnsInHanded a C os f r Pre Post):ReturnsInLeavingWide a C os f r Pre Post:=
 fun e=>ReturnsInOpen.mono (fun _ _ _ x=>⟨x.2.1,onlyLeaving_of_quiet x.1,x.2.2⟩) (fun _ x=>x) (h e)
theorem FK (Lk:Looks) {p:Pinned} {s:OpenSpec} {c:OpenClaim} (kinds:List LaidKind) (tests:Bool) (har:Bool × String) (lk:Bool)
 (hc:c.holds p s) (hw:c.wfByText s=true) (htie:c.laidByTextAt Lk p kinds tests)
 (hst:c.start = .entering) (hnb:c.noBlocks=false∧c.again=false) (hm:p.checked.prog.mainIs=some (har.1,har.2.toList)) (hn:(!har.1 && har.2.isEmpty && !lk)=false)
 (hl:∀ f fn,p.checked.prog.funcNamed c.func=some f→p.checked.prog.funcs[f]? = some fn→lk=p.checked.prog.looks []∧∀ (j:Nat) t,fn.params[j]? = some t→p.checked.prog.wantsStandIn t=false)
 (hg:true=c.goesBy p.checked.prog) :
 Claim7.holds p (.plain s) { stood:={ row:=c,standIns:=[],harness:=har,looks:=lk },kinds:=[],alts:=[],goes:=true,laidByText:=true,laidKinds:=kinds,laidTests:=tests,laidLooks:=Lk }:=by
 have h6:Claim7.isSixth { stood:={ row:=c,standIns:=[],harness:=har,looks:=lk },kinds:=[] }=false:=by simpa [Claim7.isSixth] using hn
 refine⟨Claim7.tied_new_at Lk kinds tests (Claim7.new_of_sixth hc har lk hst hnb hm h6 hl) hw,fun D hD=>?_,htie,(fun h=>by cases h),hg⟩
 have hD':D ∈ ([]:List (List PathCond)):=hD
 cases hD'
theorem hName : Tryz.pinned.checked.prog.funcNamed Rows.topReplayedRow.func=some 5:=by kernel_rfl
theorem MP : Tryz.f5.isInstance Tryz.pinned.checked.prog Rows.topReplayedRow.origin Rows.topReplayedRow.targs:=of_decide_eq_true (by kernel_rfl)
theorem MQ : Tryz.f5.isWrapper Tryz.pinned.checked.prog Rows.topReplayedRow.wrapper Rows.topReplayedRow.mainSum:=by unfold Func.isWrapper; first | (rw [if_pos (by decide +kernel)]; kernel_rfl) | (rw [if_neg (by decide +kernel)]; exact⟨rfl,rfl⟩)
theorem plain (f : FuncId) (fn : Func) (hf : Tryz.pinned.checked.prog.funcNamed "bracken/brackentop.TopReplayed" = some f) (hfn : Tryz.pinned.checked.prog.funcs[f]? = some fn) :
 true = Tryz.pinned.checked.prog.looks []∧∀ (j:Nat) t,fn.params[j]? = some t → Tryz.pinned.checked.prog.wantsStandIn t=false:=by
 obtain rfl : f = 5 := Option.some.inj ((show Tryz.prog.funcNamed "bracken/brackentop.TopReplayed" = some 5 by kernel_rfl).symm.trans hf) |>.symm
 obtain rfl:fn = Tryz.f5:=(Option.some.inj (Tryz.func5.symm.trans hfn)).symm
 refine⟨by kernel_rfl,fun j t ht=>?_⟩
 rw [Tryz.params5] at ht
 have hm:t = 26 ∨ t = 27:=by simpa using Array.mem_of_getElem? ht
 rcases hm with rfl | rfl
 · exact (show Tryz.prog.wantsStandIn 26 = false by kernel_rfl)
 · exact (show Tryz.prog.wantsStandIn 27 = false by kernel_rfl)
theorem hWf:Rows.topReplayedRow.wfByText (OpenSpec.ofChange Rows.topReplayedSpec)=true:=by kernel_rfl
theorem MR : Tryz.pinned.checked.prog.mainIs = some (true, "559b06e263d15863621590265984a57e0c515cb79d047c62b706781e1f0bc726".toList) := by kernel_rfl
theorem MS:true=Rows.topReplayedRow.goesBy Tryz.pinned.checked.prog:=by kernel_rfl
end Go.Proofs.YtoeejfhdjmkpcaaGreatDoor.topReplayedLaw
