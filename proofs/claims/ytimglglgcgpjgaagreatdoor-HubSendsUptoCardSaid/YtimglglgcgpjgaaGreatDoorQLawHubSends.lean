/- The statement HubSends, in its second form: the law returns true, where the arguments hold together at most 1048576 values and letters, and each argument reads afterwards as it read before. What the two tables of unicode/utf8 hold is tied to the program's own text by the given tie. -/
import Derived.Test.YtimglglgcgpjgaaGreatDoorCards
import Derived.Test.YtimglglgcgpjgaaGreatDoorTie
import Derived.Deep.DeepHandedRow
import Derived.Deep.DeepWitnessRowRef
import Derived.Lib.LaidIn
import Derived.Test.YtimglglgcgpjgaaGreatDoorQWHubSends
set_option linter.unusedVariables false
set_option linter.unusedSimpArgs false
set_option maxRecDepth 100000
set_option maxHeartbeats 8000000
/- The statement HubSends, in its second form: the law returns true, where the arguments hold together at most 1048576 values and letters, and each argument reads afterwards as it read before. What the two tables of unicode/utf8 hold is tied to the program's own text by the given tie. -/
namespace Go.Proofs.YtimglglgcgpjgaaGreatDoor.hubSendsLaw
open Go.Lib (hid)
open Go.ChangeShapes Go.WideShapes Go.ChangeAt Go.RowKit Go.Lib
open Go.ChangeMaps (open_string shut_string)
set_option linter.unusedVariables false
theorem Im : Rows.hubSendsUptoRow.laid = [("unicode/utf8.acceptRanges", Lib.acceptData), ("unicode/utf8.first", Lib.firstData)] := by kernel_rfl
theorem contract (H:Type) (enc:TypeId × Value->H) (W:World) (base:Nat) (args:Array Value) (b h:List (DataW H)) (before:List MemPlace)
 (d:∀ (j:Nat) t v,Tryz.f3.params[j]? = some t->args[j]? = some v->Value.okWide Tryz.prog W .any base t v)
 (p:DataW.Whole enc Tryz.prog Tryz.f3.params.toList Rows.hubSendsSpec.vars false W args.toList b h before) (o:laidMet Tryz.prog Rows.hubSendsUptoRow.laid W) (I:Rows.uptoSmall H (b ++ h)=true) :
 Calls Tryz.prog 3 args W fun g e=>∃ v,g = .returned v/\Rows.hubSendsSpec.post enc Tryz.prog Tryz.f3 false true false false W args v e:=by
 have F:=p;obtain⟨P,af,n,E,rfl,ad,ae⟩:=p;have l:DataW.TrodAll enc Tryz.prog W 0 (fun _=>true) true Tryz.f3.params.toList args.toList b P:=n;rw [Tryz.params3] at l d;obtain⟨y,ag,X,Z,Q,q0,ac,rfl,rfl,i,S⟩:=trodAll_cons l;obtain⟨z,ah,Y,aa,R,q1,rfl,rfl,rfl,k,T⟩:=trodAll_cons S;obtain⟨rfl,rfl,rfl⟩:=trodAll_nil T;obtain rfl:args=#[y,z]:=by cases args; simp_all
 obtain⟨rfl,rfl⟩:=trodVars_none E;have q:=i;have s:∀ x ∈ Q,x.block<W.heap.size:=by obtain⟨m,c⟩:=q; exact DataW.trod_lt m _ _ _ c
 have r:=k;have u:∀ x ∈ R,x.block<W.heap.size:=by obtain⟨m,c⟩:=r; exact DataW.trod_lt m _ _ _ c
 obtain⟨U,V,rfl,L⟩:=Gk (d 0 26 y rfl rfl) i s;obtain⟨w,B,O,C,rfl,J,K,ab⟩:=Jl (d 1 27 z rfl rfl) k u;have N:Rows.uptoBulkAll (H:=H) _<=1048576:=of_decide_eq_true I;simp only [List.append_nil,Rows.uptoBulkAll] at N;have u1:jX w<=1048576:=by omega
 rw [Im] at o;have M:Tabs W:=MA o (by simp) (by simp);clear n;refine (C7 W U V w B O C L K J u1 (by omega) M).mono fun g e ⟨G,a⟩=>?_;subst G;exact⟨_,rfl,_,_,_,[],_,[],F,trodAll_mk1 (shut_bool Tryz.underlying4 _),(trodAll_cons_mk (Below.trod laidOut (by kernel_rfl) (of_decide_eq_true (by kernel_rfl)) q a s) (trodAll_cons_mk (Below.trod laidOut (by kernel_rfl) (of_decide_eq_true (by kernel_rfl)) r a u) trodAll_mk0)),rfl,a.frame _,fun D=>by cases D⟩
noncomputable def yx (os:Os):World:=
 let a:=World.holding Tryz.prog os ⟨#[],#[],[]⟩
 let put (h:Array Obj) (g:Nat) (b:Array Value):Array Obj:=h.modify g fun
  | .cells _ t c=>.cells b t c
  | o=>o
 let d:=put a.heap 0 (Lib.firstTab.map fun z=>Value.int .u8 z).toArray
 let e:=put d 1 ((List.range 16).flatMap fun i=>[Value.int .u8 (Lib.accLo i),Value.int .u8 (Lib.accHi i)]).toArray
 { a with heap:=e }
theorem Lt (a:Os):laidMet Tryz.prog Rows.hubSendsUptoRow.laid ((yx a).forCall (fun _ _=>0) ⟨#[],#[.agg lP,.slice none 0 0],[]⟩).memory:=by
 rw [Im];exact (LaidIn.of_run (l := [("unicode/utf8.acceptRanges", Lib.acceptData), ("unicode/utf8.first", Lib.firstData)]) [1, 0] 8 (by kernel_rfl) (by kernel_rfl) (by kernel_rfl) (by kernel_rfl)).met
theorem reads (a:Os) {H:Type} (enc:TypeId × Value->H):∃ b,DataW.whole enc Tryz.prog ((yx a).forCall (fun _ _=>0) ⟨#[],#[.agg lP,.slice none 0 0],[]⟩).memory Tryz.f3.params.toList Rows.hubSendsSpec.vars false #[.agg lP,.slice none 0 0].toList 8=some ([.agg [.lit (.int .i64 0),.nil,.nil,.nil],.nil],[],b):=
 ⟨[],by kernel_rfl⟩
theorem lifted (a:Os) (m:a.Started) (H:Type) (enc:TypeId × Value->H) (F:Stop.Interp) :
 ReturnsInHanded {} Tryz.checked a 3 .any ((Rows.OpenSpec.upto Rows.hubSendsSpec).preRow enc Tryz.prog Tryz.f3 Rows.hubSendsUptoRow.domain false Rows.hubSendsUptoRow.laid) (((Rows.OpenSpec.upto Rows.hubSendsSpec).at F).post enc Tryz.prog Tryz.f3 false true false false):=by
 obtain⟨n,l⟩:=reads a enc
 refine returnsInHanded_of_row (C:=Tryz.checked) (s:=Rows.OpenSpec.upto Rows.hubSendsSpec) own m (by kernel_rfl) Tryz.func3
  (witness_row_at (enc:=enc) (C:=Tryz.checked) false (yx a) #[.agg lP,.slice none 0 0] rfl (by kernel_rfl) (by kernel_rfl) (by kernel_rfl)
   (OpenSpec.preRow_of_cond 8 l (by kernel_rfl) (fun k i=>by cases i; kernel_rfl) (by kernel_rfl) (Lt a))) ?_
 intro W base b c d before j g _ h _ e _ _;exact contract H enc W base b c d before j g e (h _ rfl)
theorem OR {a b:Bool} (h:a=true) (k:b=true):(a && b)=true:=by rw [h,k]; rfl
/- The closed facts, each weighed in a declaration of its own: the program is great. -/
theorem closed:joinedFacts Tryz.prog 3 Tryz.f3 (Rows.OpenSpec.upto Rows.hubSendsSpec).bare Rows.hubSendsUptoRow=true:=by
 unfold joinedFacts
 with_reducible repeat' refine OR ?_ ?_
 all_goals as_aux_lemma=>kernel_rfl
theorem said:Rows.HubSendsUptoSaid:=
 OpenClaim.holds_of_cond 3 Tryz.f3 rfl rfl rfl rfl rfl rfl rfl ⟨rfl,rfl,rfl,rfl,rfl⟩ rfl rfl rfl rfl rfl (by kernel_rfl) Tryz.func3 closed
  (of_decide_eq_true (by kernel_rfl)) (by unfold Func.isWrapper; first | (rw [if_pos (by decide +kernel)]; kernel_rfl) | (rw [if_neg (by decide +kernel)]; exact⟨rfl,rfl⟩))
  (fun b c H a _ F=>by rw [OpenClaim.pre_eq_preRow]; exact lifted b c H a F)
theorem plain (f : FuncId) (a : Func) (c : Tryz.pinned.checked.prog.funcNamed "bracken/brackenlaw.HubSends" = some f) (d : Tryz.pinned.checked.prog.funcs[f]? = some a) :
 true = Tryz.pinned.checked.prog.looks []/\∀ (j:Nat) t,a.params[j]? = some t -> Tryz.pinned.checked.prog.wantsStandIn t=false:=by
 obtain rfl : f = 3 := Option.some.inj ((show Tryz.prog.funcNamed "bracken/brackenlaw.HubSends" = some 3 by kernel_rfl).symm.trans c) |>.symm;obtain rfl:a = Tryz.f3:=(Option.some.inj (Tryz.func3.symm.trans d)).symm;refine⟨by kernel_rfl,fun j t b=>?_⟩;rw [Tryz.params3] at b;have e:t = 26 \/ t = 27:=by simpa using Array.mem_of_getElem? b
 rcases e with rfl | rfl
 · exact (show Tryz.prog.wantsStandIn 26 = false by kernel_rfl)
 · exact (show Tryz.prog.wantsStandIn 27 = false by kernel_rfl)
theorem proved:Rows.HubSendsUptoCardSaid:=
 Claim7.holds_tied_plain_at .later [] _ _ _ _ said (fun _ h=>by cases h) (by kernel_rfl) (fun _ h=>by cases h) hubSendsUpto_row_tie rfl ⟨rfl,rfl⟩ (by kernel_rfl) rfl plain (by kernel_rfl)
end Go.Proofs.YtimglglgcgpjgaaGreatDoor.hubSendsLaw
