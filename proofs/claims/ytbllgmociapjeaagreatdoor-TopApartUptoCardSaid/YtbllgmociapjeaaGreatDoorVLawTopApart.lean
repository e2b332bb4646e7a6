/- The statement TopApart, in its second form: the law returns true, where the arguments hold together at most 1048576 values and letters, and each argument reads afterwards as it read before. What the two tables of unicode/utf8 hold is tied to the program's own text by the given tie. -/
import Derived.Test.YtbllgmociapjeaaGreatDoorCards
import Derived.Test.YtbllgmociapjeaaGreatDoorTie
import Derived.Deep.DeepHandedRow
import Derived.Deep.DeepWitnessRowRef
import Derived.Lib.LaidIn
import Derived.Test.YtbllgmociapjeaaGreatDoorVWTopApart
set_option linter.unusedVariables false
set_option linter.unusedSimpArgs false
set_option maxRecDepth 100000
set_option maxHeartbeats 8000000
/- The statement TopApart, in its second form: the law returns true, where the arguments hold together at most 1048576 values and letters, and each argument reads afterwards as it read before. What the two tables of unicode/utf8 hold is tied to the program's own text by the given tie. -/
namespace Go.Proofs.YtbllgmociapjeaaGreatDoor.topApartLaw
open Go.Lib (hid)
open Go.ChangeShapes Go.WideShapes Go.ChangeAt Go.RowKit Go.Lib
open Go.ChangeMaps (open_string shut_string)
set_option linter.unusedVariables false
theorem Df : Rows.topApartUptoRow.laid = [("unicode/utf8.acceptRanges", Lib.acceptData), ("unicode/utf8.first", Lib.firstData)] := by kernel_rfl
theorem contract (H:Type) (enc:TypeId × Value→H) (W:World) (base:Nat) (args:Array Value) (ds gs:List (DataW H)) (before:List MemPlace)
 (hval:∀ (j:Nat) t v,Tryz.f3.params[j]? = some t→args[j]? = some v→Value.okWide Tryz.prog W .any base t v)
 (hW:DataW.Whole enc Tryz.prog Tryz.f3.params.toList Rows.topApartSpec.vars false W args.toList ds gs before) (hL:laidMet Tryz.prog Rows.topApartUptoRow.laid W) (hk:Rows.uptoSmall H (ds ++ gs)=true) :
 Calls Tryz.prog 3 args W fun e W'=>∃ v,e = .returned v∧Rows.topApartSpec.post enc Tryz.prog Tryz.f3 false true false false W args v W':=by
 have hW':=hW
 obtain⟨p,q,hA0,hV,rfl,hfz,hnd⟩:=hW
 have hA:DataW.TrodAll enc Tryz.prog W 0 (fun _=>true) true Tryz.f3.params.toList args.toList ds p:=hA0
 rw [Tryz.params3] at hA hval
 obtain⟨v0,vs0,d0,ds0,p0,q0,hargs,rfl,rfl,h0,r0⟩:=trodAll_cons hA
 obtain⟨v1,vs1,d1,ds1,p1,q1,rfl,rfl,rfl,h1,r1⟩:=trodAll_cons r0
 obtain⟨v2,vs2,d2,ds2,p2,q2,rfl,rfl,rfl,h2,r2⟩:=trodAll_cons r1
 obtain⟨rfl,rfl,rfl⟩:=trodAll_nil r2
 obtain rfl:args=#[v0,v1,v2]:=by cases args; simp_all
 obtain⟨rfl,rfl⟩:=trodVars_none hV
 have k0:=h0
 have lt0:∀ x ∈ p0,x.block<W.heap.size:=by obtain⟨m,hm⟩:=k0; exact DataW.trod_lt m _ _ _ hm
 have k1:=h1
 have lt1:∀ x ∈ p1,x.block<W.heap.size:=by obtain⟨m,hm⟩:=k1; exact DataW.trod_lt m _ _ _ hm
 have k2:=h2
 have lt2:∀ x ∈ p2,x.block<W.heap.size:=by obtain⟨m,hm⟩:=k2; exact DataW.trod_lt m _ _ _ hm
 obtain⟨st0,x0,rfl,hst0⟩:=Bs (hval 0 26 v0 rfl rfl) h0 lt0
 obtain⟨qs1,A1,n1,c1,rfl,hl1,hn1,hs1,hf1⟩:=Dz (hval 1 27 v1 rfl rfl) h1 lt1
 obtain⟨ps2,A2,n2,c2,rfl,hl2,hn2,hs2,hB2⟩:=wX (hval 2 28 v2 rfl rfl) h2 lt2
 have hu:Rows.uptoBulkAll (H:=H) _≤1048576:=of_decide_eq_true hk
 simp only [List.append_nil,Rows.uptoBulkAll] at hu
 have u2:∀ s ∈ ps2,s.size≤1048576:=fun s h=>by have:=hB2 s h; omega
 rw [Df] at hL
 have htab:Tabs W:=Jk hL (by simp) (by simp)
 clear hA0
 refine (yT W st0 x0 qs1 A1 n1 c1 ps2 A2 n2 c2 hst0 hs1 hl1 hn1 hf1 hs2 hl2 hn2 u2 htab).mono fun e W' ⟨he,bel⟩=>?_
 subst he
 exact⟨_,rfl,_,_,_,[],_,[],hW',trodAll_mk1 (shut_bool Tryz.underlying4 _),(trodAll_cons_mk (Below.trod laidOut (by kernel_rfl) (of_decide_eq_true (by kernel_rfl)) k0 bel lt0) (trodAll_cons_mk (Below.trod laidOut (by kernel_rfl) (of_decide_eq_true (by kernel_rfl)) k1 bel lt1) (trodAll_cons_mk (Below.trod laidOut (by kernel_rfl) (of_decide_eq_true (by kernel_rfl)) k2 bel lt2) trodAll_mk0))),rfl,bel.frame _,fun h=>by cases h⟩
noncomputable def sN (os:Os):World:=
 let w0:=World.holding Tryz.prog os ⟨#[],#[],[]⟩
 let put (h:Array Obj) (g:Nat) (cs:Array Value):Array Obj:=h.modify g fun
  | .cells _ t frozen=>.cells cs t frozen
  | o=>o
 let h1:=put w0.heap 0 (Lib.firstTab.map fun z=>Value.int .u8 z).toArray
 let h2:=put h1 1 ((List.range 16).flatMap fun i=>[Value.int .u8 (Lib.accLo i),Value.int .u8 (Lib.accHi i)]).toArray
 { w0 with heap:=h2 }
theorem Gy (os:Os):laidMet Tryz.prog Rows.topApartUptoRow.laid ((sN os).forCall (fun _ _=>0) ⟨#[],#[.agg rW,.slice none 0 0,.slice none 0 0],[]⟩).memory:=by
 rw [Df]
 exact (LaidIn.of_run (l := [("unicode/utf8.acceptRanges", Lib.acceptData), ("unicode/utf8.first", Lib.firstData)]) [1, 0] 8 (by kernel_rfl) (by kernel_rfl) (by kernel_rfl) (by kernel_rfl)).met
theorem reads (os:Os) {H:Type} (enc:TypeId × Value→H):∃ places,DataW.whole enc Tryz.prog ((sN os).forCall (fun _ _=>0) ⟨#[],#[.agg rW,.slice none 0 0,.slice none 0 0],[]⟩).memory Tryz.f3.params.toList Rows.topApartSpec.vars false #[.agg rW,.slice none 0 0,.slice none 0 0].toList 8=some ([.agg [.lit (.int .i64 0),.nil,.nil,.nil],.nil,.nil],[],places):=
 ⟨[],by kernel_rfl⟩
theorem lifted (os:Os) (started:os.Started) (H:Type) (enc:TypeId × Value→H) (F:Stop.Interp) :
 ReturnsInHanded {} Tryz.checked os 3 .any ((Rows.OpenSpec.upto Rows.topApartSpec).preRow enc Tryz.prog Tryz.f3 Rows.topApartUptoRow.domain false Rows.topApartUptoRow.laid) (((Rows.OpenSpec.upto Rows.topApartSpec).at F).post enc Tryz.prog Tryz.f3 false true false false):=by
 obtain⟨places,hx⟩:=reads os enc
 refine returnsInHanded_of_row (C:=Tryz.checked) (s:=Rows.OpenSpec.upto Rows.topApartSpec) own started (by kernel_rfl) Tryz.func3
  (witness_row_at (enc:=enc) (C:=Tryz.checked) false (sN os) #[.agg rW,.slice none 0 0,.slice none 0 0] rfl (by kernel_rfl) (by kernel_rfl) (by kernel_rfl)
   (OpenSpec.preRow_of_cond 8 hx (by kernel_rfl) (fun k hk=>by cases hk; kernel_rfl) (by kernel_rfl) (Gy os))) ?_
 intro W base args ds gs before hval hW _ hcond _ hL _ _
 exact contract H enc W base args ds gs before hval hW hL (hcond _ rfl)
theorem KZ {a b:Bool} (h:a=true) (k:b=true):(a && b)=true:=by rw [h,k]; rfl
/- The closed facts, each weighed in a declaration of its own: the program is great. -/
theorem closed:joinedFacts Tryz.prog 3 Tryz.f3 (Rows.OpenSpec.upto Rows.topApartSpec).bare Rows.topApartUptoRow=true:=by
 unfold joinedFacts
 with_reducible repeat' refine KZ ?_ ?_
 all_goals as_aux_lemma=>kernel_rfl
theorem said:Rows.TopApartUptoSaid:=
 OpenClaim.holds_of_cond 3 Tryz.f3 rfl rfl rfl rfl rfl rfl rfl ⟨rfl,rfl,rfl,rfl,rfl⟩ rfl rfl rfl rfl rfl (by kernel_rfl) Tryz.func3 closed
  (of_decide_eq_true (by kernel_rfl)) (by unfold Func.isWrapper; first | (rw [if_pos (by decide +kernel)]; kernel_rfl) | (rw [if_neg (by decide +kernel)]; exact⟨rfl,rfl⟩))
  (fun os started H enc _ F=>by rw [OpenClaim.pre_eq_preRow]; exact lifted os started H enc F)
theorem plain (f : FuncId) (fn : Func) (hf : Tryz.pinned.checked.prog.funcNamed "bracken/brackentop.TopApart" = some f) (hfn : Tryz.pinned.checked.prog.funcs[f]? = some fn) :
 true = Tryz.pinned.checked.prog.looks []∧∀ (j:Nat) t,fn.params[j]? = some t → Tryz.pinned.checked.prog.wantsStandIn t=false:=by
 obtain rfl : f = 3 := Option.some.inj ((show Tryz.prog.funcNamed "bracken/brackentop.TopApart" = some 3 by kernel_rfl).symm.trans hf) |>.symm
 obtain rfl:fn = Tryz.f3:=(Option.some.inj (Tryz.func3.symm.trans hfn)).symm
 refine⟨by kernel_rfl,fun j t ht=>?_⟩
 rw [Tryz.params3] at ht
 have hm:t = 26 ∨ t = 27 ∨ t = 28:=by simpa using Array.mem_of_getElem? ht
 rcases hm with rfl | rfl | rfl
 · exact (show Tryz.prog.wantsStandIn 26 = false by kernel_rfl)
 · exact (show Tryz.prog.wantsStandIn 27 = false by kernel_rfl)
 · exact (show Tryz.prog.wantsStandIn 28 = false by kernel_rfl)
theorem proved:Rows.TopApartUptoCardSaid:=
 Claim7.holds_tied_plain_at .later [] _ _ _ _ said (fun _ h=>by cases h) (by kernel_rfl) (fun _ h=>by cases h) topApartUpto_row_tie rfl ⟨rfl,rfl⟩ (by kernel_rfl) rfl plain (by kernel_rfl)
end Go.Proofs.YtbllgmociapjeaaGreatDoor.topApartLaw
