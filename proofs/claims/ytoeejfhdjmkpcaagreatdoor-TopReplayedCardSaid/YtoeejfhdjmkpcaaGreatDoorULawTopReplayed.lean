/- The statement TopReplayed: the law returns true for every input, and each argument reads afterwards as it read before; no other goroutine is left. What the two tables of unicode/utf8 hold is tied to the program's own text by the given tie. -/
import Derived.Test.YtoeejfhdjmkpcaaGreatDoorULawBTopReplayed
import Derived.Test.YtoeejfhdjmkpcaaGreatDoorUWTopReplayed
set_option linter.unusedVariables false
set_option linter.unusedSimpArgs false
set_option maxRecDepth 100000
set_option maxHeartbeats 8000000
/- The statement TopReplayed: the law returns true for every input, and each argument reads afterwards as it read before; no other goroutine is left. What the two tables of unicode/utf8 hold is tied to the program's own text by the given tie. -/
namespace Go.Proofs.YtoeejfhdjmkpcaaGreatDoor.topReplayedLaw
open Go.Lib (hid)
open Go.ChangeShapes Go.WideShapes Go.ChangeAt Go.RowKit Go.Lib
open Go.ChangeMaps (open_string shut_string)
set_option linter.unusedVariables false
theorem contract (H:Type) (enc:TypeId × Value→H) (W:World) (base:Nat) (args:Array Value) (ds gs:List (DataW H)) (before:List MemPlace)
 (hval:∀ (j:Nat) t v,Tryz.f5.params[j]? = some t→args[j]? = some v→Value.okWide Tryz.prog W .any base t v)
 (hW:DataW.Whole enc Tryz.prog Tryz.f5.params.toList Rows.topReplayedSpec.vars false W args.toList ds gs before) (hL:laidMet Tryz.prog Rows.topReplayedRow.laid W) :
 Calls Tryz.prog 5 args W fun e W'=>∃ v,e = .returned v∧Rows.topReplayedSpec.post enc Tryz.prog Tryz.f5 false true false false W args v W':=by
 have hW':=hW
 obtain⟨p,q,hA0,hV,rfl,hfz,hnd⟩:=hW
 have hA:DataW.TrodAll enc Tryz.prog W 0 (fun _=>true) true Tryz.f5.params.toList args.toList ds p:=hA0
 rw [Tryz.params5] at hA hval
 obtain⟨v0,vs0,d0,ds0,p0,q0,hargs,rfl,rfl,h0,r0⟩:=trodAll_cons hA
 obtain⟨v1,vs1,d1,ds1,p1,q1,rfl,rfl,rfl,h1,r1⟩:=trodAll_cons r0
 obtain⟨rfl,rfl,rfl⟩:=trodAll_nil r1
 obtain rfl:args=#[v0,v1]:=by cases args; simp_all
 obtain⟨rfl,rfl⟩:=trodVars_none hV
 have k0:=h0
 have lt0:∀ x ∈ p0,x.block<W.heap.size:=by obtain⟨m,hm⟩:=k0; exact DataW.trod_lt m _ _ _ hm
 have k1:=h1
 have lt1:∀ x ∈ p1,x.block<W.heap.size:=by obtain⟨m,hm⟩:=k1; exact DataW.trod_lt m _ _ _ hm
 obtain⟨st0,x0,rfl,hst0⟩:=CG (hval 0 26 v0 rfl rfl) h0 lt0
 obtain⟨qs1,A1,n1,c1,rfl,hl1,hn1,hs1,hf1⟩:=EM (hval 1 27 v1 rfl rfl) h1 lt1
 rw [Ev] at hL
 have htab:Tabs W:=Kr hL (by simp) (by simp)
 clear hA0
 refine (wF W st0 x0 qs1 A1 n1 c1 hst0 hs1 hl1 hn1 hf1 htab).mono fun e W' ⟨he,bel⟩=>?_
 subst he
 exact⟨_,rfl,_,_,_,[],_,[],hW',trodAll_mk1 (shut_bool Tryz.underlying4 _),(trodAll_cons_mk (Below.trod laidOut (by kernel_rfl) (of_decide_eq_true (by kernel_rfl)) k0 bel lt0) (trodAll_cons_mk (Below.trod laidOut (by kernel_rfl) (of_decide_eq_true (by kernel_rfl)) k1 bel lt1) trodAll_mk0)),rfl,bel.frame _,fun h=>by cases h⟩
theorem lifted (os:Os) (started:os.Started) (H:Type) (enc:TypeId × Value→H) (F:Stop.Interp) :
 ReturnsInHanded {} Tryz.checked os 5 .any ((OpenSpec.ofChange Rows.topReplayedSpec).preRow enc Tryz.prog Tryz.f5 Rows.topReplayedRow.domain false Rows.topReplayedRow.laid) (((OpenSpec.ofChange Rows.topReplayedSpec).at F).post enc Tryz.prog Tryz.f5 false true false false):=by
 obtain⟨places,hx⟩:=reads os enc
 refine returnsInHanded_of_row (C:=Tryz.checked) (s:=OpenSpec.ofChange Rows.topReplayedSpec) own started (by kernel_rfl) Tryz.func5
  (witness_row_at (enc:=enc) (C:=Tryz.checked) false (uW os) #[.agg rB,.slice none 0 0] rfl (by kernel_rfl) (by kernel_rfl) (by kernel_rfl)
   (OpenSpec.preRow_of_cond 8 hx (by kernel_rfl) (fun k hk=>by cases hk) (by kernel_rfl) (IK os))) ?_
 intro W base args ds gs before hval hW _ _ _ hL _ _
 exact contract H enc W base args ds gs before hval hW hL
theorem said:Rows.TopReplayedSaid:=
 OpenClaim.holds_of_wide_leaving 5 Tryz.f5 rfl rfl rfl rfl rfl rfl rfl ⟨rfl,rfl,rfl,rfl,rfl⟩ rfl rfl rfl rfl rfl hName Tryz.func5 closed
  MP MQ
  (fun os started H enc _=>by rw [OpenClaim.pre_eq_preRow]; exact tI (lifted os started H enc fun _ _ _=>0))
theorem proved:Rows.TopReplayedCardSaid:=
 FK .later _ _ (true, "559b06e263d15863621590265984a57e0c515cb79d047c62b706781e1f0bc726") _ said hWf topReplayed_row_tie rfl ⟨rfl, rfl⟩ MR rfl plain MS
end Go.Proofs.YtoeejfhdjmkpcaaGreatDoor.topReplayedLaw
