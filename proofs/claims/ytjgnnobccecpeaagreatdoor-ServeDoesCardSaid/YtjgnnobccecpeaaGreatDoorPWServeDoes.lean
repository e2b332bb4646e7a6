/- Of the proof. -/
import Derived.Test.YtjgnnobccecpeaaGreatDoorPNxD
import Derived.Test.YtjgnnobccecpeaaGreatDoorPNxE
import Derived.Test.YtjgnnobccecpeaaGreatDoorPRDo
import Derived.Test.YtjgnnobccecpeaaGreatDoorPRRc
import Derived.Test.YtjgnnobccecpeaaGreatDoorPSvDo
set_option linter.unusedVariables false
set_option linter.unusedSimpArgs false
set_option maxRecDepth 100000
set_option maxHeartbeats 8000000
namespace Go.Proofs.YtjgnnobccecpeaaGreatDoor
open Go.Lib (hid)
open List (foldl_cons foldl_nil setIfInBounds_toArray set_cons_succ set_cons_zero)
open Go.RowKit
noncomputable def nextA (st : StateD) (now : Int) (q : ReqD) : Int × StateD × Int := if reqE q = 0 then nextR st now q else (reqE q, st, now)
theorem rnext_any (q : ReqD) (st : StateD) (x : StA) (now : Int) (w : World) (hS : StAt w w.heap.size st x) (hc : checkE st = 0) (hok : ROk q) (hn : 0 ≤ now ∧ now ≤ 1099511627776) :
 Calls Tryz.prog 39 #[.agg (srvC st x now), reqA q] w (RNxPost (nextA st now q) w) := by
 obtain ⟨h1, h2, h3⟩ := sizes_of hS hc
 have H := fun W => rreq_any q W hok
 unfold nextA
 by_cases hE : reqE q = 0
 · rw [if_pos hE]
   rw [hE] at H
   obtain ⟨k1, k2, k7⟩ := reqE_facts hE
   unfold nextR
   by_cases e1 : q.kind = 1
   · rw [if_pos e1]; exact rnext_1 q st x now w hS (by omega) (by omega) (by omega) hok H e1
   rw [if_neg e1]
   by_cases e2 : q.kind = 2
   · rw [if_pos e2]; exact rnext_2 q st x now w hS (by omega) (by omega) (by omega) hok H e2
   rw [if_neg e2]
   by_cases e3 : q.kind = 3
   · rw [if_pos e3]; exact rnext_3 q st x now w hS (by omega) (by omega) (by omega) hok H e3
   rw [if_neg e3]
   by_cases e4 : q.kind = 4
   · rw [if_pos e4]; exact rnext_4 q st x now w hS (by omega) (by omega) (by omega) hok H e4
   rw [if_neg e4]
   by_cases e5 : q.kind = 5
   · rw [if_pos e5]; exact rnext_5 q st x now w hS (by omega) (by omega) (by omega) hok H e5 (tries_of hc)
   rw [if_neg e5]
   by_cases e6 : q.kind = 6
   · rw [if_pos e6]; exact rnext_6 q st x now w hS (by omega) (by omega) (by omega) hok H e6
   rw [if_neg e6]
   by_cases e7 : q.kind = 7
   · rw [if_pos e7]; exact rnext_7 q st x now w hS (by omega) (by omega) (by omega) hok H e7 hn.1 hn.2 (k7 e7).1 (k7 e7).2
   rw [if_neg e7]
   exact rnext_8 q st x now w hS (by omega) (by omega) (by omega) hok H (by omega)
 · rw [if_neg hE]
   exact rnext_0 (reqE q) q st x now w hS (by omega) (by omega) (by omega) hok H hE
theorem same_of {a b : StateD} (hr : b.rev = a.rev) (h : rowsSame a b) : b = a := by
 obtain ⟨ra, ja, na, la⟩ := a
 obtain ⟨rb, jb, nb, lb⟩ := b
 obtain ⟨h1, h2, h3⟩ := h
 dsimp only at hr h1 h2 h3
 subst hr h1 h2 h3
 rfl
theorem rdo_any (q : ReqD) (st : StateD) (x : StA) (now : Int) (V : Nat) (w : World) (h : SrvAt w 36 V st x now) (hok : ROk q) :
 Calls Tryz.prog 11 #[.pointer (some ⟨V, 0, none⟩), reqA q] w (AskPost 36 V st (srvR st now (askR st now q)) w) := by
 have hN : ∀ W, StAt W W.heap.size st x → Calls Tryz.prog 39 #[.agg (srvC st x now), reqA q] W (RNxPost (nextA st now q) W) := fun W hS => rnext_any q st x now W hS h.ok hok h.t
 unfold nextA at hN
 by_cases hE : reqE q = 0
 · rw [if_pos hE] at hN
   obtain ⟨n1, n2⟩ := next_do h.ok now q
   by_cases h0 : (doR st now q).1 = 0
   · rw [n2 h0] at hN
     have hv := doR_rev st now q
     obtain ⟨⟨E, so, nw⟩, hR⟩ : ∃ R, doR st now q = R := ⟨_, rfl⟩
     have hc := doR_check h.ok h0
     by_cases hr : rowsSame st (doR st now q).2.1
     · rw [askR_same hE h0 hr]
       rw [hR] at hN h0 hr hv hc ⊢
       have hs : so = st := same_of hv hr
       have := rdo_same q st x now V w E so nw h hN h0 hs
       rw [hs] at this
       exact this
     · by_cases h3 : 1099511627776 < st.rev + 1
       · rw [askR_old hE h0 hr h3]
         rw [hR] at hN h0 hr hv hc
         exact rdo_old q st x now V w E so nw h hN h0 hv (fun e => hr (by rw [e]; exact ⟨rfl, rfl, rfl⟩)) h3
       · rw [askR_new hE h0 hr h3]
         rw [hR] at hN h0 hr hv hc ⊢
         exact rdo_new q st x now V w E so nw h hN h0 hv (fun e => hr (by rw [e]; exact ⟨rfl, rfl, rfl⟩)) h3 hc
   · rw [askR_err hE h0]
     obtain ⟨⟨E, so, nw⟩, hR⟩ : ∃ R, nextR st now q = R := ⟨_, rfl⟩
     rw [← n1] at h0 ⊢
     rw [hR] at hN h0 ⊢
     exact rdo_err q st x now V w E so nw h hN h0
 · rw [askR_bad hE]
   rw [if_neg hE] at hN
   exact rdo_err q st x now V w (reqE q) st now h hN hE
open Go.RowKit
theorem rok_of {q : ReqD} (h : ReqFull q) : ROk q := ⟨h.job.1, h.job.2.2.2.2, h.node.1, h.node.2.2, h.lease.1, h.lease.2.1, h.name⟩
theorem run_of_guard {ops : Array Oper} {o p : Oper} {a : Act} {j t : Nat} {b : Bool} (h1 : ops[j]? = some p) (h2 : p.dst = some t) (h3 : a.tmps[t]? = some (.bool b)) (h4 : o.guard = some (j, b)) : Region.wanted o (yielded ops a.tmps) = true := by
 unfold Region.wanted yielded
 rw [h4]
 simp only [h1, Option.bind_some, h2, h3]
 cases b <;> rfl
theorem wantWp_run {P : Program} {ops : Array Oper} {o p : Oper} {a : Act} {w : World} {j t : Nat} (b : Bool) {K : Act → World → Prop} {Q : Exit → Act → World → Prop} (h1 : ops[j]? = some p) (h2 : p.dst = some t) (h4 : o.guard = some (j, b)) (h3 : ∃ u, a.tmps[t]? = some u ∧ u = .bool b) (ht : o.wp P a w K Q) : wantWp P ops o a w K Q := by
 obtain ⟨u, h3, rfl⟩ := h3
 unfold wantWp
 rw [run_of_guard h1 h2 h3 h4, if_pos rfl]
 exact ht
theorem okR {Γ : Type} {P : Program} {ops : Array Oper} {V : Γ → Nat → Value → Prop} {a0 : Act} {S : List Nat} {Ph : Nat → Γ → World → Prop} {Q : Exit → Act → World → Prop} {i : Nat} {o p0 : Oper} (b : Bool) (j t : Nat) (h1 : ops[j]? = some p0) (h2 : p0.dst = some t) (hg : o.guard = some (j, b)) (hv : ∀ γ u, V γ j u → u = .bool b)
 (h : ∀ p γ a w, 0 ≤ p → p ≤ 0 → Ph p γ w → Knows ops (V γ) a0 i o a → o.wp P a w (fun a' w' => ∃ u γ', a' = a.put o.dst u ∧ (∀ j v, j ≠ i → V γ j v → V γ' j v) ∧ V γ' i u ∧ Ph p γ' w') Q)
 (h0 : i ∉ S := by decide) (hl : loB S o 0 = true := by decide +kernel) (hh : hiB ops S i 0 = true := by decide +kernel) (h3 : waitsFor o j = true := by decide +kernel) : PhOkQ P ops V S Ph a0 Q i o :=
 .inr ⟨h0, 0, 0, hl, hh, fun p γ a w hpl hph hp hk => wantWp_run b h1 h2 hg (by obtain ⟨u, hu, hV⟩ := hk.g j t h1 h2 h3; exact ⟨u, hu, hv γ u hV⟩) (h p γ a w hpl hph hp hk)⟩
theorem SrvAt.drew {w : World} {T : TypeId} {B : Nat} {st : StateD} {x : StA} {now : Int} (h : SrvAt w T B st x now) : SrvAt w.drew T B st x now := ⟨h.blk, h.at_.drew, h.ok, h.t⟩
structure LsAt (w0 wr : World) (V S : Nat) (st : StateD) (now : Int) (xv xr : StA) : Prop where
 below : Below w0.heap.size w0 wr
 v : SrvAt wr 77 V st xv now
 s : SrvAt wr 36 S st xr now
 vs : w0.heap.size ≤ V
 ss : w0.heap.size ≤ S
 ne : V ≠ S
theorem LsAt.kept {w0 wr w' : World} {V S : Nat} {st : StateD} {now : Int} {xv xr : StA} (h : LsAt w0 wr V S st now xv xr) (hb : Below wr.heap.size wr w') : LsAt w0 w' V S st now xv xr :=
 ⟨h.below.trans (hb.mono h.below.size), h.v.below hb, h.s.below hb, h.vs, h.ss, h.ne⟩
theorem LsAt.drew {w0 wr : World} {V S : Nat} {st : StateD} {now : Int} {xv xr : StA} (h : LsAt w0 wr V S st now xv xr) : LsAt w0 wr.drew V S st now xv xr :=
 ⟨h.below.drew, h.v.drew, h.s.drew, h.vs, h.ss, h.ne⟩
theorem LsAt.ask1 {w0 w w' : World} {V S : Nat} {st : StateD} {now : Int} {xv xr : StA} (h : LsAt w0 w V S st now xv xr) (hg : w.grownBy w' (some V)) : SrvAt w' 36 S st xr now ∧ Below w0.heap.size w0 w' :=
 ⟨h.s.other h.v.blk (noStr_srv _ _ _) hg (fun e => h.ne e.symm), grow_keep h.below hg h.vs⟩
structure CmpAt (w0 : World) (V S A B C F : Nat) (E : Int) (st1 : StateD) (now1 : Int) (xv xr : StA) (D : DeltaD) (dx dy : DelA) (γ : Option StA) (w : World) : Prop where
 l : LsAt w0 w V S st1 now1 xv xr
 a : Blk w A 46 #[.int .i64 E, .int .i64 st1.rev]
 b : Blk w B 49 (dC D dx)
 c : Blk w C 46 #[.int .i64 E, .int .i64 st1.rev]
 f : Blk w F 49 (dC D dy)
 dx_ : DelAt w w.heap.size D dx
 dy_ : DelAt w w.heap.size D dy
 y : ∀ y, γ = some y → StAt w w.heap.size st1 y
section
variable {w0 w w' : World} {V S A B C F : Nat} {E : Int} {st1 : StateD} {now1 : Int} {xv xr : StA} {D : DeltaD} {dx dy : DelA} {γ : Option StA}
theorem CmpAt.kept (h : CmpAt w0 V S A B C F E st1 now1 xv xr D dx dy γ w) (hb : Below w.heap.size w w') : CmpAt w0 V S A B C F E st1 now1 xv xr D dx dy γ w' :=
 ⟨h.l.kept hb, h.a.below hb h.a.lt, h.b.below hb h.b.lt, h.c.below hb h.c.lt, h.f.below hb h.f.lt, h.dx_.upS hb, h.dy_.upS hb, fun y e => (h.y y e).upS hb⟩
theorem CmpAt.state {y : StA} (h : CmpAt w0 V S A B C F E st1 now1 xv xr D dx dy γ w) (hb : Below w.heap.size w w') (hy : StAt w' w'.heap.size st1 y) : CmpAt w0 V S A B C F E st1 now1 xv xr D dx dy (some y) w' :=
 have k := h.kept hb
 ⟨k.l, k.a, k.b, k.c, k.f, k.dx_, k.dy_, fun z e => by injection e with e; subst e; exact hy⟩
theorem CmpAt.drew (h : CmpAt w0 V S A B C F E st1 now1 xv xr D dx dy γ w) : CmpAt w0 V S A B C F E st1 now1 xv xr D dx dy γ w.drew :=
 ⟨h.l.drew, h.a, h.b, h.c, h.f, h.dx_.drew, h.dy_.drew, fun y e => (h.y y e).drew⟩
end
def cmpV (V S : Nat) (E : Int) (st1 : StateD) (now1 : Int) (xr : StA) (D : DeltaD) (dx dy : DelA) (ch : Bool) (γ : Option StA) : Nat → Value → Prop
 | 0, u => u = .agg #[.int .i64 E, .int .i64 st1.rev]
 | 1, u => u = .agg #[.int .i64 E, .int .i64 st1.rev]
 | 2, u => u = .bool false
 | 3, u => u = .bool false
 | 4, u => u = .agg #[.int .i64 D.from_, .int .i64 D.to_, .slice dx.aj dx.nj dx.cj, .slice dx.an dx.nn dx.cn, .slice dx.al dx.nl dx.cl, .slice dx.agj dx.ngj dx.cgj, .slice dx.agn dx.ngn dx.cgn, .slice dx.agl dx.ngl dx.cgl]
 | 5, u => u = .agg #[.int .i64 D.from_, .int .i64 D.to_, .slice dy.aj dy.nj dy.cj, .slice dy.an dy.nn dy.cn, .slice dy.al dy.nl dy.cl, .slice dy.agj dy.ngj dy.cgj, .slice dy.agn dy.ngn dy.cgn, .slice dy.agl dy.ngl dy.cgl]
 | 6, u => u = .bool true
 | 7, u => u = .bool false
 | 8, u => u = .bool false
 | 9, u => u = .bool false
 | 10, u => u = .bool ch
 | 11, u => u = .bool ch
 | 12, u => u = .bool false
 | 13, u => u = .bool false
 | 14, u => u = .bool false
 | 15, u => u = .pointer (some ⟨V, 0, none⟩)
 | 16, u => ∃ y, γ = some y ∧ u = .agg #[.int .i64 st1.rev, .slice y.aj y.nj y.cj, .slice y.an y.nn y.cn, .slice y.al y.nl y.cl]
 | 17, u => u = .pointer (some ⟨S, 0, none⟩)
 | 18, u => u = .pointer (some ⟨S, 0, none⟩)
 | 19, u => u = .pointer (some ⟨S, 0, none⟩)
 | 20, u => u = .agg #[.int .i64 st1.rev, .slice xr.aj xr.nj xr.cj, .slice xr.an xr.nn xr.cn, .slice xr.al xr.nl xr.cl]
 | 21, u => u = .bool true
 | 22, u => u = .bool false
 | 23, u => u = .bool false
 | 24, u => u = .bool false
 | 25, u => u = .pointer (some ⟨V, 0, none⟩)
 | 26, u => u = .int .i64 now1
 | 27, u => u = .pointer (some ⟨S, 0, none⟩)
 | 28, u => u = .pointer (some ⟨S, 0, none⟩)
 | 29, u => u = .pointer (some ⟨S, 4, none⟩)
 | 30, u => u = .int .i64 now1
 | 31, u => u = .bool false
 | 32, u => u = .bool false
 | _, _ => True
theorem cmpV_y {V S : Nat} {E : Int} {st1 : StateD} {now1 : Int} {xr : StA} {D : DeltaD} {dx dy : DelA} {ch : Bool} {γ : Option StA} (g : Option StA) : ∀ j v, j ≠ 16 → cmpV V S E st1 now1 xr D dx dy ch γ j v → cmpV V S E st1 now1 xr D dx dy ch g j v := by
 intro j v hj h
 unfold cmpV at *
 split at h
 all_goals first | exact h | exact absurd rfl hj
def endV (V S : Nat) (st1 : StateD) (xr : StA) (γ : Option StA) : Nat → Value → Prop
 | 0, u => u = .pointer (some ⟨V, 0, none⟩)
 | 1, u => ∃ y, γ = some y ∧ u = .agg #[.int .i64 st1.rev, .slice y.aj y.nj y.cj, .slice y.an y.nn y.cn, .slice y.al y.nl y.cl]
 | 2, u => u = .pointer (some ⟨S, 0, none⟩)
 | 3, u => u = .pointer (some ⟨S, 0, none⟩)
 | 4, u => u = .pointer (some ⟨S, 0, none⟩)
 | 5, u => u = .agg #[.int .i64 st1.rev, .slice xr.aj xr.nj xr.cj, .slice xr.an xr.nn xr.cn, .slice xr.al xr.nl xr.cl]
 | 6, u => u = .bool true
 | 7, u => u = .bool true
 | _, _ => True
theorem endV_y {V S : Nat} {st1 : StateD} {xr : StA} {γ : Option StA} (g : Option StA) : ∀ j v, j ≠ 1 → endV V S st1 xr γ j v → endV V S st1 xr g j v := by
 intro j v hj h
 unfold endV at *
 split at h
 all_goals first | exact h | exact absurd rfl hj
def LsEnd (w0 : World) (V S : Nat) (st : StateD) (now : Int) (xv xr : StA) (γ : Option StA) (w : World) : Prop := LsAt w0 w V S st now xv xr ∧ ∀ y, γ = some y → StAt w w.heap.size st y
theorem walkServeDoes (w : World) (s0 : StateD) (x0 : StA) (qs : List ReqD) (A : Option Addr) (n c : Nat) (hs : StAt w w.heap.size s0 x0 ∧ StFull s0) (hq : SlAt w w.heap.size 14 A n (rowsV reqV qs)) (hl : qs.length = n) (hn : n ≤ 9223372036854775807) (hf : ∀ q ∈ qs, ReqFull q) (hT : Tabs w) :
 Calls Tryz.prog 3 #[.agg (stC s0 x0), .slice A n c] w fun e w' => e = .returned (.bool true) ∧ Below w.heap.size w w' := by
 have hb1 : Below w.heap.size w (w.alloc (.cells (stC s0 x0) 26)) := (Below.refl _ _).alloc (Nat.le_refl _) _
 obtain ⟨W1, hW1⟩ : ∃ W1, w.alloc (.cells (stC s0 x0) 26) = W1 := ⟨_, rfl⟩
 have hB : Blk W1 w.heap.size 26 (stC s0 x0) := by rw [← hW1]; exact heap_alloc_new w _
 rw [hW1] at hb1
 have HS := hid hs.1
 have HF := hid hf
 have Hl := hid hl
 have HT := hid hT
 have Hb1 := hid hb1
 have HB := hid hB
 have HN := hid (show Calls Tryz.prog 7 #[.agg #[.int .i64 s0.rev, .slice x0.aj x0.nj x0.cj, .slice x0.an x0.nn x0.cn, .slice x0.al x0.nl x0.cl]] W1 (NewPost s0 W1) from svnew_any s0 x0 W1 (hs.1.upS hb1) (hT.below hb1))
 have HW1 := hid hW1
 have hlb := hB.lt
 obtain ⟨CE, hCE⟩ : ∃ CE, checkE s0 = CE := ⟨_, rfl⟩
 have HCE := hid hCE
 have HQ := hid hq
 obtain ⟨c0, c1, c2, c3⟩ := Blk.c4 (HB.out)
 clear hs hf hl hT hb1 hB hW1 hCE hq
 unfold stC at HW1 ⊢
 go_enter Tryz.func3, Tryz.ntmps3
 go_wp2_with fail
 try rw [HW1.out]
 clear HW1
 refine Calls.mono HN.out ?_
 rintro e w2 ⟨hb2, hcase⟩
 rw [HCE.out] at hcase
 have Hb2 := hid (Hb1.out.trans (hb2.mono Hb1.out.size))
 have HB2 := hid (HB.out.below hb2 HB.out.lt)
 have hs2 := hb2.size
 have Hs1 := hid Hb1.out.size
 clear hb2 HB Hb1 HN c0 c1 c2 c3 hlb
 have HC := hid (show Calls Tryz.prog 8 #[.agg #[.int .i64 s0.rev, .slice x0.aj x0.nj x0.cj, .slice x0.an x0.nn x0.cn, .slice x0.al x0.nl x0.cl]] w2 _ from rcheck_any s0 x0 w2 (HS.out.upS Hb2.out))
 obtain ⟨c0, c1, c2, c3⟩ := Blk.c4 (HB2.out)
 have hlb := HB2.out.lt
 rcases hcase with ⟨hbad, rfl⟩ | ⟨hgood, V, xv0, rfl, hV1, hV2⟩
 · have d1 : (CE != 0) = true := by simpa using hbad
   have d2 : (CE == CE) = true := beq_self_eq_true _
   clear hbad
   go_wp2_with fail
   refine Calls.mono HC.out ?_
   rintro e w3 ⟨rfl, hb3⟩
   have Hb3 := hid (Hb2.out.trans (hb3.mono Hb2.out.size))
   clear hb3 HC HB2 Hb2 c0 c1 c2 c3 hlb
   rw [HCE.out]
   go_wp2_with fail
   refine Calls.mono (bad_any w3) ?_
   rintro e w4 ⟨rfl, hb4⟩
   have Hb4 := hid (Hb3.out.trans (hb4.mono Hb3.out.size))
   clear hb4 Hb3
   have HN2 := hid (show Calls Tryz.prog 7 #[.agg #[.int .i64 (-1), .slice none 0 0, .slice none 0 0, .slice none 0 0]] w4 (NewPost badSt w4) from svnew_any badSt badA w4 (badAt w4 _) (HT.out.below Hb4.out))
   go_wp2_with fail
   refine Calls.mono HN2.out ?_
   rintro e w5 ⟨hb5, hcase⟩
   rw [bad_check] at hcase
   have Hb5 := hid (Hb4.out.trans (hb5.mono Hb4.out.size))
   clear hb5 HN2 Hb4
   rcases hcase with ⟨_, rfl⟩ | ⟨h, _⟩
   · go_wp2
     go_ret
     exact ⟨rfl, Hb5.out⟩
   · cases h
 · have HCE := hid (HCE.out.trans hgood)
   subst hgood
   have HV1 := hid hV1
   have HV2 := hid hV2
   clear hV1 hV2
   go_wp2_with fail
   refine Calls.mono HC.out ?_
   rintro e w3 ⟨rfl, hb3⟩
   have hB3 := HB2.out.below hb3 HB2.out.lt
   have hb3w := Hb2.out.trans (hb3.mono Hb2.out.size)
   have hv3 := HV2.out.below hb3
   rw [HCE.out]
   obtain ⟨e0, e1, e2, e3⟩ := Blk.c4 (hB3)
   have hlb3 := hB3.lt
   obtain ⟨w4, hw4⟩ : ∃ w4, w3.alloc (.cells #[.int .i64 s0.rev, .slice x0.aj x0.nj x0.cj, .slice x0.an x0.nn x0.cn, .slice x0.al x0.nl x0.cl, .int .i64 0] 36) = w4 := ⟨_, rfl⟩
   obtain ⟨S, hS⟩ : ∃ S, w3.heap.size = S := ⟨_, rfl⟩
   have hb4 : Below w3.heap.size w3 w4 := by rw [← hw4]; exact (Below.refl _ _).alloc (Nat.le_refl _) _
   have HL := hid (show LsAt w w4 V S s0 0 xv0 x0 from by
    have h1 := HV2.out.blk.lt
    have h2 := hb3.size
    have h3 := hb3w.size
    have h4 := HV1.out
    have h5 := Hs1.out
    refine ⟨hb3w.trans (hb4.mono hb3w.size), hv3.below hb4, ⟨?_, (HS.out.upS hb3w).upS hb4, HCE.out, by omega⟩, by omega, by omega, by omega⟩
    rw [← hw4, ← hS]; exact heap_alloc_new w3 _)
   have Hw4 := hid hw4
   have HSz := hid hS
   clear hw4 hS hb3 hB3 hb3w hv3 hb4 HC HB2 Hb2 c0 c1 c2 c3 hlb HV1 HV2
   have hlV := HL.out.v.blk.lt
   have hlS := HL.out.s.blk.lt
   go_wp2_with fail
   simp only [Hw4.out, HSz.out]
   clear Hw4 HSz e0 e1 e2 e3 hlb3
   go_loopw [55] (fun i wr => ∃ (k : Nat) (st : StateD) (now : Int) (xv xr : StA), k ≤ n ∧ i = .int .i64 k ∧ LsAt w wr V S st now xv xr) (fun i _ => n - (intOf i).toNat)
   case atStart => exact ⟨0, s0, 0, xv0, x0, Nat.zero_le _, rfl, HL.out⟩
   case round =>
    obtain ⟨k, st, now, xv, xr, hk, rfl, hL⟩ := hrel
    have HL := hid hL
    clear hL hlV hlS
    by_cases hlt : k < n
    · obtain ⟨q, hfq⟩ : ∃ q, qs[k]? = some q := ⟨_, List.getElem?_eq_getElem (by rw [Hl.out]; exact hlt)⟩
      obtain ⟨b, off, rfl, hbB, hc⟩ := (HQ.out.below HL.out.below).rec_ reqV_len Hl.out hfq
      have Hok := hid (rok_of (HF.out q (List.mem_of_getElem? hfq)))
      have hwb := HL.out.below.size
      obtain ⟨c0, c1, c2, c3, c4, c5, c6, c7, c8, c9, c10, c11, c12, c13⟩ := rc14 hc
      have hlk : k * 14 + 14 ≤ n * 14 := by omega
      have hbl : b < wr.heap.size := by omega
      have hbQ : Below wr.heap.size wr (wr.alloc (.cells (reqC q) 44)) := (Below.refl _ _).alloc (Nat.le_refl _) _
      have HL1 := hid (HL.out.kept hbQ)
      have HQ1 := hid (show Blk (wr.alloc (.cells (reqC q) 44)) wr.heap.size 44 (reqC q) from heap_alloc_new wr _)
      have HD := hid (show Calls Tryz.prog 10 #[.pointer (some ⟨V, 0, none⟩), .agg (reqL q)] (wr.alloc (.cells (reqL q) 44)) (AskPost 77 V st (srvR st now (askR st now q)) (wr.alloc (.cells (reqC q) 44))) from svdo_any q st xv now V _ HL1.out.v Hok.out (HT.out.below HL1.out.below))
      clear hfq hc hbQ
      go_wp2_with fail
      refine Calls.mono HD.out ?_
      rintro e w2 ⟨D, dx, xv1, rfl, hD, hdx, hv, hsv, hg⟩
      have hok1 := srvR_ok (q := q) HL.out.v.ok HL.out.v.t
      have HD2 := hid (fun W h => rdo_any q st xr now S W h Hok.out)
      obtain ⟨R, hR⟩ : ∃ R, srvR st now (askR st now q) = R := ⟨_, rfl⟩
      rw [hR] at hD hv hsv hok1 HD2 ⊢
      obtain ⟨E, ch, st1, now1⟩ := R
      dsimp only at hD hv hsv hok1 ⊢
      obtain ⟨hs2, hb2⟩ := HL1.out.ask1 hg
      have hne := HL.out.ne
      have hq2 := grow_blk hg HQ1.out (by have := HL.out.v.blk.lt; omega)
      obtain ⟨w3, hw3⟩ : ∃ w3, (w2.alloc (.cells #[.int .i64 E, .int .i64 st1.rev] 46)).alloc (.cells (dC D dx) 49) = w3 := ⟨_, rfl⟩
      have hb3 : Below w2.heap.size w2 w3 := by rw [← hw3]; exact ((Below.refl _ _).alloc (Nat.le_refl _) _).alloc (by simp) _
      have hra : Blk w3 w2.heap.size 46 #[.int .i64 E, .int .i64 st1.rev] := by rw [← hw3]; exact Blk.alloc (show Blk _ _ _ _ from heap_alloc_new w2 _) _
      have hda : Blk w3 (w2.heap.size + 1) 49 (dC D dx) := by
       rw [← hw3]
       have h := heap_alloc_new (w2.alloc (.cells #[.int .i64 E, .int .i64 st1.rev] 46)) (.cells (dC D dx) 49)
       rwa [show (w2.alloc (.cells #[.int .i64 E, .int .i64 st1.rev] 46)).heap.size = w2.heap.size + 1 by simp] at h
      have HQ3 := hid (hq2.below hb3 hq2.lt)
      have HV3 := hid (show SrvAt w3 77 V st1 xv1 now1 from (show SrvAt w2 77 V st1 xv1 now1 from ⟨hv, hsv, hok1.1, hok1.2⟩).below hb3)
      have HS3 := hid (hs2.below hb3)
      have Hb3 := hid (hb2.trans (hb3.mono hb2.size))
      have Hra := hid hra
      have Hda := hid hda
      have Hdx := hid (hdx.upS hb3)
      have Hw3 := hid hw3
      have HDd := hid hD
      have HR := hid hR
      have HDr := hid (show Calls Tryz.prog 11 #[.pointer (some ⟨S, 0, none⟩), .agg (reqL q)] w3 (AskPost 36 S st ⟨E, ch, st1, now1⟩ w3) from HD2.out w3 HS3.out)
      have hlq2 := hq2.lt
      have Hlq2 := hid hlq2
      have hlq3 := HQ3.out.lt
      obtain ⟨b0, b1, b2, b3, b4, b5, b6, b7, b8, b9, b10, b11, b12, b13⟩ := Blk.c14 (show Blk ((w2.alloc (.cells #[.int .i64 E, .int .i64 st1.rev] 46)).alloc (.cells #[.int .i64 D.from_, .int .i64 D.to_, .slice dx.aj dx.nj dx.cj, .slice dx.an dx.nn dx.cn, .slice dx.al dx.nl dx.cl, .slice dx.agj dx.ngj dx.cgj, .slice dx.agn dx.ngn dx.cgn, .slice dx.agl dx.ngl dx.cgl] 49)) (wr.heap.size) _ _ from by rw [show (w2.alloc (.cells #[.int .i64 E, .int .i64 st1.rev] 46)).alloc (.cells #[.int .i64 D.from_, .int .i64 D.to_, .slice dx.aj dx.nj dx.cj, .slice dx.an dx.nn dx.cn, .slice dx.al dx.nl dx.cl, .slice dx.agj dx.ngj dx.cgj, .slice dx.agn dx.ngn dx.cgn, .slice dx.agl dx.ngl dx.cgl] 49) = w3 from hw3]; exact HQ3.out)
      obtain ⟨a0, a1, a2, a3, a4, a5, a6, a7, a8, a9, a10, a11, a12, a13⟩ := Blk.c14 (hq2)
      clear hD hv hsv hdx hg hok1 hs2 hb2 hne hq2 hw3 hb3 hra hda hR HD2 HD HL1 HQ1 c0 c1 c2 c3 c4 c5 c6 c7 c8 c9 c10 c11 c12 c13
      unfold dC at Hw3 ⊢
      go_wp2_with fail
      simp only [Hw3.out]
      clear Hw3 a0 b0 a1 b1 a2 b2 a3 b3 a4 b4 a5 b5 a6 b6 a7 b7 a8 b8 a9 b9 a10 b10 a11 b11 a12 b12 a13 b13 hlq2
      refine Calls.mono HDr.out ?_
      rintro e w4 ⟨D2, dy, xr1, rfl, hD2, hdy, hr4, hsr4, hg4⟩
      dsimp only at hD2 hr4 hsr4 ⊢
      obtain rfl : D2 = D := hD2.trans HDd.out.symm
      have hS3 := HS3.out.blk
      have hvne : V ≠ S := HL.out.ne
      have hv4 := HV3.out.other hS3 (noStr_srv _ _ _) hg4 hvne
      have hb4 := grow_keep Hb3.out hg4 HL.out.ss
      have hra4 := grow_blk hg4 Hra.out (by have := HL.out.s.blk.lt; have := Hlq2.out; omega)
      have hda4 := grow_blk hg4 Hda.out (by have := HL.out.s.blk.lt; have := Hlq2.out; omega)
      have hdx4 := (Hdx.out.butN hS3 (noStr_srv _ _ _) hg4).more hg4.size
      obtain ⟨w5, hw5⟩ : ∃ w5, (w4.alloc (.cells #[.int .i64 E, .int .i64 st1.rev] 46)).alloc (.cells (dC D2 dy) 49) = w5 := ⟨_, rfl⟩
      have hb5 : Below w4.heap.size w4 w5 := by rw [← hw5]; exact ((Below.refl _ _).alloc (Nat.le_refl _) _).alloc (by simp) _
      have hrb : Blk w5 w4.heap.size 46 #[.int .i64 E, .int .i64 st1.rev] := by rw [← hw5]; exact Blk.alloc (show Blk _ _ _ _ from heap_alloc_new w4 _) _
      have hdb : Blk w5 (w4.heap.size + 1) 49 (dC D2 dy) := by
       rw [← hw5]
       have h := heap_alloc_new (w4.alloc (.cells #[.int .i64 E, .int .i64 st1.rev] 46)) (.cells (dC D2 dy) 49)
       rwa [show (w4.alloc (.cells #[.int .i64 E, .int .i64 st1.rev] 46)).heap.size = w4.heap.size + 1 by simp] at h
      have H5 := hid (show CmpAt w V S w2.heap.size (w2.heap.size + 1) w4.heap.size (w4.heap.size + 1) E st1 now1 xv1 xr1 D2 dx dy none w5 from
       ⟨⟨hb4.trans (hb5.mono hb4.size), hv4.below hb5, (show SrvAt w4 36 S st1 xr1 now1 from ⟨hr4, hsr4, hv4.ok, hv4.t⟩).below hb5, HL.out.vs, HL.out.ss, hvne⟩, hra4.below hb5 hra4.lt, hda4.below hb5 hda4.lt, hrb, hdb, hdx4.upS hb5, hdy.upS hb5, fun _ h => by cases h⟩)
      have Hw5 := hid hw5
      obtain ⟨RA, hRA⟩ : ∃ RA, w2.heap.size = RA := ⟨_, rfl⟩
      obtain ⟨DA, hDA⟩ : ∃ DA, RA + 1 = DA := ⟨_, rfl⟩
      obtain ⟨RB, hRB⟩ : ∃ RB, w4.heap.size = RB := ⟨_, rfl⟩
      obtain ⟨DB, hDB⟩ : ∃ DB, RB + 1 = DB := ⟨_, rfl⟩
      rw [hRA, hRB, hDA, hDB] at H5
      have HA1 := hid hRA
      have HA2 := hid hDA
      have HA3 := hid hRB
      have HA4 := hid hDB
      clear Hlq2 hD2 hr4 hsr4 hdy hg4 hS3 hvne hv4 hb4 hra4 hda4 hdx4 hw5 hb5 hrb hdb hRA hDA hRB hDB HDr HDd HV3 HS3 Hb3 Hra Hda Hdx HQ3 HR hlq3
      unfold dC at Hw5 ⊢
      go_wp2_with fail
      simp only [Hw5.out, HA2.out, HA4.out, HA1.out, HA3.out]
      clear Hw5 HA1 HA2 HA3 HA4
      refine rq (Γ := Option StA) 114 (cmpV V S E st1 now1 xr1 D2 dx dy ch) [] (fun _ γ wx => CmpAt w V S RA DA RB DB E st1 now1 xv1 xr1 D2 dx dy γ wx) none H5.out.drew ?_ ?_
      · clear H5
        refine ⟨?_, ?_, ?_, ?_, ?_, ?_, ?_, ?_, ?_, ?_, ?_, ?_, ?_, ?_, ?_, ?_, ?_, ?_, ?_, ?_, ?_, ?_, ?_, ?_, ?_, ?_, ?_, ?_, ?_, ?_, ?_, ?_, ?_, trivial⟩
        · refine okQ 0 0 fun p γ a wx _ _ hp hk => ?_
          have h1 := hk.k 13 rfl
          obtain ⟨hc0, hc1⟩ := Blk.c2 (hp.a)
          simp [go_sem, Oper.wp, execOp, Act.eval, h1, hc0, hc1]
          exact ⟨_, rfl, γ, fun _ _ _ h => h, rfl, hp⟩
        · refine okQ 0 0 fun p γ a wx _ _ hp hk => ?_
          have h1 := hk.k 16 rfl
          obtain ⟨hc0, hc1⟩ := Blk.c2 (hp.c)
          simp [go_sem, Oper.wp, execOp, Act.eval, h1, hc0, hc1]
          exact ⟨_, rfl, γ, fun _ _ _ h => h, rfl, hp⟩
        · refine okQ 0 0 fun p γ a wx _ _ hp hk => ?_
          obtain ⟨u1, h1, rfl⟩ := hk.g 0 73 rfl rfl
          obtain ⟨u2, h2, rfl⟩ := hk.g 1 74 rfl rfl
          simp [go_sem, Oper.wp, execOp, Act.eval, h1, h2]
          exact ⟨_, rfl, γ, fun _ _ _ h => h, rfl, hp⟩
        · exact ok1 0 0 2 75 rfl rfl (fun _ _ h => h) fun _ => rfl
        · refine okR false 3 76 rfl rfl rfl (fun _ _ h => h) fun p γ a wx _ _ hp hk => ?_
          have h1 := hk.k 14 rfl
          obtain ⟨hc0, hc1, hc2, hc3, hc4, hc5, hc6, hc7⟩ := Blk.c8 (hp.b)
          simp [go_sem, Oper.wp, execOp, Act.eval, h1, hc0, hc1, hc2, hc3, hc4, hc5, hc6, hc7]
          exact ⟨_, rfl, γ, fun _ _ _ h => h, rfl, hp⟩
        · refine okR false 3 76 rfl rfl rfl (fun _ _ h => h) fun p γ a wx _ _ hp hk => ?_
          have h1 := hk.k 17 rfl
          obtain ⟨hc0, hc1, hc2, hc3, hc4, hc5, hc6, hc7⟩ := Blk.c8 (hp.f)
          simp [go_sem, Oper.wp, execOp, Act.eval, h1, hc0, hc1, hc2, hc3, hc4, hc5, hc6, hc7]
          exact ⟨_, rfl, γ, fun _ _ _ h => h, rfl, hp⟩
        · refine okR false 3 76 rfl rfl rfl (fun _ _ h => h) fun p γ a wx _ _ hp hk => ?_
          obtain ⟨u1, h1, rfl⟩ := hk.g 4 77 rfl rfl
          obtain ⟨u2, h2, rfl⟩ := hk.g 5 78 rfl rfl
          have hp := (show CmpAt w V S RA DA RB DB E st1 now1 xv1 xr1 D2 dx dy γ wx from hp)
          simp [go_sem, Oper.wp, execOp, Act.eval, h1, h2]
          refine (deq_same D2 dx dy wx hp.dx_ hp.dy_).mono ?_
          rintro e w' ⟨rfl, hb⟩
          exact ⟨_, rfl, γ, fun _ _ _ h => h, rfl, hp.kept hb⟩
        · refine okR false 3 76 rfl rfl rfl (fun _ _ h => h) fun p γ a wx _ _ hp hk => ?_
          obtain ⟨u1, h1, rfl⟩ := hk.g 6 79 rfl rfl
          simp [go_sem, Oper.wp, execOp, Act.eval, h1]
          exact ⟨_, rfl, γ, fun _ _ _ h => h, rfl, hp⟩
        · refine okQ 0 0 fun p γ a wx _ _ hp hk => ?_
          obtain ⟨u1, h1, rfl⟩ := hk.g 3 76 rfl rfl
          obtain ⟨u2, h2, rfl⟩ := hk.g 7 80 rfl rfl
          simp [go_sem, Oper.wp, execOp, Act.eval, h1, h2]
          exact ⟨_, rfl, γ, fun _ _ _ h => h, rfl, hp⟩
        · exact ok1 0 0 8 81 rfl rfl (fun _ _ h => h) fun _ => rfl
        · refine okR false 9 82 rfl rfl rfl (fun _ _ h => h) fun p γ a wx _ _ hp hk => ?_
          have h1 := hk.k 15 rfl
          simp [go_sem, Oper.wp, execOp, Act.eval, h1]
          exact ⟨_, rfl, γ, fun _ _ _ h => h, rfl, hp⟩
        · refine okR false 9 82 rfl rfl rfl (fun _ _ h => h) fun p γ a wx _ _ hp hk => ?_
          have h1 := hk.k 18 rfl
          simp [go_sem, Oper.wp, execOp, Act.eval, h1]
          exact ⟨_, rfl, γ, fun _ _ _ h => h, rfl, hp⟩
        · refine okR false 9 82 rfl rfl rfl (fun _ _ h => h) fun p γ a wx _ _ hp hk => ?_
          obtain ⟨u1, h1, rfl⟩ := hk.g 10 83 rfl rfl
          obtain ⟨u2, h2, rfl⟩ := hk.g 11 84 rfl rfl
          cases ch
          all_goals simp [go_sem, Oper.wp, execOp, Act.eval, h1, h2]
          all_goals exact ⟨_, rfl, γ, fun _ _ _ h => h, rfl, hp⟩
        · refine okQ 0 0 fun p γ a wx _ _ hp hk => ?_
          obtain ⟨u1, h1, rfl⟩ := hk.g 9 82 rfl rfl
          obtain ⟨u2, h2, rfl⟩ := hk.g 12 85 rfl rfl
          simp [go_sem, Oper.wp, execOp, Act.eval, h1, h2]
          exact ⟨_, rfl, γ, fun _ _ _ h => h, rfl, hp⟩
        · exact ok1 0 0 13 86 rfl rfl (fun _ _ h => h) fun _ => rfl
        · refine okR false 14 87 rfl rfl rfl (fun _ _ h => h) fun p γ a wx _ _ hp hk => ?_
          have h1 := hk.k 5 rfl
          simp [go_sem, Oper.wp, execOp, Act.eval, h1]
          exact ⟨_, rfl, γ, fun _ _ _ h => h, rfl, hp⟩
        · refine okR false 14 87 rfl rfl rfl (fun _ _ h => h) fun p γ a wx _ _ hp hk => ?_
          obtain ⟨u1, h1, rfl⟩ := hk.g 15 88 rfl rfl
          have hp := (show CmpAt w V S RA DA RB DB E st1 now1 xv1 xr1 D2 dx dy γ wx from hp)
          simp [go_sem, Oper.wp, execOp, Act.eval, h1]
          refine (svstate_any st1 xv1 now1 V wx hp.l.v).mono ?_
          rintro e w' ⟨y, rfl, hy, hb⟩
          exact ⟨_, rfl, some y, cmpV_y _, ⟨y, rfl, rfl⟩, hp.state hb hy⟩
        · refine okR false 14 87 rfl rfl rfl (fun _ _ h => h) fun p γ a wx _ _ hp hk => ?_
          have h1 := hk.k 10 rfl
          simp [go_sem, Oper.wp, execOp, Act.eval, h1]
          exact ⟨_, rfl, γ, fun _ _ _ h => h, rfl, hp⟩
        · refine okR false 14 87 rfl rfl rfl (fun _ _ h => h) fun p γ a wx _ _ hp hk => ?_
          obtain ⟨u1, h1, rfl⟩ := hk.g 17 90 rfl rfl
          simp [go_sem, Oper.wp, execOp, Act.eval, h1]
          exact ⟨_, rfl, γ, fun _ _ _ h => h, rfl, hp⟩
        · refine okR false 14 87 rfl rfl rfl (fun _ _ h => h) fun p γ a wx _ _ hp hk => ?_
          obtain ⟨u1, h1, rfl⟩ := hk.g 18 91 rfl rfl
          simp [go_sem, Oper.wp, execOp, Act.eval, h1]
          exact ⟨_, rfl, γ, fun _ _ _ h => h, rfl, hp⟩
        · refine okR false 14 87 rfl rfl rfl (fun _ _ h => h) fun p γ a wx _ _ hp hk => ?_
          obtain ⟨u1, h1, rfl⟩ := hk.g 19 92 rfl rfl
          obtain ⟨hc0, hc1, hc2, hc3⟩ := Blk.c4 (hp.l.s.blk)
          simp [go_sem, Oper.wp, execOp, Act.eval, h1, hc0, hc1, hc2, hc3]
          exact ⟨_, rfl, γ, fun _ _ _ h => h, rfl, hp⟩
        · refine okR false 14 87 rfl rfl rfl (fun _ _ h => h) fun p γ a wx _ _ hp hk => ?_
          obtain ⟨u1, h1, ⟨y1, ey1, rfl⟩⟩ := hk.g 16 89 rfl rfl
          obtain ⟨u2, h2, rfl⟩ := hk.g 20 93 rfl rfl
          have hp := (show CmpAt w V S RA DA RB DB E st1 now1 xv1 xr1 D2 dx dy γ wx from hp)
          simp [go_sem, Oper.wp, execOp, Act.eval, h1, h2]
          refine (same_any st1 st1 y1 xr1 wx (hp.y y1 ey1) hp.l.s.at_).mono ?_
          rintro e w' ⟨t, rfl, ht, hb⟩
          obtain rfl := ht.2 rfl
          exact ⟨_, rfl, γ, fun _ _ _ h => h, rfl, hp.kept hb⟩
        · refine okR false 14 87 rfl rfl rfl (fun _ _ h => h) fun p γ a wx _ _ hp hk => ?_
          obtain ⟨u1, h1, rfl⟩ := hk.g 21 94 rfl rfl
          simp [go_sem, Oper.wp, execOp, Act.eval, h1]
          exact ⟨_, rfl, γ, fun _ _ _ h => h, rfl, hp⟩
        · refine okQ 0 0 fun p γ a wx _ _ hp hk => ?_
          obtain ⟨u1, h1, rfl⟩ := hk.g 14 87 rfl rfl
          obtain ⟨u2, h2, rfl⟩ := hk.g 22 95 rfl rfl
          simp [go_sem, Oper.wp, execOp, Act.eval, h1, h2]
          exact ⟨_, rfl, γ, fun _ _ _ h => h, rfl, hp⟩
        · exact ok1 0 0 23 96 rfl rfl (fun _ _ h => h) fun _ => rfl
        · refine okR false 24 97 rfl rfl rfl (fun _ _ h => h) fun p γ a wx _ _ hp hk => ?_
          have h1 := hk.k 5 rfl
          simp [go_sem, Oper.wp, execOp, Act.eval, h1]
          exact ⟨_, rfl, γ, fun _ _ _ h => h, rfl, hp⟩
        · refine okR false 24 97 rfl rfl rfl (fun _ _ h => h) fun p γ a wx _ _ hp hk => ?_
          obtain ⟨u1, h1, rfl⟩ := hk.g 25 98 rfl rfl
          have hp := (show CmpAt w V S RA DA RB DB E st1 now1 xv1 xr1 D2 dx dy γ wx from hp)
          simp [go_sem, Oper.wp, execOp, Act.eval, h1]
          refine (svnow_any st1 xv1 now1 V wx hp.l.v).mono ?_
          rintro e w' ⟨rfl, rfl⟩
          exact ⟨_, rfl, γ, fun _ _ _ h => h, rfl, hp⟩
        · refine okR false 24 97 rfl rfl rfl (fun _ _ h => h) fun p γ a wx _ _ hp hk => ?_
          have h1 := hk.k 10 rfl
          simp [go_sem, Oper.wp, execOp, Act.eval, h1]
          exact ⟨_, rfl, γ, fun _ _ _ h => h, rfl, hp⟩
        · refine okR false 24 97 rfl rfl rfl (fun _ _ h => h) fun p γ a wx _ _ hp hk => ?_
          obtain ⟨u1, h1, rfl⟩ := hk.g 27 100 rfl rfl
          simp [go_sem, Oper.wp, execOp, Act.eval, h1]
          exact ⟨_, rfl, γ, fun _ _ _ h => h, rfl, hp⟩
        · refine okR false 24 97 rfl rfl rfl (fun _ _ h => h) fun p γ a wx _ _ hp hk => ?_
          obtain ⟨u1, h1, rfl⟩ := hk.g 28 101 rfl rfl
          simp [go_sem, Oper.wp, execOp, Act.eval, h1]
          exact ⟨_, rfl, γ, fun _ _ _ h => h, rfl, hp⟩
        · refine okR false 24 97 rfl rfl rfl (fun _ _ h => h) fun p γ a wx _ _ hp hk => ?_
          obtain ⟨u1, h1, rfl⟩ := hk.g 29 102 rfl rfl
          have hc0 : wx.cell? ⟨S, 4, none⟩ = some (.int .i64 now1) := hp.l.s.blk.cell 4
          simp [go_sem, Oper.wp, execOp, Act.eval, h1, hc0]
          exact ⟨_, rfl, γ, fun _ _ _ h => h, rfl, hp⟩
        · refine okR false 24 97 rfl rfl rfl (fun _ _ h => h) fun p γ a wx _ _ hp hk => ?_
          obtain ⟨u1, h1, rfl⟩ := hk.g 26 99 rfl rfl
          obtain ⟨u2, h2, rfl⟩ := hk.g 30 103 rfl rfl
          simp [go_sem, Oper.wp, execOp, Act.eval, h1, h2]
          exact ⟨_, rfl, γ, fun _ _ _ h => h, rfl, hp⟩
        · refine okQ 0 0 fun p γ a wx _ _ hp hk => ?_
          obtain ⟨u1, h1, rfl⟩ := hk.g 24 97 rfl rfl
          obtain ⟨u2, h2, rfl⟩ := hk.g 31 104 rfl rfl
          simp [go_sem, Oper.wp, execOp, Act.eval, h1, h2]
          exact ⟨_, rfl, γ, fun _ _ _ h => h, rfl, hp⟩
      intro γ act wz hd
      have hz := (show CmpAt w V S RA DA RB DB E st1 now1 xv1 xr1 D2 dx dy γ wz from hd.ph)
      obtain ⟨fv, rfl, hfv⟩ := hd.frame [73, 74, 75, 76, 77, 78, 79, 80, 81, 82, 83, 84, 85, 86, 87, 88, 89, 90, 91, 92, 93, 94, 95, 96, 97, 98, 99, 100, 101, 102, 103, 104, 105] rfl
      have f105 : fv 105 = .bool false := hfv 32 _ 105 rfl rfl
      have Hz := hid hz.l
      simp only [foldl_cons, foldl_nil, setIfInBounds_toArray, set_cons_succ, set_cons_zero, f105]
      clear hd hfv hz f105 H5
      go_wp2
      go_roundw
      case rel => exact ⟨k + 1, st1, now1, xv1, xr1, by omega, by go_num, Hz.out⟩
      case measure => simp [intOf]; omega
    · obtain rfl : k = n := by omega
      clear hlt
      go_wp2_with fail
      refine rq (Γ := Option StA) 114 (endV V S st xr) [] (fun _ γ wx => LsEnd w V S st now xv xr γ wx) none ⟨HL.out.drew, fun _ h => by cases h⟩ ?_ ?_
      · clear HL
        refine ⟨?_, ?_, ?_, ?_, ?_, ?_, ?_, ?_, trivial⟩
        · exact ok0 0 0 5 rfl fun _ => rfl
        · refine okQ 0 0 fun p γ a wx _ _ hp hk => ?_
          obtain ⟨u1, h1, rfl⟩ := hk.g 0 107 rfl rfl
          have hp := (show LsEnd w V S st now xv xr γ wx from hp)
          simp [go_sem, Oper.wp, execOp, Act.eval, h1]
          refine (svstate_any st xv now V wx hp.1.v).mono ?_
          rintro e w' ⟨y, rfl, hy, hb⟩
          exact ⟨_, rfl, some y, endV_y _, ⟨y, rfl, rfl⟩, hp.1.kept hb, fun z e => by injection e with e; subst e; exact hy⟩
        · exact ok0 0 0 10 rfl fun _ => rfl
        · exact ok1 0 0 2 109 rfl rfl (fun _ _ h => h) fun _ => rfl
        · exact ok1 0 0 3 110 rfl rfl (fun _ _ h => h) fun _ => rfl
        · refine okQ 0 0 fun p γ a wx _ _ hp hk => ?_
          obtain ⟨u1, h1, rfl⟩ := hk.g 4 111 rfl rfl
          obtain ⟨hc0, hc1, hc2, hc3⟩ := Blk.c4 ((show LsEnd w V S st now xv xr γ wx from hp).1.s.blk)
          simp [go_sem, Oper.wp, execOp, Act.eval, h1, hc0, hc1, hc2, hc3]
          exact ⟨_, rfl, γ, fun _ _ _ h => h, rfl, hp⟩
        · refine okQ 0 0 fun p γ a wx _ _ hp hk => ?_
          obtain ⟨u1, h1, ⟨y1, ey1, rfl⟩⟩ := hk.g 1 108 rfl rfl
          obtain ⟨u2, h2, rfl⟩ := hk.g 5 112 rfl rfl
          have hp := (show LsEnd w V S st now xv xr γ wx from hp)
          simp [go_sem, Oper.wp, execOp, Act.eval, h1, h2]
          refine (same_any st st y1 xr wx (hp.2 y1 ey1) hp.1.s.at_).mono ?_
          rintro e w' ⟨t, rfl, ht, hb⟩
          obtain rfl := ht.2 rfl
          exact ⟨_, rfl, γ, fun _ _ _ h => h, rfl, hp.1.kept hb, fun y e => (hp.2 y e).upS hb⟩
        · exact ok1 0 0 6 113 rfl rfl (fun _ _ h => h) fun _ => rfl
      intro γ act wz hd
      have hz := (show LsEnd w V S st now xv xr γ wz from hd.ph)
      obtain ⟨fv, rfl, hfv⟩ := hd.frame [107, 108, 109, 110, 111, 112, 113, 4] rfl
      have f4 : fv 4 = .bool true := hfv 7 _ 4 rfl rfl
      have Hz := hid hz.1.below
      simp only [foldl_cons, foldl_nil, setIfInBounds_toArray, set_cons_succ, set_cons_zero, f4]
      clear hd hfv hz f4
      go_wp2
      go_ret
      exact ⟨rfl, Hz.out⟩
end Go.Proofs.YtjgnnobccecpeaaGreatDoor
