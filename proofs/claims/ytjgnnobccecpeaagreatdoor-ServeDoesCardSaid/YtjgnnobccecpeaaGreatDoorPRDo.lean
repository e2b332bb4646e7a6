/- Of the proof. -/
import Derived.Test.YtjgnnobccecpeaaGreatDoorPDEqR
import Derived.Test.YtjgnnobccecpeaaGreatDoorPNxB
set_option linter.unusedVariables false
set_option linter.unusedSimpArgs false
set_option maxRecDepth 100000
set_option maxHeartbeats 8000000
namespace Go.Proofs.YtjgnnobccecpeaaGreatDoor
open Go.Lib (hid)
open List (foldl_cons foldl_nil setIfInBounds_toArray set_cons_succ set_cons_zero)
open Go.RowKit
structure RdAt (w0 : World) (V : Nat) (st : StateD) (x : StA) (now : Int) (q : ReqD) (w : World) : Prop where
 sv : SrvAt w 36 V st x now
 q : Blk w w0.heap.size 44 (reqC q)
 r : Blk w (w0.heap.size + 1) 46 #[.int .i64 0, .int .i64 0]
 d : Blk w (w0.heap.size + 2) 49 zDel
 below : Below w0.heap.size w0 w
 lt : V < w0.heap.size
structure RdG where
 N : Option Nat
 y : Option StA
def rsdV (S V : Nat) (st : StateD) (x : StA) (now : Int) (q : ReqD) (E : Int) (so : StateD) (nw : Int) (γ : RdG) : Nat → Value → Prop
 | 0, u => u = .pointer (some ⟨V, 0, none⟩)
 | 1, u => u = .pointer (some ⟨V, 0, none⟩)
 | 2, u => u = .agg #[.int .i64 st.rev, .slice x.aj x.nj x.cj, .slice x.an x.nn x.cn, .slice x.al x.nl x.cl, .int .i64 now]
 | 3, u => u = .agg #[.int .i64 q.kind, .string q.job.name, .int .i64 q.job.prio, .int .i64 q.job.need, .int .i64 q.job.tries, .string q.job.tag, .string q.node.name, .int .i64 q.node.room, .string q.node.zone, .string q.lease.job, .string q.lease.node, .int .i64 q.lease.till, .string q.name, .int .i64 q.n]
 | 4, u => ∃ y, γ.y = some y ∧ u = .tuple #[.agg #[.int .i64 so.rev, .slice y.aj y.nj y.cj, .slice y.an y.nn y.cn, .slice y.al y.nl y.cl], .int .i64 nw, .int .i64 E]
 | 5, u => ∃ y, γ.y = some y ∧ u = .tuple #[.agg #[.int .i64 so.rev, .slice y.aj y.nj y.cj, .slice y.an y.nn y.cn, .slice y.al y.nl y.cl], .int .i64 nw, .int .i64 E]
 | 6, u => ∃ y, γ.y = some y ∧ u = .agg #[.int .i64 so.rev, .slice y.aj y.nj y.cj, .slice y.an y.nn y.cn, .slice y.al y.nl y.cl]
 | 7, u => u = .int .i64 nw
 | 8, u => u = .int .i64 E
 | 9, u => ∃ N, γ.N = some N ∧ u = .pointer (some ⟨N, 0, none⟩)
 | 11, u => u = .int .i64 nw
 | 12, u => u = .int .i64 E
 | _, _ => True
theorem rsdV_N {S V : Nat} {st : StateD} {x : StA} {now : Int} {q : ReqD} {E : Int} {so : StateD} {nw : Int} {γ : RdG} (N : Option Nat) : ∀ j v, j ≠ 9 → rsdV S V st x now q E so nw γ j v → rsdV S V st x now q E so nw ⟨N, γ.y⟩ j v := by
 intro j v hj h
 unfold rsdV at *
 split at h
 all_goals first | exact h | exact absurd rfl hj
theorem rsdV_y {S V : Nat} {st : StateD} {x : StA} {now : Int} {q : ReqD} {E : Int} {so : StateD} {nw : Int} {γ : RdG} (hn : γ.y = none) (y : Option StA) : ∀ j v, j ≠ 4 → rsdV S V st x now q E so nw γ j v → rsdV S V st x now q E so nw ⟨γ.N, y⟩ j v := by
 intro j v hj h
 unfold rsdV at *
 split at h
 all_goals first | exact h | (obtain ⟨_, h1, _⟩ := h; rw [hn] at h1; cases h1)
structure RdP (w0 : World) (V : Nat) (st : StateD) (x : StA) (now : Int) (q : ReqD) (so : StateD) (p : Nat) (γ : RdG) (w : World) : Prop where
 h : RdAt w0 V st x now q w
 y0 : p = 0 → γ.y = none
 y1 : 0 < p → ∃ y, γ.y = some y ∧ StAt w w.heap.size so y
 n0 : p < 2 → ∀ N, γ.N = some N → w0.heap.size + 3 ≤ N ∧ Blk w N 26 zSta
 n2 : p = 2 → ∃ N y, γ.N = some N ∧ γ.y = some y ∧ w0.heap.size + 3 ≤ N ∧ Blk w N 26 (stC so y)
structure RnE (w0 : World) (V N DD : Nat) (st : StateD) (x : StA) (now : Int) (q : ReqD) (so : StateD) (z : StA) (D : DeltaD) (p : Nat) (γ : DelA) (w : World) : Prop where
 h : RdAt w0 V st x now q w
 n : Blk w N 26 (stC so z)
 a : StAt w w.heap.size so z
 db : Blk w DD 49 (dcP D γ p)
 del : 0 < p → DelAt w w.heap.size D γ
 ns : w0.heap.size + 3 ≤ N
 ds : w0.heap.size + 3 ≤ DD
 nd : N ≠ DD
section
variable {w0 w w' : World} {V N DD : Nat} {st : StateD} {x : StA} {now : Int} {q : ReqD} {so : StateD} {z y : StA} {nw : Int} {D : DeltaD} {γ dx : DelA} {g : RdG} {p : Nat}
theorem RdAt.kept (h : RdAt w0 V st x now q w) (hb : Below w.heap.size w w') : RdAt w0 V st x now q w' :=
 ⟨h.sv.below hb, h.q.below hb h.q.lt, h.r.below hb h.r.lt, h.d.below hb h.d.lt, h.below.trans (hb.mono h.below.size), h.lt⟩
theorem RdAt.drew (h : RdAt w0 V st x now q w) : RdAt w0 V st x now q w.drew := ⟨⟨h.sv.blk, h.sv.at_.drew, h.sv.ok, h.sv.t⟩, h.q, h.r, h.d, h.below.drew, h.lt⟩
theorem RdAt.but (h : RdAt w0 V st x now q w) {g : Nat} {t : TypeId} {cs : Array Value} (hb : Blk w g t cs) (hc : noStr cs) (hg : w.grownBy w' (some g)) (hn : w0.heap.size + 3 ≤ g) : RdAt w0 V st x now q w' := by
 have := h.lt
 exact ⟨⟨grow_blk hg h.sv.blk (by omega), (h.sv.at_.butN hb hc hg).more hg.size, h.sv.ok, h.sv.t⟩, grow_blk hg h.q (by omega), grow_blk hg h.r (by omega), grow_blk hg h.d (by omega), grow_keep h.below hg (by omega), h.lt⟩
theorem RdP.drew (h : RdP w0 V st x now q so 0 g w) : RdP w0 V st x now q so 0 g w.drew :=
 ⟨h.h.drew, h.y0, fun h => absurd h (by decide), fun hp N hN => h.n0 hp N hN, fun h => absurd h (by decide)⟩
theorem RdP.call (h : RdP w0 V st x now q so 0 g w) (ha : StAt w' w'.heap.size so y) (hb : Below w.heap.size w w') : RdP w0 V st x now q so 1 ⟨g.N, some y⟩ w' :=
 ⟨h.h.kept hb, fun h => absurd h (by decide), fun _ => ⟨y, rfl, ha⟩, fun _ N hN => ⟨(h.n0 (by decide) N hN).1, (h.n0 (by decide) N hN).2.below hb (h.n0 (by decide) N hN).2.lt⟩, fun h => absurd h (by decide)⟩
theorem RdP.alloc (h : RdP w0 V st x now q so p g w) (hp : p < 2) : RdP w0 V st x now q so p ⟨some w.heap.size, g.y⟩ (w.alloc (.cells zSta 26)) := by
 have hb : Below w.heap.size w (w.alloc (.cells zSta 26)) := (Below.refl _ _).alloc (Nat.le_refl _) _
 have hd := h.h.d.lt
 refine ⟨h.h.kept hb, h.y0, fun hp => ?_, fun _ N hN => ?_, fun h => by omega⟩
 · obtain ⟨y, e, ha⟩ := h.y1 hp
   exact ⟨y, e, ha.upS hb⟩
 · injection hN with hN
   subst hN
   exact ⟨by omega, heap_alloc_new w _⟩
theorem RdP.store (h : RdP w0 V st x now q so 1 g w) (eN : g.N = some N) (ey : g.y = some y) (hg : w.grownBy w' (some N)) (hb : Blk w' N 26 (stC so y)) : RdP w0 V st x now q so 2 g w' := by
 obtain ⟨h1, h2⟩ := h.n0 (by decide) N eN
 have hno : noStr zSta := noStr_st ⟨0, [], [], []⟩ ⟨none, 0, 0, none, 0, 0, none, 0, 0⟩
 obtain ⟨y', e', ha⟩ := h.y1 (by decide)
 exact ⟨h.h.but h2 hno hg h1, fun h => absurd h (by decide), fun _ => ⟨y', e', (ha.butN h2 hno hg).more hg.size⟩, fun h => absurd h (by decide), fun _ => ⟨N, y, eN, ey, h1, hb⟩⟩
theorem RnE.drew (h : RnE w0 V N DD st x now q so z D p γ w) : RnE w0 V N DD st x now q so z D p γ w.drew :=
 ⟨h.h.drew, h.n, h.a.drew, h.db, fun hp => (h.del hp).drew, h.ns, h.ds, h.nd⟩
theorem RnE.kept (h : RnE w0 V N DD st x now q so z D p γ w) (hb : Below w.heap.size w w') : RnE w0 V N DD st x now q so z D p γ w' :=
 ⟨h.h.kept hb, h.n.below hb h.n.lt, h.a.upS hb, h.db.below hb h.db.lt, fun hp => (h.del hp).upS hb, h.ns, h.ds, h.nd⟩
theorem RnE.call (h : RnE w0 V N DD st x now q so z D 0 γ w) (hb : Below w.heap.size w w') (hd : DelAt w' w'.heap.size D dx) : RnE w0 V N DD st x now q so z D 1 dx w' :=
 ⟨h.h.kept hb, h.n.below hb h.n.lt, h.a.upS hb, h.db.below hb h.db.lt, fun _ => hd, h.ns, h.ds, h.nd⟩
theorem RnE.store (h : RnE w0 V N DD st x now q so z D 1 γ w) (hg : w.grownBy w' (some DD)) (hb : Blk w' DD 49 (dC D γ)) : RnE w0 V N DD st x now q so z D 2 γ w' := by
 have hdb : Blk w DD 49 (dcP D γ 1) := h.db
 have hno : noStr (dcP D γ 1) := noStr_d zD zA
 exact ⟨h.h.but hdb hno hg h.ds, grow_blk hg h.n h.nd, (h.a.butN hdb hno hg).more hg.size, hb, fun _ => ((h.del (by decide)).butN hdb hno hg).more hg.size, h.ns, h.ds, h.nd⟩
theorem RnE.toE (h : RnE w0 V N DD st x now q so z zD 0 zA w) : SdE 36 w0 V DD st x now zD zA #[.int .i64 0, .int .i64 0] zDel w :=
 ⟨h.h.sv.blk, h.h.sv.at_, zeroDAt _ _, h.db, h.h.r, h.h.d, grown_of V h.h.below, h.h.lt, h.ds⟩
theorem RnE.end_ (h : RnE w0 V N DD st x now q so z D p γ w) (hp : p = 2 ∨ (D = zD ∧ γ = zA ∧ p = 0)) (hg : w.grownBy w' (some V)) (hv : Blk w' V 36 (srvC so z nw)) : SdE 36 w0 V DD so z nw D γ #[.int .i64 0, .int .i64 0] zDel w' := by
 have h1 := h.h.lt
 have h2 := h.ds
 refine ⟨hv, (h.a.butN h.h.sv.blk (noStr_srv _ _ _) hg).more hg.size, ?_, ?_, grow_blk hg h.h.r (by omega), grow_blk hg h.h.d (by omega), grow_trans (grown_of V h.h.below) hg, h1, h2⟩
 · rcases hp with rfl | ⟨rfl, rfl, rfl⟩
   · exact ((h.del (by decide)).butN h.h.sv.blk (noStr_srv _ _ _) hg).more hg.size
   · exact zeroDAt _ _
 · rcases hp with rfl | ⟨rfl, rfl, rfl⟩
   · exact grow_blk hg h.db (by omega)
   · exact grow_blk hg h.db (by omega)
end
theorem rdo_err (q : ReqD) (st : StateD) (x : StA) (now : Int) (V : Nat) (w : World) (E : Int) (so : StateD) (nw : Int) (h : SrvAt w 36 V st x now) (hN : ∀ W, StAt W W.heap.size st x → Calls Tryz.prog 39 #[.agg (srvC st x now), reqA q] W (RNxPost (E, so, nw) W)) (hE : E ≠ 0) :
 Calls Tryz.prog 11 #[.pointer (some ⟨V, 0, none⟩), reqA q] w (AskPost 36 V st ⟨E, false, st, now⟩ w) := by
 obtain ⟨q1, q2, q3, q4⟩ := three_blk w (reqC q) #[.int .i64 0, .int .i64 0] zDel (ta := 44) (tb := 46) (tc := 49)
 obtain ⟨W0, hW0⟩ : ∃ W0, ((w.alloc (.cells (reqC q) 44)).alloc (.cells #[.int .i64 0, .int .i64 0] 46)).alloc (.cells zDel 49) = W0 := ⟨_, rfl⟩
 rw [hW0] at q1 q2 q3 q4
 have H0 : RdP w V st x now q so 0 ⟨none, none⟩ W0.drew := (show RdP w V st x now q so 0 ⟨none, none⟩ W0 from ⟨⟨h.below q4, q1, q2, q3, q4, h.blk.lt⟩, fun _ => rfl, fun h => absurd h (by decide), fun _ N h => (by cases h), fun h => absurd h (by decide)⟩).drew
 have HN := hid hN
 have HW0 := hid hW0
 have Hsz := hid (sizes_of h.at_ h.ok)
 have hlV0 := h.blk.lt
 clear hW0 q1 q2 q3 q4 h hN
 unfold reqA at HN
 unfold srvC at HN
 unfold reqA
 unfold reqC at HW0 HN ⊢
 go_enter Tryz.func11, Tryz.ntmps11
 go_wp2_with fail
 rw [HW0.out]
 clear HW0
 refine rq 64 (rsdV w.heap.size V st x now q E so nw) [4, 10] (RdP w V st x now q so) ⟨none, none⟩ H0 ?_ ?_
 · clear H0
   refine ⟨?_, ?_, ?_, ?_, ?_, ?_, ?_, ?_, ?_, ?_, ?_, ?_, ?_, trivial⟩
   · exact ok0 0 2 0 rfl fun _ => rfl
   · exact ok1 0 2 0 13 rfl rfl (fun _ _ h => h) fun _ => rfl
   · refine okQ 0 2 fun p γ a wx _ _ hp hk => ?_
     obtain ⟨u1, h1, rfl⟩ := hk.g 1 14 rfl rfl
     obtain ⟨hc0, hc1, hc2, hc3, hc4⟩ := Blk.c5 (hp.h.sv.blk)
     simp [go_sem, Oper.wp, execOp, Act.eval, h1, hc0, hc1, hc2, hc3, hc4]
     exact ⟨_, rfl, γ, fun _ _ _ h => h, rfl, hp⟩
   · refine okQ 0 2 fun p γ a wx _ _ hp hk => ?_
     have h1 := hk.k 3 rfl
     obtain ⟨hc0, hc1, hc2, hc3, hc4, hc5, hc6, hc7, hc8, hc9, hc10, hc11, hc12, hc13⟩ := Blk.c14 (hp.h.q)
     simp [go_sem, Oper.wp, execOp, Act.eval, h1, hc0, hc1, hc2, hc3, hc4, hc5, hc6, hc7, hc8, hc9, hc10, hc11, hc12, hc13]
     exact ⟨_, rfl, γ, fun _ _ _ h => h, rfl, hp⟩
   · refine .inl ⟨0, rfl, fun γ a wx hp hk => wantWp_free rfl ?_⟩
     obtain ⟨u1, h1, rfl⟩ := hk.g 2 15 rfl rfl
     obtain ⟨u2, h2, rfl⟩ := hk.g 3 16 rfl rfl
     have hp := (show RdP w V st x now q so 0 γ wx from hp)
     simp [go_sem, Oper.wp, execOp, Act.eval, h1, h2]
     refine (HN.out wx hp.h.sv.at_).mono ?_
     rintro e w' ⟨y, rfl, ha, hb⟩
     exact ⟨_, rfl, ⟨γ.N, some y⟩, rsdV_y (hp.y0 rfl) _, ⟨y, rfl, rfl⟩, RdP.call hp ha hb⟩
   · refine okQ 0 2 fun p γ a wx _ _ hp hk => ?_
     obtain ⟨u1, h1, ⟨y1, ey1, rfl⟩⟩ := hk.g 4 17 rfl rfl
     simp [go_sem, Oper.wp, execOp, Act.eval, h1]
     exact ⟨_, rfl, γ, fun _ _ _ h => h, ⟨y1, ey1, rfl⟩, hp⟩
   · refine okQ 0 2 fun p γ a wx _ _ hp hk => ?_
     obtain ⟨u1, h1, ⟨y1, ey1, rfl⟩⟩ := hk.g 5 12 rfl rfl
     simp [go_sem, Oper.wp, execOp, Act.eval, h1]
     exact ⟨_, rfl, γ, fun _ _ _ h => h, ⟨y1, ey1, rfl⟩, hp⟩
   · refine okQ 0 2 fun p γ a wx _ _ hp hk => ?_
     obtain ⟨u1, h1, ⟨y1, ey1, rfl⟩⟩ := hk.g 5 12 rfl rfl
     simp [go_sem, Oper.wp, execOp, Act.eval, h1]
     exact ⟨_, rfl, γ, fun _ _ _ h => h, rfl, hp⟩
   · refine okQ 0 2 fun p γ a wx _ _ hp hk => ?_
     obtain ⟨u1, h1, ⟨y1, ey1, rfl⟩⟩ := hk.g 5 12 rfl rfl
     simp [go_sem, Oper.wp, execOp, Act.eval, h1]
     exact ⟨_, rfl, γ, fun _ _ _ h => h, rfl, hp⟩
   · refine okQ 0 1 fun p γ a wx _ _ hp hk => ?_
     simp [go_sem, Oper.wp, execOp, Act.eval]
     exact ⟨_, rfl, ⟨some wx.heap.size, γ.y⟩, rsdV_N _, ⟨_, rfl, rfl⟩, RdP.alloc hp (by omega)⟩
   · refine .inl ⟨1, rfl, fun γ a wx hp hk => wantWp_free rfl ?_⟩
     obtain ⟨u1, h1, ⟨N1, eN1, rfl⟩⟩ := hk.g 9 7 rfl rfl
     obtain ⟨u2, h2, ⟨y2, ey2, rfl⟩⟩ := hk.g 6 18 rfl rfl
     have hp := (show RdP w V st x now q so 1 γ wx from hp)
     have hB : Blk wx N1 26 zSta := (hp.n0 (by decide) N1 eN1).2
     obtain ⟨z0, z1, z2, z3⟩ := Blk.z4 (hB)
     obtain ⟨c0, c1, c2, c3⟩ := Blk.c4 (hB)
     obtain ⟨hb4, hg4⟩ := Blk.S4 hB (.int .i64 so.rev) (.slice y2.aj y2.nj y2.cj) (.slice y2.an y2.nn y2.cn) (.slice y2.al y2.nl y2.cl)
     have hfin := RdP.store hp eN1 ey2 hg4 hb4
     clear hB hp
     simp [go_sem, Oper.wp, execOp, Act.eval, h1, h2, c0, c1, c2, c3, z0, z1, z2, z3]
     exact ⟨.int .i64 0, γ, fun _ _ _ h => h, trivial, hfin⟩
   · exact ok1 0 2 7 19 rfl rfl (fun _ _ h => h) fun _ => rfl
   · exact ok1 0 2 8 20 rfl rfl (fun _ _ h => h) fun _ => rfl
 intro γ act w1 hd
 have hp := (show RdP w V st x now q so 2 γ w1 from hd.ph)
 obtain ⟨fv, rfl, hfv⟩ := hd.frame [13, 14, 15, 16, 17, 12, 18, 19, 20, 7, 8, 9] rfl
 obtain ⟨N, z, eN, ez, hns, hnb⟩ := hp.n2 rfl
 obtain ⟨z', ez', ha⟩ := hp.y1 (by decide)
 obtain rfl : z = z' := by rw [ez] at ez'; injection ez'
 have f7 : fv 7 = .pointer (some ⟨N, 0, none⟩) := by
  obtain ⟨N', e1, e2⟩ := (show ∃ N, γ.N = some N ∧ fv 7 = .pointer (some ⟨N, 0, none⟩) from hfv 9 _ 7 rfl rfl)
  rw [eN] at e1
  injection e1 with e1
  rw [e2, e1]
 have f8 : fv 8 = .int .i64 nw := hfv 11 _ 8 rfl rfl
 have f9 : fv 9 = .int .i64 E := hfv 12 _ 9 rfl rfl
 simp only [foldl_cons, foldl_nil, setIfInBounds_toArray, set_cons_succ, set_cons_zero, f7, f8, f9]
 obtain ⟨w2, hw2⟩ : ∃ w2, w1.alloc (.cells zDel 49) = w2 := ⟨_, rfl⟩
 obtain ⟨DD, hDD⟩ : ∃ DD, w1.heap.size = DD := ⟨_, rfl⟩
 obtain ⟨D0, hD0⟩ : ∃ D0, zD = D0 := ⟨_, rfl⟩
 have hb2 : Below w1.heap.size w1 w2 := by rw [← hw2]; exact (Below.refl _ _).alloc (Nat.le_refl _) _
 have HE := hid (show ∀ D, RnE w V N DD st x now q so z D 0 zA w2 from fun D => by
  have e1 := hnb.lt
  have e2 := hp.h.d.lt
  refine ⟨hp.h.kept hb2, hnb.below hb2 hnb.lt, ha.upS hb2, ?_, fun h => absurd h (by decide), hns, by omega, by omega⟩
  rw [← hw2, ← hDD]; exact heap_alloc_new w1 _)
 have Hw2 := hid hw2
 have Hd := hid hDD
 clear hd hfv hp H0 eN ez ez' hnb ha f7 f8 f9 hw2 hDD hb2 HN hD0
 have d1 : (E == 0) = false := beq_false_of_ne hE
 clear hE
 go_wp2_with fail
 simp only [Hw2.out, Hd.out]
 clear Hw2 Hd
 refine wp_region_quiet_below (by kernel_rfl) (by kernel_rfl) ?_
 repeat (go_big_quiet_step ((fail)))
 refine wpQuiet_nil ?_
 intro _ hw'
 obtain ⟨⟨nq, osq⟩, hw''⟩ := hw'
 subst hw''
 have hq := below_regrown w2 nq osq
 dsimp only
 generalize Sort.grow (redrawn w2 nq) osq = w3 at hq ⊢
 have hE0 := ((HE.out zD).kept hq).toE
 obtain ⟨D, hD⟩ : ∃ D, zD = D := ⟨_, rfl⟩
 obtain ⟨dx, hdx⟩ : ∃ dx, zA = dx := ⟨_, rfl⟩
 have HDD := hid (show D = if (⟨E, false, st, now⟩ : SrvR).ch = true then betweenD st (⟨E, false, st, now⟩ : SrvR).st else zD from hD.symm)
 rw [hD, hdx] at hE0
 have HE0 := hid hE0
 clear hq HE hE0 hD hdx
 go_wp2_with fail
 refine rq (Γ := Unit) 64 (fun _ => sdeV V st E D dx false) [9, 10] (fun p _ => SdE 36 w V DD st x now D dx (rcP E st.rev p) (dcP D dx p)) () (show SdE 36 w V DD st x now D dx #[.int .i64 0, .int .i64 0] zDel (w3).drew from HE0.out.drew) ?_ ?_
 · clear HE0
   refine ⟨?_, ?_, ?_, ?_, ?_, ?_, ?_, ?_, ?_, ?_, ?_, ?_, trivial⟩
   · exact ok0 0 0 9 rfl fun _ => rfl
   · exact ok0 0 0 0 rfl fun _ => rfl
   · exact ok1 0 0 1 56 rfl rfl (fun _ _ h => h) fun _ => rfl
   · exact ok1 0 0 2 57 rfl rfl (fun _ _ h => h) fun _ => rfl
   · exact ok1 0 0 3 58 rfl rfl (fun _ _ h => h) fun _ => rfl
   · refine okQ 0 0 fun p γ a wx _ _ hp hk => ?_
     obtain ⟨u1, h1, rfl⟩ := hk.g 4 59 rfl rfl
     have hc0 : wx.cell? ⟨V, 0, none⟩ = some (.int .i64 st.rev) := hp.v.cell 0
     simp [go_sem, Oper.wp, execOp, Act.eval, h1, hc0]
     exact ⟨_, rfl, rfl, hp⟩
   · refine okQ 0 0 fun p γ a wx _ _ hp hk => ?_
     obtain ⟨u1, h1, rfl⟩ := hk.g 0 55 rfl rfl
     obtain ⟨u2, h2, rfl⟩ := hk.g 5 60 rfl rfl
     simp [go_sem, Oper.wp, execOp, Act.eval, h1, h2]
     exact ⟨_, rfl, rfl, hp⟩
   · refine okQ 0 1 fun p γ a wx _ _ hp hk => ?_
     have h1 := hk.k 10 rfl
     obtain ⟨hc0, hc1, hc2, hc3, hc4, hc5, hc6, hc7⟩ := Blk.c8 (hp.db)
     simp [go_sem, Oper.wp, execOp, Act.eval, h1, hc0, hc1, hc2, hc3, hc4, hc5, hc6, hc7]
     exact ⟨_, rfl, rfl, hp⟩
   · exact ok0 0 2 11 rfl fun _ => rfl
   · refine .inl ⟨0, rfl, fun γ a wx hp hk => wantWp_free rfl ?_⟩
     have h1 := hk.k 4 rfl
     obtain ⟨u2, h2, rfl⟩ := hk.g 6 61 rfl rfl
     have hp := (show SdE 36 w V DD st x now D dx #[.int .i64 0, .int .i64 0] zDel wx from hp)
     have hB := hp.r
     obtain ⟨z0, z1⟩ := Blk.z2 (hB)
     obtain ⟨c0, c1⟩ := Blk.c2 (hB)
     have hfin := hp.setR (noStr_int2 0 0) (bes_set (bes_set (grow_refl wx (w.heap.size + 1)) 0 (.int .i64 E)) 1 (.int .i64 st.rev)) (Blk.eq ((hB.set 0 (.int .i64 E)).set 1 (.int .i64 st.rev)) (show _ = rcP E st.rev 1 from rfl))
     clear hB hp
     simp [go_sem, Oper.wp, execOp, Act.eval, h1, h2, c0, c1, z0, z1]
     exact ⟨⟨.int .i64 0, trivial⟩, hfin⟩
   · refine .inl ⟨1, rfl, fun γ a wx hp hk => wantWp_free rfl ?_⟩
     have h1 := hk.k 5 rfl
     obtain ⟨u2, h2, rfl⟩ := hk.g 7 62 rfl rfl
     have hp := (show SdE 36 w V DD st x now D dx (rcP E st.rev 1) zDel wx from hp)
     have hB := hp.d
     obtain ⟨z0, z1, z2, z3, z4, z5, z6, z7⟩ := Blk.z8 (hB)
     obtain ⟨c0, c1, c2, c3, c4, c5, c6, c7⟩ := Blk.c8 (hB)
     obtain ⟨hB8, hG8⟩ := Blk.S8 (hB) (.int .i64 D.from_) (.int .i64 D.to_) (.slice dx.aj dx.nj dx.cj) (.slice dx.an dx.nn dx.cn) (.slice dx.al dx.nl dx.cl) (.slice dx.agj dx.ngj dx.cgj) (.slice dx.agn dx.ngn dx.cgn) (.slice dx.agl dx.ngl dx.cgl)
     have hfin := hp.setD (noStr_d zD zA) hG8 (dc' := dC D dx) hB8
     clear hB hp hB8 hG8
     simp [go_sem, Oper.wp, execOp, Act.eval, h1, h2, c0, c1, c2, c3, c4, c5, c6, c7, z0, z1, z2, z3, z4, z5, z6, z7]
     exact ⟨⟨.int .i64 0, trivial⟩, hfin⟩
   · exact ok1 2 2 8 63 rfl rfl (fun _ _ h => h) fun _ => rfl
 intro γ act wz hd
 have hz := (show SdE 36 w V DD st x now D dx #[.int .i64 E, .int .i64 st.rev] (dC D dx) wz from hd.ph)
 obtain ⟨fv, rfl, hfv⟩ := hd.frame [55, 56, 57, 58, 59, 60, 61, 62, 63, 6] rfl
 have f6 : fv 6 = .bool false := hfv 11 _ 6 rfl rfl
 obtain ⟨r0, r1⟩ := Blk.c2 (hz.r)
 obtain ⟨y0, y1, y2, y3, y4, y5, y6, y7⟩ := Blk.c8 (hz.d)
 have Hend := hid (hz.end_ (st := st) (R := ⟨E, false, st, now⟩) rfl rfl HDD.out)
 clear hd hfv hz HE0
 simp only [foldl_cons, foldl_nil, setIfInBounds_toArray, set_cons_succ, set_cons_zero, f6]
 clear f6
 go_wp2
 refine bodyPost_ret (v := .tuple #[.agg #[.int .i64 E, .int .i64 st.rev], .agg (dC D dx), .bool false]) (by simp [results, Tryz.results11, go_sem, dC, *]) rfl ?_
 exact Hend.out
theorem rdo_same (q : ReqD) (st : StateD) (x : StA) (now : Int) (V : Nat) (w : World) (E : Int) (so : StateD) (nw : Int) (h : SrvAt w 36 V st x now) (hN : ∀ W, StAt W W.heap.size st x → Calls Tryz.prog 39 #[.agg (srvC st x now), reqA q] W (RNxPost (E, so, nw) W)) (hE : E = 0) (hs : so = st) :
 Calls Tryz.prog 11 #[.pointer (some ⟨V, 0, none⟩), reqA q] w (AskPost 36 V st ⟨0, false, so, nw⟩ w) := by
 subst hE
 have Hs := hid hs
 clear hs
 obtain ⟨q1, q2, q3, q4⟩ := three_blk w (reqC q) #[.int .i64 0, .int .i64 0] zDel (ta := 44) (tb := 46) (tc := 49)
 obtain ⟨W0, hW0⟩ : ∃ W0, ((w.alloc (.cells (reqC q) 44)).alloc (.cells #[.int .i64 0, .int .i64 0] 46)).alloc (.cells zDel 49) = W0 := ⟨_, rfl⟩
 rw [hW0] at q1 q2 q3 q4
 have H0 : RdP w V st x now q so 0 ⟨none, none⟩ W0.drew := (show RdP w V st x now q so 0 ⟨none, none⟩ W0 from ⟨⟨h.below q4, q1, q2, q3, q4, h.blk.lt⟩, fun _ => rfl, fun h => absurd h (by decide), fun _ N h => (by cases h), fun h => absurd h (by decide)⟩).drew
 have HN := hid hN
 have HW0 := hid hW0
 have Hsz := hid (sizes_of h.at_ h.ok)
 have hlV0 := h.blk.lt
 clear hW0 q1 q2 q3 q4 h hN
 unfold reqA at HN
 unfold srvC at HN
 unfold reqA
 unfold reqC at HW0 HN ⊢
 go_enter Tryz.func11, Tryz.ntmps11
 go_wp2_with fail
 rw [HW0.out]
 clear HW0
 refine rq 64 (rsdV w.heap.size V st x now q 0 so nw) [4, 10] (RdP w V st x now q so) ⟨none, none⟩ H0 ?_ ?_
 · clear H0
   refine ⟨?_, ?_, ?_, ?_, ?_, ?_, ?_, ?_, ?_, ?_, ?_, ?_, ?_, trivial⟩
   · exact ok0 0 2 0 rfl fun _ => rfl
   · exact ok1 0 2 0 13 rfl rfl (fun _ _ h => h) fun _ => rfl
   · refine okQ 0 2 fun p γ a wx _ _ hp hk => ?_
     obtain ⟨u1, h1, rfl⟩ := hk.g 1 14 rfl rfl
     obtain ⟨hc0, hc1, hc2, hc3, hc4⟩ := Blk.c5 (hp.h.sv.blk)
     simp [go_sem, Oper.wp, execOp, Act.eval, h1, hc0, hc1, hc2, hc3, hc4]
     exact ⟨_, rfl, γ, fun _ _ _ h => h, rfl, hp⟩
   · refine okQ 0 2 fun p γ a wx _ _ hp hk => ?_
     have h1 := hk.k 3 rfl
     obtain ⟨hc0, hc1, hc2, hc3, hc4, hc5, hc6, hc7, hc8, hc9, hc10, hc11, hc12, hc13⟩ := Blk.c14 (hp.h.q)
     simp [go_sem, Oper.wp, execOp, Act.eval, h1, hc0, hc1, hc2, hc3, hc4, hc5, hc6, hc7, hc8, hc9, hc10, hc11, hc12, hc13]
     exact ⟨_, rfl, γ, fun _ _ _ h => h, rfl, hp⟩
   · refine .inl ⟨0, rfl, fun γ a wx hp hk => wantWp_free rfl ?_⟩
     obtain ⟨u1, h1, rfl⟩ := hk.g 2 15 rfl rfl
     obtain ⟨u2, h2, rfl⟩ := hk.g 3 16 rfl rfl
     have hp := (show RdP w V st x now q so 0 γ wx from hp)
     simp [go_sem, Oper.wp, execOp, Act.eval, h1, h2]
     refine (HN.out wx hp.h.sv.at_).mono ?_
     rintro e w' ⟨y, rfl, ha, hb⟩
     exact ⟨_, rfl, ⟨γ.N, some y⟩, rsdV_y (hp.y0 rfl) _, ⟨y, rfl, rfl⟩, RdP.call hp ha hb⟩
   · refine okQ 0 2 fun p γ a wx _ _ hp hk => ?_
     obtain ⟨u1, h1, ⟨y1, ey1, rfl⟩⟩ := hk.g 4 17 rfl rfl
     simp [go_sem, Oper.wp, execOp, Act.eval, h1]
     exact ⟨_, rfl, γ, fun _ _ _ h => h, ⟨y1, ey1, rfl⟩, hp⟩
   · refine okQ 0 2 fun p γ a wx _ _ hp hk => ?_
     obtain ⟨u1, h1, ⟨y1, ey1, rfl⟩⟩ := hk.g 5 12 rfl rfl
     simp [go_sem, Oper.wp, execOp, Act.eval, h1]
     exact ⟨_, rfl, γ, fun _ _ _ h => h, ⟨y1, ey1, rfl⟩, hp⟩
   · refine okQ 0 2 fun p γ a wx _ _ hp hk => ?_
     obtain ⟨u1, h1, ⟨y1, ey1, rfl⟩⟩ := hk.g 5 12 rfl rfl
     simp [go_sem, Oper.wp, execOp, Act.eval, h1]
     exact ⟨_, rfl, γ, fun _ _ _ h => h, rfl, hp⟩
   · refine okQ 0 2 fun p γ a wx _ _ hp hk => ?_
     obtain ⟨u1, h1, ⟨y1, ey1, rfl⟩⟩ := hk.g 5 12 rfl rfl
     simp [go_sem, Oper.wp, execOp, Act.eval, h1]
     exact ⟨_, rfl, γ, fun _ _ _ h => h, rfl, hp⟩
   · refine okQ 0 1 fun p γ a wx _ _ hp hk => ?_
     simp [go_sem, Oper.wp, execOp, Act.eval]
     exact ⟨_, rfl, ⟨some wx.heap.size, γ.y⟩, rsdV_N _, ⟨_, rfl, rfl⟩, RdP.alloc hp (by omega)⟩
   · refine .inl ⟨1, rfl, fun γ a wx hp hk => wantWp_free rfl ?_⟩
     obtain ⟨u1, h1, ⟨N1, eN1, rfl⟩⟩ := hk.g 9 7 rfl rfl
     obtain ⟨u2, h2, ⟨y2, ey2, rfl⟩⟩ := hk.g 6 18 rfl rfl
     have hp := (show RdP w V st x now q so 1 γ wx from hp)
     have hB : Blk wx N1 26 zSta := (hp.n0 (by decide) N1 eN1).2
     obtain ⟨z0, z1, z2, z3⟩ := Blk.z4 (hB)
     obtain ⟨c0, c1, c2, c3⟩ := Blk.c4 (hB)
     obtain ⟨hb4, hg4⟩ := Blk.S4 hB (.int .i64 so.rev) (.slice y2.aj y2.nj y2.cj) (.slice y2.an y2.nn y2.cn) (.slice y2.al y2.nl y2.cl)
     have hfin := RdP.store hp eN1 ey2 hg4 hb4
     clear hB hp
     simp [go_sem, Oper.wp, execOp, Act.eval, h1, h2, c0, c1, c2, c3, z0, z1, z2, z3]
     exact ⟨.int .i64 0, γ, fun _ _ _ h => h, trivial, hfin⟩
   · exact ok1 0 2 7 19 rfl rfl (fun _ _ h => h) fun _ => rfl
   · exact ok1 0 2 8 20 rfl rfl (fun _ _ h => h) fun _ => rfl
 intro γ act w1 hd
 have hp := (show RdP w V st x now q so 2 γ w1 from hd.ph)
 obtain ⟨fv, rfl, hfv⟩ := hd.frame [13, 14, 15, 16, 17, 12, 18, 19, 20, 7, 8, 9] rfl
 obtain ⟨N, z, eN, ez, hns, hnb⟩ := hp.n2 rfl
 obtain ⟨z', ez', ha⟩ := hp.y1 (by decide)
 obtain rfl : z = z' := by rw [ez] at ez'; injection ez'
 have f7 : fv 7 = .pointer (some ⟨N, 0, none⟩) := by
  obtain ⟨N', e1, e2⟩ := (show ∃ N, γ.N = some N ∧ fv 7 = .pointer (some ⟨N, 0, none⟩) from hfv 9 _ 7 rfl rfl)
  rw [eN] at e1
  injection e1 with e1
  rw [e2, e1]
 have f8 : fv 8 = .int .i64 nw := hfv 11 _ 8 rfl rfl
 have f9 : fv 9 = .int .i64 (0 : Int) := hfv 12 _ 9 rfl rfl
 simp only [foldl_cons, foldl_nil, setIfInBounds_toArray, set_cons_succ, set_cons_zero, f7, f8, f9]
 obtain ⟨w2, hw2⟩ : ∃ w2, w1.alloc (.cells zDel 49) = w2 := ⟨_, rfl⟩
 obtain ⟨DD, hDD⟩ : ∃ DD, w1.heap.size = DD := ⟨_, rfl⟩
 obtain ⟨D0, hD0⟩ : ∃ D0, zD = D0 := ⟨_, rfl⟩
 have hb2 : Below w1.heap.size w1 w2 := by rw [← hw2]; exact (Below.refl _ _).alloc (Nat.le_refl _) _
 have HE := hid (show ∀ D, RnE w V N DD st x now q so z D 0 zA w2 from fun D => by
  have e1 := hnb.lt
  have e2 := hp.h.d.lt
  refine ⟨hp.h.kept hb2, hnb.below hb2 hnb.lt, ha.upS hb2, ?_, fun h => absurd h (by decide), hns, by omega, by omega⟩
  rw [← hw2, ← hDD]; exact heap_alloc_new w1 _)
 have Hw2 := hid hw2
 have Hd := hid hDD
 clear hd hfv hp H0 eN ez ez' hnb ha f7 f8 f9 hw2 hDD hb2 HN hD0
 have HS := hid (fun nq osq => show Calls Tryz.prog 13 #[.agg #[.int .i64 so.rev, .slice z.aj z.nj z.cj, .slice z.an z.nn z.cn, .slice z.al z.nl z.cl], .agg #[.int .i64 st.rev, .slice x.aj x.nj x.cj, .slice x.an x.nn x.cn, .slice x.al x.nl x.cl]] (Sort.grow (redrawn w2 nq) osq) (fun e w' => e = .returned (.bool true) ∧ Below (Sort.grow (redrawn w2 nq) osq).heap.size (Sort.grow (redrawn w2 nq) osq) w') from by
  refine (same_any so st z x _ ((HE.out zD).a.upS (below_regrown w2 nq osq)) ((HE.out zD).h.sv.at_.upS (below_regrown w2 nq osq))).mono ?_
  rintro e w' ⟨t, rfl, ht, hb⟩
  have : t = true := by exact ht.2 Hs.out
  subst this
  exact ⟨rfl, hb⟩)
 obtain ⟨v0, v1, v2, v3⟩ := Blk.r4 ((HE.out zD).h.sv.blk)
 obtain ⟨n0, n1, n2, n3⟩ := Blk.r4 ((HE.out zD).n)
 go_wp2_with fail
 simp only [Hw2.out, Hd.out]
 clear Hw2 Hd
 refine wp_region_quiet_below (by kernel_rfl) (by kernel_rfl) ?_
 repeat (go_big_quiet_step ((go_at_call 13; exact Calls.regrown_of (HS.out _ _))))
 refine wpQuiet_nil ?_
 intro _ hw'
 obtain ⟨⟨nq, osq⟩, hw''⟩ := hw'
 subst hw''
 have hq := below_regrown w2 nq osq
 clear v0 v1 v2 v3 n0 n1 n2 n3 HS Hs
 dsimp only
 generalize Sort.grow (redrawn w2 nq) osq = w3 at hq ⊢
 have HE3 := hid (fun D => (HE.out D).kept hq)
 clear hq HE
 have hlV := (HE3.out zD).h.sv.blk.lt
 have hlN := (HE3.out zD).n.lt
 have hv := (HE3.out zD).h.sv.blk
 obtain ⟨n0, n1, n2, n3⟩ := Blk.c4 ((HE3.out zD).n)
 obtain ⟨c0, c1, c2, c3⟩ := Blk.c4 (hv)
 obtain ⟨z0, z1, z2, z3⟩ := Blk.z4 (hv)
 obtain ⟨hV4, hG4⟩ := Blk.S4 (hv) (.int .i64 so.rev) (.slice z.aj z.nj z.cj) (.slice z.an z.nn z.cn) (.slice z.al z.nl z.cl)
 obtain ⟨y0, y1, y2, y3⟩ := Blk.c4 hV4
 have y4 : ((((w3.setCell ⟨V, 0, none⟩ (.int .i64 so.rev)).setCell ⟨V, 1, none⟩ (.slice z.aj z.nj z.cj)).setCell ⟨V, 2, none⟩ (.slice z.an z.nn z.cn)).setCell ⟨V, 3, none⟩ (.slice z.al z.nl z.cl)).cell? ⟨V, 4, none⟩ = some (.int .i64 now) := hV4.cell 4
 have yz : ((((w3.setCell ⟨V, 0, none⟩ (.int .i64 so.rev)).setCell ⟨V, 1, none⟩ (.slice z.aj z.nj z.cj)).setCell ⟨V, 2, none⟩ (.slice z.an z.nn z.cn)).setCell ⟨V, 3, none⟩ (.slice z.al z.nl z.cl)).frozen? ⟨V, 4, none⟩ = false := hV4.thaw 4
 have hE0 := (HE3.out zD).end_ (.inr ⟨rfl, rfl, rfl⟩) (bes_set hG4 4 (.int .i64 nw)) (Blk.eq (hV4.set 4 (.int .i64 nw)) (show _ = srvC so z nw from rfl))
 obtain ⟨wE, hwE⟩ : ∃ wE, ((((w3.setCell ⟨V, 0, none⟩ (.int .i64 so.rev)).setCell ⟨V, 1, none⟩ (.slice z.aj z.nj z.cj)).setCell ⟨V, 2, none⟩ (.slice z.an z.nn z.cn)).setCell ⟨V, 3, none⟩ (.slice z.al z.nl z.cl)).setCell ⟨V, 4, none⟩ (.int .i64 nw) = wE := ⟨_, rfl⟩
 rw [hwE] at hE0
 obtain ⟨D, hD⟩ : ∃ D, zD = D := ⟨_, rfl⟩
 obtain ⟨dx, hdx⟩ : ∃ dx, zA = dx := ⟨_, rfl⟩
 have HDD := hid (show D = if (⟨0, false, so, nw⟩ : SrvR).ch = true then betweenD st (⟨0, false, so, nw⟩ : SrvR).st else zD from hD.symm)
 rw [hD, hdx] at hE0
 have HE0 := hid hE0
 have Hw := hid hwE
 clear hv hV4 hG4 hE0 hwE HE3 y0 y1 y2 y3 hD hdx
 go_wp2_with fail
 simp only [Hw.out]
 clear Hw y4 yz
 refine rq (Γ := Unit) 64 (fun _ => sdeV V so 0 D dx false) [9, 10] (fun p _ => SdE 36 w V DD so z nw D dx (rcP 0 so.rev p) (dcP D dx p)) () (show SdE 36 w V DD so z nw D dx #[.int .i64 0, .int .i64 0] zDel (wE).drew from HE0.out.drew) ?_ ?_
 · clear HE0
   refine ⟨?_, ?_, ?_, ?_, ?_, ?_, ?_, ?_, ?_, ?_, ?_, ?_, trivial⟩
   · exact ok0 0 0 9 rfl fun _ => rfl
   · exact ok0 0 0 0 rfl fun _ => rfl
   · exact ok1 0 0 1 56 rfl rfl (fun _ _ h => h) fun _ => rfl
   · exact ok1 0 0 2 57 rfl rfl (fun _ _ h => h) fun _ => rfl
   · exact ok1 0 0 3 58 rfl rfl (fun _ _ h => h) fun _ => rfl
   · refine okQ 0 0 fun p γ a wx _ _ hp hk => ?_
     obtain ⟨u1, h1, rfl⟩ := hk.g 4 59 rfl rfl
     have hc0 : wx.cell? ⟨V, 0, none⟩ = some (.int .i64 so.rev) := hp.v.cell 0
     simp [go_sem, Oper.wp, execOp, Act.eval, h1, hc0]
     exact ⟨_, rfl, rfl, hp⟩
   · refine okQ 0 0 fun p γ a wx _ _ hp hk => ?_
     obtain ⟨u1, h1, rfl⟩ := hk.g 0 55 rfl rfl
     obtain ⟨u2, h2, rfl⟩ := hk.g 5 60 rfl rfl
     simp [go_sem, Oper.wp, execOp, Act.eval, h1, h2]
     exact ⟨_, rfl, rfl, hp⟩
   · refine okQ 0 1 fun p γ a wx _ _ hp hk => ?_
     have h1 := hk.k 10 rfl
     obtain ⟨hc0, hc1, hc2, hc3, hc4, hc5, hc6, hc7⟩ := Blk.c8 (hp.db)
     simp [go_sem, Oper.wp, execOp, Act.eval, h1, hc0, hc1, hc2, hc3, hc4, hc5, hc6, hc7]
     exact ⟨_, rfl, rfl, hp⟩
   · exact ok0 0 2 11 rfl fun _ => rfl
   · refine .inl ⟨0, rfl, fun γ a wx hp hk => wantWp_free rfl ?_⟩
     have h1 := hk.k 4 rfl
     obtain ⟨u2, h2, rfl⟩ := hk.g 6 61 rfl rfl
     have hp := (show SdE 36 w V DD so z nw D dx #[.int .i64 0, .int .i64 0] zDel wx from hp)
     have hB := hp.r
     obtain ⟨z0, z1⟩ := Blk.z2 (hB)
     obtain ⟨c0, c1⟩ := Blk.c2 (hB)
     have hfin := hp.setR (noStr_int2 0 0) (bes_set (bes_set (grow_refl wx (w.heap.size + 1)) 0 (.int .i64 0)) 1 (.int .i64 so.rev)) (Blk.eq ((hB.set 0 (.int .i64 0)).set 1 (.int .i64 so.rev)) (show _ = rcP 0 so.rev 1 from rfl))
     clear hB hp
     simp [go_sem, Oper.wp, execOp, Act.eval, h1, h2, c0, c1, z0, z1]
     exact ⟨⟨.int .i64 0, trivial⟩, hfin⟩
   · refine .inl ⟨1, rfl, fun γ a wx hp hk => wantWp_free rfl ?_⟩
     have h1 := hk.k 5 rfl
     obtain ⟨u2, h2, rfl⟩ := hk.g 7 62 rfl rfl
     have hp := (show SdE 36 w V DD so z nw D dx (rcP 0 so.rev 1) zDel wx from hp)
     have hB := hp.d
     obtain ⟨z0, z1, z2, z3, z4, z5, z6, z7⟩ := Blk.z8 (hB)
     obtain ⟨c0, c1, c2, c3, c4, c5, c6, c7⟩ := Blk.c8 (hB)
     obtain ⟨hB8, hG8⟩ := Blk.S8 (hB) (.int .i64 D.from_) (.int .i64 D.to_) (.slice dx.aj dx.nj dx.cj) (.slice dx.an dx.nn dx.cn) (.slice dx.al dx.nl dx.cl) (.slice dx.agj dx.ngj dx.cgj) (.slice dx.agn dx.ngn dx.cgn) (.slice dx.agl dx.ngl dx.cgl)
     have hfin := hp.setD (noStr_d zD zA) hG8 (dc' := dC D dx) hB8
     clear hB hp hB8 hG8
     simp [go_sem, Oper.wp, execOp, Act.eval, h1, h2, c0, c1, c2, c3, c4, c5, c6, c7, z0, z1, z2, z3, z4, z5, z6, z7]
     exact ⟨⟨.int .i64 0, trivial⟩, hfin⟩
   · exact ok1 2 2 8 63 rfl rfl (fun _ _ h => h) fun _ => rfl
 intro γ act wz hd
 have hz := (show SdE 36 w V DD so z nw D dx #[.int .i64 0, .int .i64 so.rev] (dC D dx) wz from hd.ph)
 obtain ⟨fv, rfl, hfv⟩ := hd.frame [55, 56, 57, 58, 59, 60, 61, 62, 63, 6] rfl
 have f6 : fv 6 = .bool false := hfv 11 _ 6 rfl rfl
 obtain ⟨r0, r1⟩ := Blk.c2 (hz.r)
 obtain ⟨y0, y1, y2, y3, y4, y5, y6, y7⟩ := Blk.c8 (hz.d)
 have Hend := hid (hz.end_ (st := st) (R := ⟨0, false, so, nw⟩) rfl rfl HDD.out)
 clear hd hfv hz HE0
 simp only [foldl_cons, foldl_nil, setIfInBounds_toArray, set_cons_succ, set_cons_zero, f6]
 clear f6
 go_wp2
 refine bodyPost_ret (v := .tuple #[.agg #[.int .i64 0, .int .i64 so.rev], .agg (dC D dx), .bool false]) (by simp [results, Tryz.results11, go_sem, dC, *]) rfl ?_
 exact Hend.out
theorem rdo_old (q : ReqD) (st : StateD) (x : StA) (now : Int) (V : Nat) (w : World) (E : Int) (so : StateD) (nw : Int) (h : SrvAt w 36 V st x now) (hN : ∀ W, StAt W W.heap.size st x → Calls Tryz.prog 39 #[.agg (srvC st x now), reqA q] W (RNxPost (E, so, nw) W)) (hE : E = 0) (hv : so.rev = st.rev) (hs : so ≠ st) (hrev : 1099511627776 < st.rev + 1) :
 Calls Tryz.prog 11 #[.pointer (some ⟨V, 0, none⟩), reqA q] w (AskPost 36 V st ⟨2, false, st, now⟩ w) := by
 subst hE
 obtain ⟨SO, hSO⟩ : ∃ SO, bumpS so = SO := ⟨_, rfl⟩
 have HSO := hid hSO
 have Hrv := hid (show so.rev = st.rev ∧ 0 ≤ st.rev ∧ st.rev ≤ 1099511627776 from ⟨hv, (ranged_iff.1 (check_iff.1 h.ok).1).1, (ranged_iff.1 (check_iff.1 h.ok).1).2⟩)
 have Hrev := hid hrev
 clear hSO hrev hv
 have Hs := hid hs
 clear hs
 obtain ⟨q1, q2, q3, q4⟩ := three_blk w (reqC q) #[.int .i64 0, .int .i64 0] zDel (ta := 44) (tb := 46) (tc := 49)
 obtain ⟨W0, hW0⟩ : ∃ W0, ((w.alloc (.cells (reqC q) 44)).alloc (.cells #[.int .i64 0, .int .i64 0] 46)).alloc (.cells zDel 49) = W0 := ⟨_, rfl⟩
 rw [hW0] at q1 q2 q3 q4
 have H0 : RdP w V st x now q so 0 ⟨none, none⟩ W0.drew := (show RdP w V st x now q so 0 ⟨none, none⟩ W0 from ⟨⟨h.below q4, q1, q2, q3, q4, h.blk.lt⟩, fun _ => rfl, fun h => absurd h (by decide), fun _ N h => (by cases h), fun h => absurd h (by decide)⟩).drew
 have HN := hid hN
 have HW0 := hid hW0
 have Hsz := hid (sizes_of h.at_ h.ok)
 have hlV0 := h.blk.lt
 clear hW0 q1 q2 q3 q4 h hN
 unfold reqA at HN
 unfold srvC at HN
 unfold reqA
 unfold reqC at HW0 HN ⊢
 go_enter Tryz.func11, Tryz.ntmps11
 go_wp2_with fail
 rw [HW0.out]
 clear HW0
 refine rq 64 (rsdV w.heap.size V st x now q 0 so nw) [4, 10] (RdP w V st x now q so) ⟨none, none⟩ H0 ?_ ?_
 · clear H0
   refine ⟨?_, ?_, ?_, ?_, ?_, ?_, ?_, ?_, ?_, ?_, ?_, ?_, ?_, trivial⟩
   · exact ok0 0 2 0 rfl fun _ => rfl
   · exact ok1 0 2 0 13 rfl rfl (fun _ _ h => h) fun _ => rfl
   · refine okQ 0 2 fun p γ a wx _ _ hp hk => ?_
     obtain ⟨u1, h1, rfl⟩ := hk.g 1 14 rfl rfl
     obtain ⟨hc0, hc1, hc2, hc3, hc4⟩ := Blk.c5 (hp.h.sv.blk)
     simp [go_sem, Oper.wp, execOp, Act.eval, h1, hc0, hc1, hc2, hc3, hc4]
     exact ⟨_, rfl, γ, fun _ _ _ h => h, rfl, hp⟩
   · refine okQ 0 2 fun p γ a wx _ _ hp hk => ?_
     have h1 := hk.k 3 rfl
     obtain ⟨hc0, hc1, hc2, hc3, hc4, hc5, hc6, hc7, hc8, hc9, hc10, hc11, hc12, hc13⟩ := Blk.c14 (hp.h.q)
     simp [go_sem, Oper.wp, execOp, Act.eval, h1, hc0, hc1, hc2, hc3, hc4, hc5, hc6, hc7, hc8, hc9, hc10, hc11, hc12, hc13]
     exact ⟨_, rfl, γ, fun _ _ _ h => h, rfl, hp⟩
   · refine .inl ⟨0, rfl, fun γ a wx hp hk => wantWp_free rfl ?_⟩
     obtain ⟨u1, h1, rfl⟩ := hk.g 2 15 rfl rfl
     obtain ⟨u2, h2, rfl⟩ := hk.g 3 16 rfl rfl
     have hp := (show RdP w V st x now q so 0 γ wx from hp)
     simp [go_sem, Oper.wp, execOp, Act.eval, h1, h2]
     refine (HN.out wx hp.h.sv.at_).mono ?_
     rintro e w' ⟨y, rfl, ha, hb⟩
     exact ⟨_, rfl, ⟨γ.N, some y⟩, rsdV_y (hp.y0 rfl) _, ⟨y, rfl, rfl⟩, RdP.call hp ha hb⟩
   · refine okQ 0 2 fun p γ a wx _ _ hp hk => ?_
     obtain ⟨u1, h1, ⟨y1, ey1, rfl⟩⟩ := hk.g 4 17 rfl rfl
     simp [go_sem, Oper.wp, execOp, Act.eval, h1]
     exact ⟨_, rfl, γ, fun _ _ _ h => h, ⟨y1, ey1, rfl⟩, hp⟩
   · refine okQ 0 2 fun p γ a wx _ _ hp hk => ?_
     obtain ⟨u1, h1, ⟨y1, ey1, rfl⟩⟩ := hk.g 5 12 rfl rfl
     simp [go_sem, Oper.wp, execOp, Act.eval, h1]
     exact ⟨_, rfl, γ, fun _ _ _ h => h, ⟨y1, ey1, rfl⟩, hp⟩
   · refine okQ 0 2 fun p γ a wx _ _ hp hk => ?_
     obtain ⟨u1, h1, ⟨y1, ey1, rfl⟩⟩ := hk.g 5 12 rfl rfl
     simp [go_sem, Oper.wp, execOp, Act.eval, h1]
     exact ⟨_, rfl, γ, fun _ _ _ h => h, rfl, hp⟩
   · refine okQ 0 2 fun p γ a wx _ _ hp hk => ?_
     obtain ⟨u1, h1, ⟨y1, ey1, rfl⟩⟩ := hk.g 5 12 rfl rfl
     simp [go_sem, Oper.wp, execOp, Act.eval, h1]
     exact ⟨_, rfl, γ, fun _ _ _ h => h, rfl, hp⟩
   · refine okQ 0 1 fun p γ a wx _ _ hp hk => ?_
     simp [go_sem, Oper.wp, execOp, Act.eval]
     exact ⟨_, rfl, ⟨some wx.heap.size, γ.y⟩, rsdV_N _, ⟨_, rfl, rfl⟩, RdP.alloc hp (by omega)⟩
   · refine .inl ⟨1, rfl, fun γ a wx hp hk => wantWp_free rfl ?_⟩
     obtain ⟨u1, h1, ⟨N1, eN1, rfl⟩⟩ := hk.g 9 7 rfl rfl
     obtain ⟨u2, h2, ⟨y2, ey2, rfl⟩⟩ := hk.g 6 18 rfl rfl
     have hp := (show RdP w V st x now q so 1 γ wx from hp)
     have hB : Blk wx N1 26 zSta := (hp.n0 (by decide) N1 eN1).2
     obtain ⟨z0, z1, z2, z3⟩ := Blk.z4 (hB)
     obtain ⟨c0, c1, c2, c3⟩ := Blk.c4 (hB)
     obtain ⟨hb4, hg4⟩ := Blk.S4 hB (.int .i64 so.rev) (.slice y2.aj y2.nj y2.cj) (.slice y2.an y2.nn y2.cn) (.slice y2.al y2.nl y2.cl)
     have hfin := RdP.store hp eN1 ey2 hg4 hb4
     clear hB hp
     simp [go_sem, Oper.wp, execOp, Act.eval, h1, h2, c0, c1, c2, c3, z0, z1, z2, z3]
     exact ⟨.int .i64 0, γ, fun _ _ _ h => h, trivial, hfin⟩
   · exact ok1 0 2 7 19 rfl rfl (fun _ _ h => h) fun _ => rfl
   · exact ok1 0 2 8 20 rfl rfl (fun _ _ h => h) fun _ => rfl
 intro γ act w1 hd
 have hp := (show RdP w V st x now q so 2 γ w1 from hd.ph)
 obtain ⟨fv, rfl, hfv⟩ := hd.frame [13, 14, 15, 16, 17, 12, 18, 19, 20, 7, 8, 9] rfl
 obtain ⟨N, z, eN, ez, hns, hnb⟩ := hp.n2 rfl
 obtain ⟨z', ez', ha⟩ := hp.y1 (by decide)
 obtain rfl : z = z' := by rw [ez] at ez'; injection ez'
 have f7 : fv 7 = .pointer (some ⟨N, 0, none⟩) := by
  obtain ⟨N', e1, e2⟩ := (show ∃ N, γ.N = some N ∧ fv 7 = .pointer (some ⟨N, 0, none⟩) from hfv 9 _ 7 rfl rfl)
  rw [eN] at e1
  injection e1 with e1
  rw [e2, e1]
 have f8 : fv 8 = .int .i64 nw := hfv 11 _ 8 rfl rfl
 have f9 : fv 9 = .int .i64 (0 : Int) := hfv 12 _ 9 rfl rfl
 simp only [foldl_cons, foldl_nil, setIfInBounds_toArray, set_cons_succ, set_cons_zero, f7, f8, f9]
 obtain ⟨w2, hw2⟩ : ∃ w2, w1.alloc (.cells zDel 49) = w2 := ⟨_, rfl⟩
 obtain ⟨DD, hDD⟩ : ∃ DD, w1.heap.size = DD := ⟨_, rfl⟩
 obtain ⟨D0, hD0⟩ : ∃ D0, zD = D0 := ⟨_, rfl⟩
 have hb2 : Below w1.heap.size w1 w2 := by rw [← hw2]; exact (Below.refl _ _).alloc (Nat.le_refl _) _
 have HE := hid (show ∀ D, RnE w V N DD st x now q so z D 0 zA w2 from fun D => by
  have e1 := hnb.lt
  have e2 := hp.h.d.lt
  refine ⟨hp.h.kept hb2, hnb.below hb2 hnb.lt, ha.upS hb2, ?_, fun h => absurd h (by decide), hns, by omega, by omega⟩
  rw [← hw2, ← hDD]; exact heap_alloc_new w1 _)
 have Hw2 := hid hw2
 have Hd := hid hDD
 clear hd hfv hp H0 eN ez ez' hnb ha f7 f8 f9 hw2 hDD hb2 HN hD0
 have HS := hid (fun nq osq => show Calls Tryz.prog 13 #[.agg #[.int .i64 so.rev, .slice z.aj z.nj z.cj, .slice z.an z.nn z.cn, .slice z.al z.nl z.cl], .agg #[.int .i64 st.rev, .slice x.aj x.nj x.cj, .slice x.an x.nn x.cn, .slice x.al x.nl x.cl]] (Sort.grow (redrawn w2 nq) osq) (fun e w' => e = .returned (.bool false) ∧ Below (Sort.grow (redrawn w2 nq) osq).heap.size (Sort.grow (redrawn w2 nq) osq) w') from by
  refine (same_any so st z x _ ((HE.out zD).a.upS (below_regrown w2 nq osq)) ((HE.out zD).h.sv.at_.upS (below_regrown w2 nq osq))).mono ?_
  rintro e w' ⟨t, rfl, ht, hb⟩
  have : t = false := by rw [Bool.eq_false_iff]; exact fun h => Hs.out (ht.1 h)
  subst this
  exact ⟨rfl, hb⟩)
 obtain ⟨v0, v1, v2, v3⟩ := Blk.r4 ((HE.out zD).h.sv.blk)
 obtain ⟨n0, n1, n2, n3⟩ := Blk.r4 ((HE.out zD).n)
 go_wp2_with fail
 simp only [Hw2.out, Hd.out]
 clear Hw2 Hd
 refine wp_region_quiet_below (by kernel_rfl) (by kernel_rfl) ?_
 repeat (go_big_quiet_step ((go_at_call 13; exact Calls.regrown_of (HS.out _ _))))
 refine wpQuiet_nil ?_
 intro _ hw'
 obtain ⟨⟨nq, osq⟩, hw''⟩ := hw'
 subst hw''
 have hq := below_regrown w2 nq osq
 clear v0 v1 v2 v3 n0 n1 n2 n3 HS Hs
 dsimp only
 generalize Sort.grow (redrawn w2 nq) osq = w3 at hq ⊢
 have HE3 := hid (fun D => (HE.out D).kept hq)
 clear hq HE
 have hlV := (HE3.out zD).h.sv.blk.lt
 have hlN := (HE3.out zD).n.lt
 have hr0 : 0 ≤ so.rev := by have := Hrv.out; omega
 have hr1 : so.rev ≤ 1099511627776 := by have := Hrv.out; omega
 have n0 : w3.cell? ⟨N, 0, none⟩ = some (.int .i64 so.rev) := (HE3.out zD).n.cell 0
 have z0 : w3.frozen? ⟨N, 0, none⟩ = false := (HE3.out zD).n.thaw 0
 obtain ⟨w4, hw4⟩ : ∃ w4, w3.setCell ⟨N, 0, none⟩ (.int .i64 (so.rev + 1)) = w4 := ⟨_, rfl⟩
 have HE4 := hid (show ∀ D, RnE w V N DD st x now q SO z D 0 zA w4 from fun D => by
  have h := HE3.out D
  have hg : w3.grownBy w4 (some N) := by rw [← hw4]; exact grow_set w3 N 0 _
  refine ⟨h.h.but h.n (noStr_st _ _) hg h.ns, ?_, ?_, grow_blk hg h.db (fun e => h.nd e.symm), fun h => absurd h (by decide), h.ns, h.ds, h.nd⟩
  · rw [← HSO.out, ← hw4]; exact Blk.eq (h.n.set 0 _) rfl
  · rw [← HSO.out]; exact ((h.a.butN h.n (noStr_st _ _) hg).more hg.size).rev _)
 have Hw4 := hid hw4
 clear hw4 HE3
 have d2 : decide (1099511627776 < so.rev + 1) = true := decide_eq_true (by have := Hrev.out; have := Hrv.out; omega)
 have hE0 := (HE4.out zD).toE
 obtain ⟨D, hD⟩ : ∃ D, zD = D := ⟨_, rfl⟩
 obtain ⟨dx, hdx⟩ : ∃ dx, zA = dx := ⟨_, rfl⟩
 have HDD := hid (show D = if (⟨2, false, st, now⟩ : SrvR).ch = true then betweenD st (⟨2, false, st, now⟩ : SrvR).st else zD from hD.symm)
 rw [hD, hdx] at hE0
 have HE0 := hid hE0
 clear hE0 HE4 hD hdx Hrev Hrv HSO
 go_wp2_with fail
 simp only [Hw4.out]
 clear Hw4 n0 z0
 refine rq (Γ := Unit) 64 (fun _ => sdeV V st 2 D dx false) [9, 10] (fun p _ => SdE 36 w V DD st x now D dx (rcP 2 st.rev p) (dcP D dx p)) () (show SdE 36 w V DD st x now D dx #[.int .i64 0, .int .i64 0] zDel (w4).drew from HE0.out.drew) ?_ ?_
 · clear HE0
   refine ⟨?_, ?_, ?_, ?_, ?_, ?_, ?_, ?_, ?_, ?_, ?_, ?_, trivial⟩
   · exact ok0 0 0 9 rfl fun _ => rfl
   · exact ok0 0 0 0 rfl fun _ => rfl
   · exact ok1 0 0 1 56 rfl rfl (fun _ _ h => h) fun _ => rfl
   · exact ok1 0 0 2 57 rfl rfl (fun _ _ h => h) fun _ => rfl
   · exact ok1 0 0 3 58 rfl rfl (fun _ _ h => h) fun _ => rfl
   · refine okQ 0 0 fun p γ a wx _ _ hp hk => ?_
     obtain ⟨u1, h1, rfl⟩ := hk.g 4 59 rfl rfl
     have hc0 : wx.cell? ⟨V, 0, none⟩ = some (.int .i64 st.rev) := hp.v.cell 0
     simp [go_sem, Oper.wp, execOp, Act.eval, h1, hc0]
     exact ⟨_, rfl, rfl, hp⟩
   · refine okQ 0 0 fun p γ a wx _ _ hp hk => ?_
     obtain ⟨u1, h1, rfl⟩ := hk.g 0 55 rfl rfl
     obtain ⟨u2, h2, rfl⟩ := hk.g 5 60 rfl rfl
     simp [go_sem, Oper.wp, execOp, Act.eval, h1, h2]
     exact ⟨_, rfl, rfl, hp⟩
   · refine okQ 0 1 fun p γ a wx _ _ hp hk => ?_
     have h1 := hk.k 10 rfl
     obtain ⟨hc0, hc1, hc2, hc3, hc4, hc5, hc6, hc7⟩ := Blk.c8 (hp.db)
     simp [go_sem, Oper.wp, execOp, Act.eval, h1, hc0, hc1, hc2, hc3, hc4, hc5, hc6, hc7]
     exact ⟨_, rfl, rfl, hp⟩
   · exact ok0 0 2 11 rfl fun _ => rfl
   · refine .inl ⟨0, rfl, fun γ a wx hp hk => wantWp_free rfl ?_⟩
     have h1 := hk.k 4 rfl
     obtain ⟨u2, h2, rfl⟩ := hk.g 6 61 rfl rfl
     have hp := (show SdE 36 w V DD st x now D dx #[.int .i64 0, .int .i64 0] zDel wx from hp)
     have hB := hp.r
     obtain ⟨z0, z1⟩ := Blk.z2 (hB)
     obtain ⟨c0, c1⟩ := Blk.c2 (hB)
     have hfin := hp.setR (noStr_int2 0 0) (bes_set (bes_set (grow_refl wx (w.heap.size + 1)) 0 (.int .i64 2)) 1 (.int .i64 st.rev)) (Blk.eq ((hB.set 0 (.int .i64 2)).set 1 (.int .i64 st.rev)) (show _ = rcP 2 st.rev 1 from rfl))
     clear hB hp
     simp [go_sem, Oper.wp, execOp, Act.eval, h1, h2, c0, c1, z0, z1]
     exact ⟨⟨.int .i64 0, trivial⟩, hfin⟩
   · refine .inl ⟨1, rfl, fun γ a wx hp hk => wantWp_free rfl ?_⟩
     have h1 := hk.k 5 rfl
     obtain ⟨u2, h2, rfl⟩ := hk.g 7 62 rfl rfl
     have hp := (show SdE 36 w V DD st x now D dx (rcP 2 st.rev 1) zDel wx from hp)
     have hB := hp.d
     obtain ⟨z0, z1, z2, z3, z4, z5, z6, z7⟩ := Blk.z8 (hB)
     obtain ⟨c0, c1, c2, c3, c4, c5, c6, c7⟩ := Blk.c8 (hB)
     obtain ⟨hB8, hG8⟩ := Blk.S8 (hB) (.int .i64 D.from_) (.int .i64 D.to_) (.slice dx.aj dx.nj dx.cj) (.slice dx.an dx.nn dx.cn) (.slice dx.al dx.nl dx.cl) (.slice dx.agj dx.ngj dx.cgj) (.slice dx.agn dx.ngn dx.cgn) (.slice dx.agl dx.ngl dx.cgl)
     have hfin := hp.setD (noStr_d zD zA) hG8 (dc' := dC D dx) hB8
     clear hB hp hB8 hG8
     simp [go_sem, Oper.wp, execOp, Act.eval, h1, h2, c0, c1, c2, c3, c4, c5, c6, c7, z0, z1, z2, z3, z4, z5, z6, z7]
     exact ⟨⟨.int .i64 0, trivial⟩, hfin⟩
   · exact ok1 2 2 8 63 rfl rfl (fun _ _ h => h) fun _ => rfl
 intro γ act wz hd
 have hz := (show SdE 36 w V DD st x now D dx #[.int .i64 2, .int .i64 st.rev] (dC D dx) wz from hd.ph)
 obtain ⟨fv, rfl, hfv⟩ := hd.frame [55, 56, 57, 58, 59, 60, 61, 62, 63, 6] rfl
 have f6 : fv 6 = .bool false := hfv 11 _ 6 rfl rfl
 obtain ⟨r0, r1⟩ := Blk.c2 (hz.r)
 obtain ⟨y0, y1, y2, y3, y4, y5, y6, y7⟩ := Blk.c8 (hz.d)
 have Hend := hid (hz.end_ (st := st) (R := ⟨2, false, st, now⟩) rfl rfl HDD.out)
 clear hd hfv hz HE0
 simp only [foldl_cons, foldl_nil, setIfInBounds_toArray, set_cons_succ, set_cons_zero, f6]
 clear f6
 go_wp2
 refine bodyPost_ret (v := .tuple #[.agg #[.int .i64 2, .int .i64 st.rev], .agg (dC D dx), .bool false]) (by simp [results, Tryz.results11, go_sem, dC, *]) rfl ?_
 exact Hend.out
def rsnV (V N : Nat) (st : StateD) (x : StA) (so : StateD) (z : StA) (D : DeltaD) (γ : DelA) : Nat → Value → Prop
 | 0, u => u = .pointer (some ⟨V, 0, none⟩)
 | 1, u => u = .pointer (some ⟨V, 0, none⟩)
 | 2, u => u = .pointer (some ⟨V, 0, none⟩)
 | 3, u => u = .agg #[.int .i64 st.rev, .slice x.aj x.nj x.cj, .slice x.an x.nn x.cn, .slice x.al x.nl x.cl]
 | 4, u => u = .agg #[.int .i64 so.rev, .slice z.aj z.nj z.cj, .slice z.an z.nn z.cn, .slice z.al z.nl z.cl]
 | 5, u => u = .agg #[.int .i64 D.from_, .int .i64 D.to_, .slice γ.aj γ.nj γ.cj, .slice γ.an γ.nn γ.cn, .slice γ.al γ.nl γ.cl, .slice γ.agj γ.ngj γ.cgj, .slice γ.agn γ.ngn γ.cgn, .slice γ.agl γ.ngl γ.cgl]
 | 7, u => u = .bool true
 | _, _ => True
theorem rsnV_tr {V N : Nat} {st : StateD} {x : StA} {so : StateD} {z : StA} {D : DeltaD} {γ γ' : DelA} {j : Nat} {v : Value} (hj : j ≠ 5) (h : rsnV V N st x so z D γ j v) : rsnV V N st x so z D γ' j v := by
 unfold rsnV at *
 split at h
 all_goals first | exact h | exact absurd rfl hj
theorem rdo_new (q : ReqD) (st : StateD) (x : StA) (now : Int) (V : Nat) (w : World) (E : Int) (so : StateD) (nw : Int) (h : SrvAt w 36 V st x now) (hN : ∀ W, StAt W W.heap.size st x → Calls Tryz.prog 39 #[.agg (srvC st x now), reqA q] W (RNxPost (E, so, nw) W)) (hE : E = 0) (hv : so.rev = st.rev) (hs : so ≠ st) (hrev : ¬ 1099511627776 < st.rev + 1) (hso : checkE so = 0) :
 Calls Tryz.prog 11 #[.pointer (some ⟨V, 0, none⟩), reqA q] w (AskPost 36 V st ⟨0, true, bumpS so, nw⟩ w) := by
 subst hE
 obtain ⟨SO, hSO⟩ : ∃ SO, bumpS so = SO := ⟨_, rfl⟩
 rw [hSO]
 have HSO := hid hSO
 have Hrv := hid (show so.rev = st.rev ∧ 0 ≤ st.rev ∧ st.rev ≤ 1099511627776 from ⟨hv, (ranged_iff.1 (check_iff.1 h.ok).1).1, (ranged_iff.1 (check_iff.1 h.ok).1).2⟩)
 have Hrev := hid hrev
 clear hSO hrev hv
 have Hs := hid hs
 clear hs
 obtain ⟨q1, q2, q3, q4⟩ := three_blk w (reqC q) #[.int .i64 0, .int .i64 0] zDel (ta := 44) (tb := 46) (tc := 49)
 obtain ⟨W0, hW0⟩ : ∃ W0, ((w.alloc (.cells (reqC q) 44)).alloc (.cells #[.int .i64 0, .int .i64 0] 46)).alloc (.cells zDel 49) = W0 := ⟨_, rfl⟩
 rw [hW0] at q1 q2 q3 q4
 have H0 : RdP w V st x now q so 0 ⟨none, none⟩ W0.drew := (show RdP w V st x now q so 0 ⟨none, none⟩ W0 from ⟨⟨h.below q4, q1, q2, q3, q4, h.blk.lt⟩, fun _ => rfl, fun h => absurd h (by decide), fun _ N h => (by cases h), fun h => absurd h (by decide)⟩).drew
 have HN := hid hN
 have HW0 := hid hW0
 have Hsz := hid (sizes_of h.at_ h.ok)
 have hlV0 := h.blk.lt
 clear hW0 q1 q2 q3 q4 h hN
 unfold reqA at HN
 unfold srvC at HN
 unfold reqA
 unfold reqC at HW0 HN ⊢
 go_enter Tryz.func11, Tryz.ntmps11
 go_wp2_with fail
 rw [HW0.out]
 clear HW0
 refine rq 64 (rsdV w.heap.size V st x now q 0 so nw) [4, 10] (RdP w V st x now q so) ⟨none, none⟩ H0 ?_ ?_
 · clear H0
   refine ⟨?_, ?_, ?_, ?_, ?_, ?_, ?_, ?_, ?_, ?_, ?_, ?_, ?_, trivial⟩
   · exact ok0 0 2 0 rfl fun _ => rfl
   · exact ok1 0 2 0 13 rfl rfl (fun _ _ h => h) fun _ => rfl
   · refine okQ 0 2 fun p γ a wx _ _ hp hk => ?_
     obtain ⟨u1, h1, rfl⟩ := hk.g 1 14 rfl rfl
     obtain ⟨hc0, hc1, hc2, hc3, hc4⟩ := Blk.c5 (hp.h.sv.blk)
     simp [go_sem, Oper.wp, execOp, Act.eval, h1, hc0, hc1, hc2, hc3, hc4]
     exact ⟨_, rfl, γ, fun _ _ _ h => h, rfl, hp⟩
   · refine okQ 0 2 fun p γ a wx _ _ hp hk => ?_
     have h1 := hk.k 3 rfl
     obtain ⟨hc0, hc1, hc2, hc3, hc4, hc5, hc6, hc7, hc8, hc9, hc10, hc11, hc12, hc13⟩ := Blk.c14 (hp.h.q)
     simp [go_sem, Oper.wp, execOp, Act.eval, h1, hc0, hc1, hc2, hc3, hc4, hc5, hc6, hc7, hc8, hc9, hc10, hc11, hc12, hc13]
     exact ⟨_, rfl, γ, fun _ _ _ h => h, rfl, hp⟩
   · refine .inl ⟨0, rfl, fun γ a wx hp hk => wantWp_free rfl ?_⟩
     obtain ⟨u1, h1, rfl⟩ := hk.g 2 15 rfl rfl
     obtain ⟨u2, h2, rfl⟩ := hk.g 3 16 rfl rfl
     have hp := (show RdP w V st x now q so 0 γ wx from hp)
     simp [go_sem, Oper.wp, execOp, Act.eval, h1, h2]
     refine (HN.out wx hp.h.sv.at_).mono ?_
     rintro e w' ⟨y, rfl, ha, hb⟩
     exact ⟨_, rfl, ⟨γ.N, some y⟩, rsdV_y (hp.y0 rfl) _, ⟨y, rfl, rfl⟩, RdP.call hp ha hb⟩
   · refine okQ 0 2 fun p γ a wx _ _ hp hk => ?_
     obtain ⟨u1, h1, ⟨y1, ey1, rfl⟩⟩ := hk.g 4 17 rfl rfl
     simp [go_sem, Oper.wp, execOp, Act.eval, h1]
     exact ⟨_, rfl, γ, fun _ _ _ h => h, ⟨y1, ey1, rfl⟩, hp⟩
   · refine okQ 0 2 fun p γ a wx _ _ hp hk => ?_
     obtain ⟨u1, h1, ⟨y1, ey1, rfl⟩⟩ := hk.g 5 12 rfl rfl
     simp [go_sem, Oper.wp, execOp, Act.eval, h1]
     exact ⟨_, rfl, γ, fun _ _ _ h => h, ⟨y1, ey1, rfl⟩, hp⟩
   · refine okQ 0 2 fun p γ a wx _ _ hp hk => ?_
     obtain ⟨u1, h1, ⟨y1, ey1, rfl⟩⟩ := hk.g 5 12 rfl rfl
     simp [go_sem, Oper.wp, execOp, Act.eval, h1]
     exact ⟨_, rfl, γ, fun _ _ _ h => h, rfl, hp⟩
   · refine okQ 0 2 fun p γ a wx _ _ hp hk => ?_
     obtain ⟨u1, h1, ⟨y1, ey1, rfl⟩⟩ := hk.g 5 12 rfl rfl
     simp [go_sem, Oper.wp, execOp, Act.eval, h1]
     exact ⟨_, rfl, γ, fun _ _ _ h => h, rfl, hp⟩
   · refine okQ 0 1 fun p γ a wx _ _ hp hk => ?_
     simp [go_sem, Oper.wp, execOp, Act.eval]
     exact ⟨_, rfl, ⟨some wx.heap.size, γ.y⟩, rsdV_N _, ⟨_, rfl, rfl⟩, RdP.alloc hp (by omega)⟩
   · refine .inl ⟨1, rfl, fun γ a wx hp hk => wantWp_free rfl ?_⟩
     obtain ⟨u1, h1, ⟨N1, eN1, rfl⟩⟩ := hk.g 9 7 rfl rfl
     obtain ⟨u2, h2, ⟨y2, ey2, rfl⟩⟩ := hk.g 6 18 rfl rfl
     have hp := (show RdP w V st x now q so 1 γ wx from hp)
     have hB : Blk wx N1 26 zSta := (hp.n0 (by decide) N1 eN1).2
     obtain ⟨z0, z1, z2, z3⟩ := Blk.z4 (hB)
     obtain ⟨c0, c1, c2, c3⟩ := Blk.c4 (hB)
     obtain ⟨hb4, hg4⟩ := Blk.S4 hB (.int .i64 so.rev) (.slice y2.aj y2.nj y2.cj) (.slice y2.an y2.nn y2.cn) (.slice y2.al y2.nl y2.cl)
     have hfin := RdP.store hp eN1 ey2 hg4 hb4
     clear hB hp
     simp [go_sem, Oper.wp, execOp, Act.eval, h1, h2, c0, c1, c2, c3, z0, z1, z2, z3]
     exact ⟨.int .i64 0, γ, fun _ _ _ h => h, trivial, hfin⟩
   · exact ok1 0 2 7 19 rfl rfl (fun _ _ h => h) fun _ => rfl
   · exact ok1 0 2 8 20 rfl rfl (fun _ _ h => h) fun _ => rfl
 intro γ act w1 hd
 have hp := (show RdP w V st x now q so 2 γ w1 from hd.ph)
 obtain ⟨fv, rfl, hfv⟩ := hd.frame [13, 14, 15, 16, 17, 12, 18, 19, 20, 7, 8, 9] rfl
 obtain ⟨N, z, eN, ez, hns, hnb⟩ := hp.n2 rfl
 obtain ⟨z', ez', ha⟩ := hp.y1 (by decide)
 obtain rfl : z = z' := by rw [ez] at ez'; injection ez'
 have f7 : fv 7 = .pointer (some ⟨N, 0, none⟩) := by
  obtain ⟨N', e1, e2⟩ := (show ∃ N, γ.N = some N ∧ fv 7 = .pointer (some ⟨N, 0, none⟩) from hfv 9 _ 7 rfl rfl)
  rw [eN] at e1
  injection e1 with e1
  rw [e2, e1]
 have f8 : fv 8 = .int .i64 nw := hfv 11 _ 8 rfl rfl
 have f9 : fv 9 = .int .i64 (0 : Int) := hfv 12 _ 9 rfl rfl
 simp only [foldl_cons, foldl_nil, setIfInBounds_toArray, set_cons_succ, set_cons_zero, f7, f8, f9]
 obtain ⟨w2, hw2⟩ : ∃ w2, w1.alloc (.cells zDel 49) = w2 := ⟨_, rfl⟩
 obtain ⟨DD, hDD⟩ : ∃ DD, w1.heap.size = DD := ⟨_, rfl⟩
 obtain ⟨D0, hD0⟩ : ∃ D0, zD = D0 := ⟨_, rfl⟩
 have hb2 : Below w1.heap.size w1 w2 := by rw [← hw2]; exact (Below.refl _ _).alloc (Nat.le_refl _) _
 have HE := hid (show ∀ D, RnE w V N DD st x now q so z D 0 zA w2 from fun D => by
  have e1 := hnb.lt
  have e2 := hp.h.d.lt
  refine ⟨hp.h.kept hb2, hnb.below hb2 hnb.lt, ha.upS hb2, ?_, fun h => absurd h (by decide), hns, by omega, by omega⟩
  rw [← hw2, ← hDD]; exact heap_alloc_new w1 _)
 have Hw2 := hid hw2
 have Hd := hid hDD
 clear hd hfv hp H0 eN ez ez' hnb ha f7 f8 f9 hw2 hDD hb2 HN hD0
 have HZ := hid (sizes_of (HE.out zD).a hso)
 have HC6 := hid (show checkE SO = 0 from by rw [← HSO.out]; exact bump_check hso (by have := Hrv.out; have := Hrev.out; omega))
 clear hso
 have HS := hid (fun nq osq => show Calls Tryz.prog 13 #[.agg #[.int .i64 so.rev, .slice z.aj z.nj z.cj, .slice z.an z.nn z.cn, .slice z.al z.nl z.cl], .agg #[.int .i64 st.rev, .slice x.aj x.nj x.cj, .slice x.an x.nn x.cn, .slice x.al x.nl x.cl]] (Sort.grow (redrawn w2 nq) osq) (fun e w' => e = .returned (.bool false) ∧ Below (Sort.grow (redrawn w2 nq) osq).heap.size (Sort.grow (redrawn w2 nq) osq) w') from by
  refine (same_any so st z x _ ((HE.out zD).a.upS (below_regrown w2 nq osq)) ((HE.out zD).h.sv.at_.upS (below_regrown w2 nq osq))).mono ?_
  rintro e w' ⟨t, rfl, ht, hb⟩
  have : t = false := by rw [Bool.eq_false_iff]; exact fun h => Hs.out (ht.1 h)
  subst this
  exact ⟨rfl, hb⟩)
 obtain ⟨v0, v1, v2, v3⟩ := Blk.r4 ((HE.out zD).h.sv.blk)
 obtain ⟨n0, n1, n2, n3⟩ := Blk.r4 ((HE.out zD).n)
 go_wp2_with fail
 simp only [Hw2.out, Hd.out]
 clear Hw2 Hd
 refine wp_region_quiet_below (by kernel_rfl) (by kernel_rfl) ?_
 repeat (go_big_quiet_step ((go_at_call 13; exact Calls.regrown_of (HS.out _ _))))
 refine wpQuiet_nil ?_
 intro _ hw'
 obtain ⟨⟨nq, osq⟩, hw''⟩ := hw'
 subst hw''
 have hq := below_regrown w2 nq osq
 clear v0 v1 v2 v3 n0 n1 n2 n3 HS Hs
 dsimp only
 generalize Sort.grow (redrawn w2 nq) osq = w3 at hq ⊢
 have HE3 := hid (fun D => (HE.out D).kept hq)
 clear hq HE
 have hlV := (HE3.out zD).h.sv.blk.lt
 have hlN := (HE3.out zD).n.lt
 have hr0 : 0 ≤ so.rev := by have := Hrv.out; omega
 have hr1 : so.rev ≤ 1099511627776 := by have := Hrv.out; omega
 have n0 : w3.cell? ⟨N, 0, none⟩ = some (.int .i64 so.rev) := (HE3.out zD).n.cell 0
 have z0 : w3.frozen? ⟨N, 0, none⟩ = false := (HE3.out zD).n.thaw 0
 obtain ⟨w4, hw4⟩ : ∃ w4, w3.setCell ⟨N, 0, none⟩ (.int .i64 (so.rev + 1)) = w4 := ⟨_, rfl⟩
 have HE4 := hid (show ∀ D, RnE w V N DD st x now q SO z D 0 zA w4 from fun D => by
  have h := HE3.out D
  have hg : w3.grownBy w4 (some N) := by rw [← hw4]; exact grow_set w3 N 0 _
  refine ⟨h.h.but h.n (noStr_st _ _) hg h.ns, ?_, ?_, grow_blk hg h.db (fun e => h.nd e.symm), fun h => absurd h (by decide), h.ns, h.ds, h.nd⟩
  · rw [← HSO.out, ← hw4]; exact Blk.eq (h.n.set 0 _) rfl
  · rw [← HSO.out]; exact ((h.a.butN h.n (noStr_st _ _) hg).more hg.size).rev _)
 have Hw4 := hid hw4
 clear hw4 HE3
 have d2 : decide (1099511627776 < so.rev + 1) = false := decide_eq_false (by have := Hrev.out; have := Hrv.out; omega)
 obtain ⟨D, hD⟩ : ∃ D, betweenD st SO = D := ⟨_, rfl⟩
 have HD := hid hD
 have HB := hid (show ∀ (wx : World) {γ : DelA}, RnE w V N DD st x now q SO z D 0 γ wx → Calls Tryz.prog 40 #[.agg (stC st x), .agg (stC SO z)] wx (fun e w' => ∃ dx : DelA, e = .returned (.agg (dC D dx)) ∧ DelAt w' w'.heap.size D dx ∧ Below wx.heap.size wx w') from fun wx γ hp => by
  refine (rbetween_any st SO x z wx hp.h.sv.at_ hp.a (by have := Hsz.out; omega) (by have := Hsz.out; omega) (by have := Hsz.out; omega) (by have := HZ.out; omega) (by have := HZ.out; omega) (by have := HZ.out; omega)).mono ?_
  rintro e w' ⟨dx, rfl, ho, hb⟩
  have hz := between_sizes hp.h.sv.at_ hp.a hp.h.sv.ok HC6.out
  rw [HD.out] at ho hz ⊢
  exact ⟨dx, rfl, ho.at_ hz, hb⟩)
 have HDD := hid (show D = if (⟨0, true, SO, nw⟩ : SrvR).ch = true then betweenD st (⟨0, true, SO, nw⟩ : SrvR).st else zD from by rw [if_pos rfl]; exact hD.symm)
 have HS4 := hid (HE4.out D)
 clear hD HD HC6 Hrev Hrv HSO HE4
 go_wp2_with fail
 simp only [Hw4.out]
 clear Hw4 n0 z0 d2
 refine rq (Γ := DelA) 64 (fun γ => rsnV V N st x SO z D γ) [5, 6] (fun p γ wx => RnE w V N DD st x now q SO z D p γ wx) zA (show RnE w V N DD st x now q SO z D 0 zA w4.drew from HS4.out.drew) ?_ ?_
 · clear HS4
   refine ⟨?_, ?_, ?_, ?_, ?_, ?_, ?_, ?_, trivial⟩
   · exact ok0 0 2 0 rfl fun _ => rfl
   · exact ok1 0 2 0 39 rfl rfl (fun _ _ h => h) fun _ => rfl
   · exact ok1 0 2 1 40 rfl rfl (fun _ _ h => h) fun _ => rfl
   · refine okQ 0 2 fun p γ a wx _ _ hp hk => ?_
     obtain ⟨u1, h1, rfl⟩ := hk.g 2 41 rfl rfl
     obtain ⟨hc0, hc1, hc2, hc3⟩ := Blk.c4 (hp.h.sv.blk)
     simp [go_sem, Oper.wp, execOp, Act.eval, h1, hc0, hc1, hc2, hc3]
     exact ⟨_, rfl, γ, fun _ _ _ h => h, rfl, hp⟩
   · refine okQ 0 2 fun p γ a wx _ _ hp hk => ?_
     have h1 := hk.k 7 rfl
     obtain ⟨hc0, hc1, hc2, hc3⟩ := Blk.c4 (hp.n)
     simp [go_sem, Oper.wp, execOp, Act.eval, h1, hc0, hc1, hc2, hc3]
     exact ⟨_, rfl, γ, fun _ _ _ h => h, rfl, hp⟩
   · refine .inl ⟨0, rfl, fun γ a wx hp hk => wantWp_free rfl ?_⟩
     obtain ⟨u1, h1, rfl⟩ := hk.g 3 42 rfl rfl
     obtain ⟨u2, h2, rfl⟩ := hk.g 4 43 rfl rfl
     have hp := (show RnE w V N DD st x now q SO z D 0 γ wx from hp)
     simp [go_sem, Oper.wp, execOp, Act.eval, h1, h2]
     refine (HB.out _ hp).mono ?_
     rintro e w' ⟨dx, rfl, hd, hb⟩
     exact ⟨_, rfl, dx, fun j v hj h => rsnV_tr hj h, rfl, RnE.call hp hb hd⟩
   · refine .inl ⟨1, rfl, fun γ a wx hp hk => wantWp_free rfl ?_⟩
     have h1 := hk.k 10 rfl
     obtain ⟨u2, h2, rfl⟩ := hk.g 5 44 rfl rfl
     have hp := (show RnE w V N DD st x now q SO z D 1 γ wx from hp)
     have hB := (show Blk wx DD 49 zDel from hp.db)
     obtain ⟨z0, z1, z2, z3, z4, z5, z6, z7⟩ := Blk.z8 (hB)
     obtain ⟨c0, c1, c2, c3, c4, c5, c6, c7⟩ := Blk.c8 (hB)
     obtain ⟨hB8, hG8⟩ := Blk.S8 (hB) (.int .i64 D.from_) (.int .i64 D.to_) (.slice γ.aj γ.nj γ.cj) (.slice γ.an γ.nn γ.cn) (.slice γ.al γ.nl γ.cl) (.slice γ.agj γ.ngj γ.cgj) (.slice γ.agn γ.ngn γ.cgn) (.slice γ.agl γ.ngl γ.cgl)
     have hfin := RnE.store hp hG8 hB8
     clear hB hp hB8 hG8
     simp [go_sem, Oper.wp, execOp, Act.eval, h1, h2, c0, c1, c2, c3, c4, c5, c6, c7, z0, z1, z2, z3, z4, z5, z6, z7]
     exact ⟨.int .i64 0, γ, fun _ _ _ h => h, trivial, hfin⟩
   · refine okQ 0 2 fun p γ a wx _ _ hp hk => ?_
     simp [go_sem, Oper.wp, execOp, Act.eval]
     exact ⟨_, rfl, γ, fun _ _ _ h => h, rfl, hp⟩
 intro dx act wz hd
 have hz := (show RnE w V N DD st x now q SO z D 2 dx wz from hd.ph)
 obtain ⟨fv, rfl, hfv⟩ := hd.frame [39, 40, 41, 42, 43, 44, 11] rfl
 have f11 : fv 11 = .bool true := hfv 7 _ 11 rfl rfl
 have hlV7 := hz.h.sv.blk.lt
 have hlN7 := hz.n.lt
 have hv := hz.h.sv.blk
 obtain ⟨n0, n1, n2, n3⟩ := Blk.c4 (hz.n)
 obtain ⟨c0, c1, c2, c3⟩ := Blk.c4 (hv)
 obtain ⟨z0, z1, z2, z3⟩ := Blk.z4 (hv)
 obtain ⟨hV4, hG4⟩ := Blk.S4 (hv) (.int .i64 SO.rev) (.slice z.aj z.nj z.cj) (.slice z.an z.nn z.cn) (.slice z.al z.nl z.cl)
 obtain ⟨y0, y1, y2, y3⟩ := Blk.c4 hV4
 have y4 : ((((wz.setCell ⟨V, 0, none⟩ (.int .i64 SO.rev)).setCell ⟨V, 1, none⟩ (.slice z.aj z.nj z.cj)).setCell ⟨V, 2, none⟩ (.slice z.an z.nn z.cn)).setCell ⟨V, 3, none⟩ (.slice z.al z.nl z.cl)).cell? ⟨V, 4, none⟩ = some (.int .i64 now) := hV4.cell 4
 have yz : ((((wz.setCell ⟨V, 0, none⟩ (.int .i64 SO.rev)).setCell ⟨V, 1, none⟩ (.slice z.aj z.nj z.cj)).setCell ⟨V, 2, none⟩ (.slice z.an z.nn z.cn)).setCell ⟨V, 3, none⟩ (.slice z.al z.nl z.cl)).frozen? ⟨V, 4, none⟩ = false := hV4.thaw 4
 have hE0 := hz.end_ (.inl rfl) (bes_set hG4 4 (.int .i64 nw)) (Blk.eq (hV4.set 4 (.int .i64 nw)) (show _ = srvC SO z nw from rfl))
 obtain ⟨wE, hwE⟩ : ∃ wE, ((((wz.setCell ⟨V, 0, none⟩ (.int .i64 SO.rev)).setCell ⟨V, 1, none⟩ (.slice z.aj z.nj z.cj)).setCell ⟨V, 2, none⟩ (.slice z.an z.nn z.cn)).setCell ⟨V, 3, none⟩ (.slice z.al z.nl z.cl)).setCell ⟨V, 4, none⟩ (.int .i64 nw) = wE := ⟨_, rfl⟩
 rw [hwE] at hE0
 have HE0 := hid hE0
 have Hw := hid hwE
 clear hd hfv hz hv hV4 hG4 hE0 hwE HS4 HB y0 y1 y2 y3
 simp only [foldl_cons, foldl_nil, setIfInBounds_toArray, set_cons_succ, set_cons_zero, f11]
 clear f11
 go_wp2_with fail
 simp only [Hw.out]
 clear Hw y4 yz
 refine rq (Γ := Unit) 64 (fun _ => sdeV V SO 0 D dx true) [9, 10] (fun p _ => SdE 36 w V DD SO z nw D dx (rcP 0 SO.rev p) (dcP D dx p)) () (show SdE 36 w V DD SO z nw D dx #[.int .i64 0, .int .i64 0] zDel (wE).drew from HE0.out.drew) ?_ ?_
 · clear HE0
   refine ⟨?_, ?_, ?_, ?_, ?_, ?_, ?_, ?_, ?_, ?_, ?_, ?_, trivial⟩
   · exact ok0 0 0 9 rfl fun _ => rfl
   · exact ok0 0 0 0 rfl fun _ => rfl
   · exact ok1 0 0 1 56 rfl rfl (fun _ _ h => h) fun _ => rfl
   · exact ok1 0 0 2 57 rfl rfl (fun _ _ h => h) fun _ => rfl
   · exact ok1 0 0 3 58 rfl rfl (fun _ _ h => h) fun _ => rfl
   · refine okQ 0 0 fun p γ a wx _ _ hp hk => ?_
     obtain ⟨u1, h1, rfl⟩ := hk.g 4 59 rfl rfl
     have hc0 : wx.cell? ⟨V, 0, none⟩ = some (.int .i64 SO.rev) := hp.v.cell 0
     simp [go_sem, Oper.wp, execOp, Act.eval, h1, hc0]
     exact ⟨_, rfl, rfl, hp⟩
   · refine okQ 0 0 fun p γ a wx _ _ hp hk => ?_
     obtain ⟨u1, h1, rfl⟩ := hk.g 0 55 rfl rfl
     obtain ⟨u2, h2, rfl⟩ := hk.g 5 60 rfl rfl
     simp [go_sem, Oper.wp, execOp, Act.eval, h1, h2]
     exact ⟨_, rfl, rfl, hp⟩
   · refine okQ 0 1 fun p γ a wx _ _ hp hk => ?_
     have h1 := hk.k 10 rfl
     obtain ⟨hc0, hc1, hc2, hc3, hc4, hc5, hc6, hc7⟩ := Blk.c8 (hp.db)
     simp [go_sem, Oper.wp, execOp, Act.eval, h1, hc0, hc1, hc2, hc3, hc4, hc5, hc6, hc7]
     exact ⟨_, rfl, rfl, hp⟩
   · exact ok0 0 2 11 rfl fun _ => rfl
   · refine .inl ⟨0, rfl, fun γ a wx hp hk => wantWp_free rfl ?_⟩
     have h1 := hk.k 4 rfl
     obtain ⟨u2, h2, rfl⟩ := hk.g 6 61 rfl rfl
     have hp := (show SdE 36 w V DD SO z nw D dx #[.int .i64 0, .int .i64 0] zDel wx from hp)
     have hB := hp.r
     obtain ⟨z0, z1⟩ := Blk.z2 (hB)
     obtain ⟨c0, c1⟩ := Blk.c2 (hB)
     have hfin := hp.setR (noStr_int2 0 0) (bes_set (bes_set (grow_refl wx (w.heap.size + 1)) 0 (.int .i64 0)) 1 (.int .i64 SO.rev)) (Blk.eq ((hB.set 0 (.int .i64 0)).set 1 (.int .i64 SO.rev)) (show _ = rcP 0 SO.rev 1 from rfl))
     clear hB hp
     simp [go_sem, Oper.wp, execOp, Act.eval, h1, h2, c0, c1, z0, z1]
     exact ⟨⟨.int .i64 0, trivial⟩, hfin⟩
   · refine .inl ⟨1, rfl, fun γ a wx hp hk => wantWp_free rfl ?_⟩
     have h1 := hk.k 5 rfl
     obtain ⟨u2, h2, rfl⟩ := hk.g 7 62 rfl rfl
     have hp := (show SdE 36 w V DD SO z nw D dx (rcP 0 SO.rev 1) zDel wx from hp)
     have hB := hp.d
     obtain ⟨z0, z1, z2, z3, z4, z5, z6, z7⟩ := Blk.z8 (hB)
     obtain ⟨c0, c1, c2, c3, c4, c5, c6, c7⟩ := Blk.c8 (hB)
     obtain ⟨hB8, hG8⟩ := Blk.S8 (hB) (.int .i64 D.from_) (.int .i64 D.to_) (.slice dx.aj dx.nj dx.cj) (.slice dx.an dx.nn dx.cn) (.slice dx.al dx.nl dx.cl) (.slice dx.agj dx.ngj dx.cgj) (.slice dx.agn dx.ngn dx.cgn) (.slice dx.agl dx.ngl dx.cgl)
     have hfin := hp.setD (noStr_d zD zA) hG8 (dc' := dC D dx) hB8
     clear hB hp hB8 hG8
     simp [go_sem, Oper.wp, execOp, Act.eval, h1, h2, c0, c1, c2, c3, c4, c5, c6, c7, z0, z1, z2, z3, z4, z5, z6, z7]
     exact ⟨⟨.int .i64 0, trivial⟩, hfin⟩
   · exact ok1 2 2 8 63 rfl rfl (fun _ _ h => h) fun _ => rfl
 intro γ act wz hd
 have hz := (show SdE 36 w V DD SO z nw D dx #[.int .i64 0, .int .i64 SO.rev] (dC D dx) wz from hd.ph)
 obtain ⟨fv, rfl, hfv⟩ := hd.frame [55, 56, 57, 58, 59, 60, 61, 62, 63, 6] rfl
 have f6 : fv 6 = .bool true := hfv 11 _ 6 rfl rfl
 obtain ⟨r0, r1⟩ := Blk.c2 (hz.r)
 obtain ⟨y0, y1, y2, y3, y4, y5, y6, y7⟩ := Blk.c8 (hz.d)
 have Hend := hid (hz.end_ (st := st) (R := ⟨0, true, SO, nw⟩) rfl rfl HDD.out)
 clear hd hfv hz HE0
 simp only [foldl_cons, foldl_nil, setIfInBounds_toArray, set_cons_succ, set_cons_zero, f6]
 clear f6
 go_wp2
 refine bodyPost_ret (v := .tuple #[.agg #[.int .i64 0, .int .i64 SO.rev], .agg (dC D dx), .bool true]) (by simp [results, Tryz.results11, go_sem, dC, *]) rfl ?_
 exact Hend.out
end Go.Proofs.YtjgnnobccecpeaaGreatDoor
