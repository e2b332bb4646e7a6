/- The walks of up.step and its closure. -/
import Derived.Test.YtonipllegfgdiaaDoorUpOwn
import Derived.Test.YtonipllegfgdiaaDoorOwnSet
import Derived.Test.YtonipllegfgdiaaDoorHasFL
import Derived.Test.YtonipllegfgdiaaDoorPlUp
import Derived.Test.YtonipllegfgdiaaDoorAt
import Derived.Lib.QuietBelow
set_option linter.unusedVariables false
set_option linter.unusedSimpArgs false
namespace Go.Proofs.YtonipllegfgdiaaDoor
open Go.RowKit
/-- A cell of a row of the call's own is set: by the address as it stands. -/
theorem own_setAt {w : World} {base sz n b off c : Nat} {e : TypeId} {xs : List Value} (ho : w.ownsRow base e sz (.slice (some ⟨b, off, none⟩) n c) n xs) (j : Nat) (hj : j < n * sz) (u : Value) :
    (w.setCell ⟨b, off + j, none⟩ u).ownsRow base e sz (.slice (some ⟨b, off, none⟩) n c) n (xs.set j u) ∧ w.frozen? ⟨b, off + j, none⟩ = false ∧ b < w.heap.size ∧ base ≤ b ∧ ∃ cs, w.heap[b]? = some (.cells cs e (0, 0)) := by
  have h0 : off = 0 := by
    rcases ho.2 with ⟨h, _⟩ | ⟨q, cap, cur, hv, _⟩
    · cases h
    · injection hv with e1 e2 e3
      injection e1 with e1
      injection e1
  subst h0
  obtain ⟨h1, h2, h3, h4⟩ := ownT_set ho j hj u
  refine ⟨by rw [Nat.zero_add]; exact h1, by rw [Nat.zero_add]; exact h2, h3, h4, ?_⟩
  rcases ho.2 with ⟨h, _⟩ | ⟨q, cap, cur, hv, _, hg, _⟩
  · cases h
  · injection hv with e1 e2 e3
    injection e1 with e1
    injection e1 with e1
    subst e1
    exact ⟨_, hg⟩
/-- Rows of another type, where a cell of a row is set. -/
theorem own_setOther {w : World} {base sz n b i : Nat} {e e' : TypeId} {v u : Value} {xs : List Value} {cs : Array Value} (ho : w.ownsRow base e sz v n xs) (hb : w.heap[b]? = some (.cells cs e' (0, 0))) (hne : e ≠ e') : (w.setCell ⟨b, i, none⟩ u).ownsRow base e sz v n xs := by
  rcases ho with ⟨h1, h | ⟨q, cap, cur, hv, hq, hgq, r⟩⟩
  · exact ⟨h1, .inl h⟩
  · refine ⟨h1, .inr ⟨q, cap, cur, hv, hq, ?_, r⟩⟩
    rw [Below.heap_setCell w ⟨b, i, none⟩ u q (fun e1 => ?_)]
    · exact hgq
    · have e1 : q = b := e1
      rw [e1, hb] at hgq
      simp only [Option.some.injEq, Obj.cells.injEq] at hgq
      exact hne hgq.2.1.symm
theorem own_rec {α : Type} {enc : α → List Value} {w : World} {base sz n c : Nat} {T : TypeId} {A : Option Addr} {l : List α} (hz : ∀ a, (enc a).length = sz) (h : w.ownsRow base T sz (.slice A n c) n (rowsV enc l)) (hl : l.length = n) {i : Nat} {a : α} (hi : l[i]? = some a) :
    ∃ b off, A = some ⟨b, off, none⟩ ∧ base ≤ b ∧ b < w.heap.size ∧ ∀ j u, (enc a)[j]? = some u → w.cell? ⟨b, off + i * sz + j, none⟩ = some u := by
  obtain ⟨b, off, e, hb, hc⟩ := (own_slAt h).rec_ hz hl hi
  refine ⟨b, off, e, ?_, hb, hc⟩
  subst e
  rcases h.2 with ⟨h', _⟩ | ⟨q, cap, cur, hv, hq, _⟩
  · cases h'
  · injection hv with e1
    injection e1 with e1
    injection e1 with e1
    omega
set_option maxRecDepth 100000 in
set_option maxHeartbeats 2000000 in
theorem stepcl_is (job node : ByteArray) (till : Int) (S I b off n c k : Nat) (name : ByteArray) (w : World) (hS : w.cell? ⟨S, 1, none⟩ = some (.slice (some ⟨b, off, none⟩) n c)) (hI : w.cell? ⟨I, 0, none⟩ = some (.int .i64 k)) (hk : k < n) (hn : n ≤ 1000) (hc : w.cell? ⟨b, off + k * 5, none⟩ = some (.string name)) :
    Calls Tryd.prog 149 #[.agg #[.string job, .string node, .int .i64 till], .pointer (some ⟨S, 0, none⟩), .pointer (some ⟨I, 0, none⟩)] w fun e w' => e = .returned (.bool (decide (job = name))) ∧ Below w.heap.size w w' := by
  rw [← beq_dec]
  have hb0 := (Below.refl w.heap.size w).alloc (Nat.le_refl _) (.cells #[.string job, .string node, .int .i64 till] 71)
  have hSl := block_lt_of_cell hS
  have hIl := block_lt_of_cell hI
  have hcl := block_lt_of_cell hc
  generalize hw1 : w.alloc (.cells #[.string job, .string node, .int .i64 till] 71) = w1 at hb0
  have b0 := fun d os => cell_regrown (show w1.cell? ⟨w.heap.size, 0, none⟩ = some (.string job) by rw [← hw1]; simp [go_sem]) d os
  have s0 := fun d os => cell_regrown ((hb0.cell (p := ⟨S, 1, none⟩) hSl).trans hS) d os
  have i0 := fun d os => cell_regrown ((hb0.cell (p := ⟨I, 0, none⟩) hIl).trans hI) d os
  have c0 := fun d os => cell_regrown ((hb0.cell (p := ⟨b, off + k * 5, none⟩) hcl).trans hc) d os
  have Hb0 := Lib.hid hb0
  have HW := Lib.hid hw1
  clear hb0 hw1 hS hI hc hSl hIl hcl
  go_enter Tryd.func149, Tryd.ntmps149
  go_wp2_with fail
  rw [HW.out]
  refine wp_region_quiet_below (by kernel_rfl) (by kernel_rfl) ?_
  repeat (go_big_quiet_step ((fail)))
  refine wpQuiet_nil ?_
  intro _ hw'
  obtain ⟨⟨nq, osq⟩, hw''⟩ := hw'
  subst hw''
  have hb2 := Lib.hid (Hb0.out.trans ((below_regrown w1 nq osq).mono Hb0.out.size))
  clear b0 s0 i0 c0
  dsimp only
  generalize Sort.grow (redrawn w1 nq) osq = w2 at hb2 ⊢
  go_wp2
  go_ret
  exact ⟨rfl, hb2.out⟩
section
variable {α : Type} {f : α → α} {l : List α} {k : Nat} {y : α}
def mapK (f : α → α) (l : List α) (k : Nat) : List α := (l.take k).map f ++ l.drop k
theorem mapK_get (f : α → α) (l : List α) (k : Nat) : (mapK f l k)[k]? = l[k]? := by
  unfold mapK
  by_cases h : k ≤ l.length
  · rw [List.getElem?_append_right (by simp; omega), List.getElem?_drop]
    congr 1
    simp; omega
  · rw [List.getElem?_eq_none (by simp; omega), List.getElem?_eq_none (by omega)]
theorem mapK_len (f : α → α) (l : List α) (k : Nat) : (mapK f l k).length = l.length := by unfold mapK; simp; omega
theorem mapK_zero (f : α → α) (l : List α) : mapK f l 0 = l := rfl
theorem mapK_all (f : α → α) {l : List α} {k : Nat} (h : l.length ≤ k) : mapK f l k = l.map f := by unfold mapK; rw [List.take_of_length_le h, List.drop_of_length_le h, List.append_nil]
theorem mapK_eq (h : l[k]? = some y) : mapK f l k = (l.take k).map f ++ y :: l.drop (k + 1) := by unfold mapK; rw [drop_cons h]
theorem mapK_succ (h : l[k]? = some y) : mapK f l (k + 1) = (l.take k).map f ++ f y :: l.drop (k + 1) := by unfold mapK; rw [List.take_add_one, h]; simp
theorem mapK_same (h : l[k]? = some y) (hf : f y = y) : mapK f l (k + 1) = mapK f l k := by rw [mapK_succ h, mapK_eq h, hf]
theorem mapK_set (h : l[k]? = some y) : (mapK f l k).set k (f y) = mapK f l (k + 1) := by
  have hk : ((l.take k).map f).length = k := by
    have := (List.getElem?_eq_some_iff.1 h).1
    simp; omega
  rw [mapK_succ h, mapK_eq h, List.set_append_right _ _ (by omega), hk, Nat.sub_self, List.set_cons_zero]
end
theorem blk_setOther {w : World} {S b i : Nat} {T e : TypeId} {u : Value} {cs cs' : Array Value} (h : Blk w S T cs) (hb : w.heap[b]? = some (.cells cs' e (0, 0))) (hne : T ≠ e) : Blk (w.setCell ⟨b, i, none⟩ u) S T cs := by
  unfold Blk at h ⊢
  rw [Below.heap_setCell w ⟨b, i, none⟩ u S (fun e1 => ?_)]
  · exact h
  · have e1 : S = b := e1
    rw [e1, hb] at h
    simp only [Option.some.injEq, Obj.cells.injEq] at h
    exact hne h.2.1.symm
theorem below_setB {w0 w : World} {base b i : Nat} {u : Value} (h : Below base w0 w) (hb : base ≤ b) : Below base w0 (w.setCell ⟨b, i, none⟩ u) :=
  ⟨h.os, h.tape, h.output, by have := h.size; simpa [World.setCell] using this, fun k hk => (Below.heap_setCell w ⟨b, i, none⟩ u k (by show k ≠ b; omega)).trans (h.block k hk)⟩
/-- On the way through step: the box of the state, the result's box, the rows as they stand. -/
structure StepAt (w0 wr : World) (base S : Nat) (cs : Array Value) (st : StateD) (x : StA) : Prop where
  below : Below base w0 wr
  box : Blk wr S 26 cs
  res : Blk wr (S + 1) 26 #[.int .i64 0, .slice none 0 0, .slice none 0 0, .slice none 0 0]
  own : StOwn wr base st x
theorem StOwn.kept {w w' : World} {base : Nat} {st : StateD} {x : StA} (h : StOwn w base st x) (hb : Below w.heap.size w w') : StOwn w' base st x :=
  ⟨ownU_below h.j hb, ownU_below h.n hb, ownU_below h.l hb, h.lj, h.ln, h.ll⟩
theorem StepAt.kept {w0 w w' : World} {base S : Nat} {cs : Array Value} {st : StateD} {x : StA} (h : StepAt w0 w base S cs st x) (hb : Below w.heap.size w w') (h0 : base ≤ w.heap.size) : StepAt w0 w' base S cs st x :=
  ⟨h.below.trans (hb.mono h0), h.box.below hb h.box.lt, h.res.below hb h.res.lt, h.own.kept hb⟩
def StepPost (st st' : StateD) (x : StA) (base : Nat) (w : World) (e : Ending) (w' : World) : Prop := e = .returned (.agg (stC st' x)) ∧ StOwn w' base st' x ∧ Below base w w'
theorem stepSt_2 (st : StateD) : stepSt st 2 = ⟨st.rev, st.jobs.map (upJ st.leases), st.nodes.map upN, st.leases⟩ := if_pos rfl
theorem stepSt_3 (st : StateD) : stepSt st 3 = { st with rev := 1 } := by unfold stepSt; rw [if_neg (by decide), if_pos rfl]
theorem upJ_yes {ls : List LeaseD} {j : JobD} (h : (ls.any fun l => decide (l.job = j.name)) = true) : upJ ls j = { j with tries := 1 } := by unfold upJ; rw [h]; rfl
theorem upJ_no {ls : List LeaseD} {j : JobD} (h : (ls.any fun l => decide (l.job = j.name)) = false) (h0 : j.tries = 0) : upJ ls j = j := by unfold upJ; rw [h, if_neg (by simp), ← h0]
set_option maxRecDepth 100000 in
set_option maxHeartbeats 4000000 in
theorem step3_any (st : StateD) (x : StA) (base : Nat) (w : World) (hO : StOwn w base st x) (hbw : base ≤ w.heap.size) (h1 : x.nj ≤ 1000) (h2 : x.nn ≤ 1000) (h3 : x.nl ≤ 1000) :
    Calls Tryd.prog 115 #[.agg (stC st x), .int .i64 3] w (StepPost st (stepSt st 3) x base w) := by
  rw [stepSt_3]
  have hb1 : Below w.heap.size w (w.alloc (.cells (stC st x) 26)) := (Below.refl _ _).alloc (Nat.le_refl _) _
  have hb2 := hb1.alloc hb1.size (.cells #[.int .i64 0, .slice none 0 0, .slice none 0 0, .slice none 0 0] 26)
  have HST := Lib.hid (show StepAt w ((w.alloc (.cells (stC st x) 26)).alloc (.cells #[.int .i64 0, .slice none 0 0, .slice none 0 0, .slice none 0 0] 26)) base w.heap.size (stC st x) st x from
    ⟨hb2.mono hbw, Blk.alloc (show Blk _ _ _ _ from heap_alloc_new w _) _, by
      have h := heap_alloc_new (w.alloc (.cells (stC st x) 26)) (.cells #[.int .i64 0, .slice none 0 0, .slice none 0 0, .slice none 0 0] 26)
      rw [show (w.alloc (.cells (stC st x) 26)).heap.size = w.heap.size + 1 by simp] at h
      exact h, hO.kept hb2⟩)
  clear hb1 hb2
  obtain ⟨rev, jobs, nodes, leases⟩ := st
  obtain ⟨aj, nj, cj, an, nn, cn, al, nl, cl⟩ := x
  unfold stC at *
  dsimp only at *
  go_enter Tryd.func115, Tryd.ntmps115
  have hA1 : Below w.heap.size w (w.alloc (.cells #[.int .i64 1, .slice aj nj cj, .slice an nn cn, .slice al nl cl] 26)) := (Below.refl _ _).alloc (Nat.le_refl _) _
  have hA2 := hA1.alloc hA1.size (.cells #[.int .i64 1, .slice aj nj cj, .slice an nn cn, .slice al nl cl] 26)
  have Hend := Lib.hid (show StepPost ⟨rev, jobs, nodes, leases⟩ ⟨1, jobs, nodes, leases⟩ ⟨aj, nj, cj, an, nn, cn, al, nl, cl⟩ base w (.returned (.agg #[.int .i64 1, .slice aj nj cj, .slice an nn cn, .slice al nl cl])) _ from ⟨rfl, ⟨ownU_below hO.j hA2, ownU_below hO.n hA2, ownU_below hO.l hA2, hO.lj, hO.ln, hO.ll⟩, hA2.mono hbw⟩)
  clear hA1 hA2 hO HST
  go_wp2
  refine bodyPost_ret (v := .agg #[.int .i64 1, .slice aj nj cj, .slice an nn cn, .slice al nl cl]) (by simp [results, Tryd.results115, go_sem]) rfl ?_
  exact Hend.out
set_option maxRecDepth 100000 in
set_option maxHeartbeats 4000000 in
theorem step2_any (st : StateD) (x : StA) (base : Nat) (w : World) (hO : StOwn w base st x) (hbw : base ≤ w.heap.size) (h1 : x.nj ≤ 1000) (h2 : x.nn ≤ 1000) (h3 : x.nl ≤ 1000) (htr : ∀ j ∈ st.jobs, j.tries = 0) :
    Calls Tryd.prog 115 #[.agg (stC st x), .int .i64 2] w (StepPost st (stepSt st 2) x base w) := by
  rw [stepSt_2]
  have hb1 : Below w.heap.size w (w.alloc (.cells (stC st x) 26)) := (Below.refl _ _).alloc (Nat.le_refl _) _
  have hb2 := hb1.alloc hb1.size (.cells #[.int .i64 0, .slice none 0 0, .slice none 0 0, .slice none 0 0] 26)
  have HST := Lib.hid (show StepAt w ((w.alloc (.cells (stC st x) 26)).alloc (.cells #[.int .i64 0, .slice none 0 0, .slice none 0 0, .slice none 0 0] 26)) base w.heap.size (stC st x) st x from
    ⟨hb2.mono hbw, Blk.alloc (show Blk _ _ _ _ from heap_alloc_new w _) _, by
      have h := heap_alloc_new (w.alloc (.cells (stC st x) 26)) (.cells #[.int .i64 0, .slice none 0 0, .slice none 0 0, .slice none 0 0] 26)
      rw [show (w.alloc (.cells (stC st x) 26)).heap.size = w.heap.size + 1 by simp] at h
      exact h, hO.kept hb2⟩)
  clear hb1 hb2 hO
  obtain ⟨rev, jobs, nodes, leases⟩ := st
  obtain ⟨aj, nj, cj, an, nn, cn, al, nl, cl⟩ := x
  unfold stC at *
  dsimp only at *
  go_enter Tryd.func115, Tryd.ntmps115
  have Htr := Lib.hid htr
  have y1 := HST.out.box.cell 1
  clear htr
  have hnj : jobs.length = nj := HST.out.own.lj
  have hnn : nodes.length = nn := HST.out.own.ln
  have hnl : leases.length = nl := HST.out.own.ll
  have y1 : ((w.alloc (.cells #[.int .i64 rev, .slice aj nj cj, .slice an nn cn, .slice al nl cl] 26)).alloc (.cells #[.int .i64 0, .slice none 0 0, .slice none 0 0, .slice none 0 0] 26)).cell? ⟨w.heap.size, 1, none⟩ = some (.slice aj nj cj) := HST.out.box.cell 1
  go_wp2
  go_loopw [13] (fun i wr => ∃ k : Nat, k ≤ nj ∧ i = .int .i64 k ∧ StepAt w wr base w.heap.size #[.int .i64 rev, .slice aj nj cj, .slice an nn cn, .slice al nl cl] ⟨rev, mapK (upJ leases) jobs k, nodes, leases⟩ ⟨aj, nj, cj, an, nn, cn, al, nl, cl⟩) (fun i _ => nj - (intOf i).toNat)
  case atStart => exact ⟨0, Nat.zero_le _, rfl, HST.out⟩
  case round =>
    clear HST y1
    obtain ⟨k, hk, rfl, hst⟩ := hrel
    have HS := Lib.hid hst
    have hbr : base ≤ wr.heap.size := Nat.le_trans hbw hst.below.size
    have hbl := hst.box.lt
    clear hst
    by_cases hlt : k < nj
    · obtain ⟨y, hf⟩ : ∃ y, jobs[k]? = some y := ⟨_, List.getElem?_eq_getElem (by omega)⟩
      have hfk : (mapK (upJ leases) jobs k)[k]? = some y := by rw [mapK_get]; exact hf
      obtain ⟨b, off, hao, hbb, hbs, hc⟩ := own_rec jobV_len HS.out.own.j HS.out.own.lj hfk
      dsimp only at hao
      subst hao
      have hA2 : Below wr.heap.size wr (wr.alloc (.cells #[.int .i64 k] 3)) := (Below.refl _ _).alloc (Nat.le_refl _) _
      have hI : Blk (wr.alloc (.cells #[.int .i64 k] 3)) wr.heap.size 3 #[.int .i64 k] := heap_alloc_new wr _
      have Htry := Lib.hid (Htr.out y (List.mem_of_getElem? hf))
      obtain ⟨name, prio, need, tries, tag⟩ := y
      have c0 : wr.cell? ⟨b, off + k * 5, none⟩ = some (.string name) := hc 0 _ rfl
      have c3 : wr.cell? ⟨b, off + k * 5 + 3, none⟩ = some (.int .i64 tries) := hc 3 _ rfl
      have s1 : wr.cell? ⟨w.heap.size, 1, none⟩ = some (.slice (some ⟨b, off, none⟩) nj cj) := HS.out.box.cell 1
      have s3 : wr.cell? ⟨w.heap.size, 3, none⟩ = some (.slice al nl cl) := HS.out.box.cell 3
      have HSA := HS.out.kept hA2 hbr
      generalize hWA : (wr.alloc (.cells #[.int .i64 k] 3)) = WA at hA2 hI HSA
      have hla : wr.heap.size < WA.heap.size := hI.lt
      have a0 : WA.cell? ⟨b, off + k * 5, none⟩ = some (.string name) := (hA2.cell (p := ⟨b, off + k * 5, none⟩) hbs).trans c0
      have a3 : WA.cell? ⟨b, off + k * 5 + 3, none⟩ = some (.int .i64 tries) := (hA2.cell (p := ⟨b, off + k * 5 + 3, none⟩) hbs).trans c3
      have as3 : WA.cell? ⟨w.heap.size, 3, none⟩ = some (.slice al nl cl) := HSA.box.cell 3
      have hP : Answers (fun l : LeaseD => decide (l.job = name)) 149 #[.pointer (some ⟨w.heap.size, 0, none⟩), .pointer (some ⟨wr.heap.size, 0, none⟩)] leaseV leases WA := by
        intro W hW l hl
        obtain ⟨lj, ln, lt⟩ := l
        exact stepcl_is lj ln lt w.heap.size wr.heap.size b off nj cj k name W ((HSA.box.below hW HSA.box.lt).cell 1) ((hI.below hW hI.lt).cell 0) hlt h1 ((hW.cell (p := ⟨b, off + k * 5, none⟩) (by show b < _; omega)).trans a0)
      have hCF := hasf_lease (fun l : LeaseD => decide (l.job = name)) 149 #[.pointer (some ⟨w.heap.size, 0, none⟩), .pointer (some ⟨wr.heap.size, 0, none⟩)] leases al nl cl WA (Go.Proofs.enters_of Tryd.func149 (by kernel_rfl) rfl) (own_slAt HSA.own.l) HSA.own.ll (by omega) hP
      have HCF := Lib.hid hCF
      have HSAh := Lib.hid HSA
      have HI := Lib.hid hI
      have HWA := Lib.hid hWA
      have HA3 := Lib.hid a3
      have Hf := Lib.hid hf
      have Hfk := Lib.hid hfk
      have hmf : ∀ (fn : Fn) (first cap : Array Value) (w : World), (Instr.makeFunc fn first cap).run Tryd.prog w = .ok (.func fn first cap) w := fun _ _ _ _ => rfl
      clear hA2 hI HSA hWA hP hCF hc c0 c3 a0 a3 hf hfk s1
      go_wp2_with fail
      rw [HWA.out]
      refine Calls.mono HCF.out ?_
      rintro e w2 ⟨rfl, hb2⟩
      have HS2 := Lib.hid (HSAh.out.kept hb2 (by omega))
      have hi2 := HI.out.below hb2 HI.out.lt
      have i0 : w2.cell? ⟨wr.heap.size, 0, none⟩ = some (.int .i64 k) := hi2.cell 0
      have hil := hi2.lt
      have t1 : w2.cell? ⟨w.heap.size, 1, none⟩ = some (.slice (some ⟨b, off, none⟩) nj cj) := HS2.out.box.cell 1
      have d3 : w2.cell? ⟨b, off + k * 5 + 3, none⟩ = some (.int .i64 tries) := (hb2.cell (p := ⟨b, off + k * 5 + 3, none⟩) (by show b < _; omega)).trans HA3.out
      have hs2 := hb2.size
      have hbl2 := HS2.out.box.lt
      clear hb2 hi2 HCF HSAh HI HWA HA3 HS as3 s3
      cases hany : leases.any (fun l => decide (l.job = name))
      · have HS3 := Lib.hid (show StepAt w w2 base w.heap.size #[.int .i64 rev, .slice (some ⟨b, off, none⟩) nj cj, .slice an nn cn, .slice al nl cl] ⟨rev, mapK (upJ leases) jobs (k + 1), nodes, leases⟩ ⟨some ⟨b, off, none⟩, nj, cj, an, nn, cn, al, nl, cl⟩ from by
          rw [mapK_same Hf.out (upJ_no hany Htry.out)]; exact HS2.out)
        clear hany t1 i0 d3
        go_wp2
        go_roundw
        case rel => exact ⟨k + 1, by omega, by go_num, HS3.out⟩
        case measure => simp [intOf]; omega
      · obtain ⟨ho, hz, hbs2, hbb2, ccs, hblk⟩ := own_setAt HS2.out.own.j (k * 5 + 3) (by dsimp only; omega) (.int .i64 1)
        have hset := rowsV_set jobV_len (mapK (upJ leases) jobs k) k 3 ⟨name, prio, need, tries, tag⟩ (upJ leases ⟨name, prio, need, tries, tag⟩) (.int .i64 1) Hfk.out (by omega) (by rw [upJ_yes hany]; rfl)
        rw [mapK_set Hf.out] at hset
        dsimp only at ho hz hblk
        rw [hset, ← Nat.add_assoc] at ho
        rw [← Nat.add_assoc] at hz
        have HS3 := Lib.hid (show StepAt w (w2.setCell ⟨b, off + k * 5 + 3, none⟩ (.int .i64 1)) base w.heap.size #[.int .i64 rev, .slice (some ⟨b, off, none⟩) nj cj, .slice an nn cn, .slice al nl cl] ⟨rev, mapK (upJ leases) jobs (k + 1), nodes, leases⟩ ⟨some ⟨b, off, none⟩, nj, cj, an, nn, cn, al, nl, cl⟩ from
          ⟨below_setB HS2.out.below hbb2, blk_setOther HS2.out.box hblk (by decide), blk_setOther HS2.out.res hblk (by decide), ⟨ho, own_setOther HS2.out.own.n hblk (by decide), own_setOther HS2.out.own.l hblk (by decide), by show _ = nj; rw [mapK_len]; exact hnj, hnn, hnl⟩⟩)
        clear hany ho hset hblk HS2
        go_wp2
        go_roundw
        case rel => exact ⟨k + 1, by omega, by go_num, HS3.out⟩
        case measure => simp [intOf]; omega
    · obtain rfl : k = nj := by omega
      have hst := HS.out
      rw [mapK_all _ (by omega)] at hst
      have HSB := Lib.hid hst
      have y2 : wr.cell? ⟨w.heap.size, 2, none⟩ = some (.slice an nn cn) := hst.box.cell 2
      clear hst HS
      go_wp2
      go_loopw [29] (fun i wr => ∃ q : Nat, q ≤ nn ∧ i = .int .i64 q ∧ StepAt w wr base w.heap.size #[.int .i64 rev, .slice aj k cj, .slice an nn cn, .slice al nl cl] ⟨rev, jobs.map (upJ leases), mapK upN nodes q, leases⟩ ⟨aj, k, cj, an, nn, cn, al, nl, cl⟩) (fun i _ => nn - (intOf i).toNat)
      case atStart => exact ⟨0, Nat.zero_le _, rfl, HSB.out⟩
      case round =>
        clear HSB y2 hbr hbl
        obtain ⟨q, hq, rfl, hst⟩ := hrel
        have HS := Lib.hid hst
        have hbr : base ≤ wr.heap.size := Nat.le_trans hbw hst.below.size
        have hbl := hst.box.lt
        clear hst
        by_cases hltq : q < nn
        · obtain ⟨y, hf⟩ : ∃ y, nodes[q]? = some y := ⟨_, List.getElem?_eq_getElem (by omega)⟩
          have hfk : (mapK upN nodes q)[q]? = some y := by rw [mapK_get]; exact hf
          obtain ⟨b, off, hao, hbb, hbs, hc⟩ := own_rec nodeV_len HS.out.own.n HS.out.own.ln hfk
          dsimp only at hao
          subst hao
          obtain ⟨ho, hz, hbs2, hbb2, ccs, hblk⟩ := own_setAt HS.out.own.n (q * 3 + 2) (by dsimp only; omega) (.string ⟨#[45]⟩)
          obtain ⟨name, room, zone⟩ := y
          have hset := rowsV_set nodeV_len (mapK upN nodes q) q 2 ⟨name, room, zone⟩ (upN ⟨name, room, zone⟩) (.string ⟨#[45]⟩) hfk (by omega) rfl
          rw [mapK_set hf] at hset
          dsimp only at ho hz hblk
          rw [hset, ← Nat.add_assoc] at ho
          rw [← Nat.add_assoc] at hz
          have c2 : wr.cell? ⟨b, off + q * 3 + 2, none⟩ = some (.string zone) := hc 2 _ rfl
          have s2 : wr.cell? ⟨w.heap.size, 2, none⟩ = some (.slice (some ⟨b, off, none⟩) nn cn) := HS.out.box.cell 2
          have HS3 := Lib.hid (show StepAt w (wr.setCell ⟨b, off + q * 3 + 2, none⟩ (.string ⟨#[45]⟩)) base w.heap.size #[.int .i64 rev, .slice aj k cj, .slice (some ⟨b, off, none⟩) nn cn, .slice al nl cl] ⟨rev, jobs.map (upJ leases), mapK upN nodes (q + 1), leases⟩ ⟨aj, k, cj, some ⟨b, off, none⟩, nn, cn, al, nl, cl⟩ from
            ⟨below_setB HS.out.below hbb2, blk_setOther HS.out.box hblk (by decide), blk_setOther HS.out.res hblk (by decide), ⟨own_setOther HS.out.own.j hblk (by decide), ho, own_setOther HS.out.own.l hblk (by decide), HS.out.own.lj, by show _ = nn; rw [mapK_len]; exact hnn, hnl⟩⟩)
          clear hf hfk hc ho hset hblk HS
          go_wp2
          go_roundw
          case rel => exact ⟨q + 1, by omega, by go_num, HS3.out⟩
          case measure => simp [intOf]; omega
        · obtain rfl : q = nn := by omega
          have hst := HS.out
          rw [mapK_all _ (by omega)] at hst
          clear HS
          have hB := hst.box
          have hR := hst.res
          have hrl := hR.lt
          have hbl := hB.lt
          have b0 : wr.cell? ⟨w.heap.size, 0, none⟩ = some (.int .i64 rev) := hB.cell 0
          have b1 : wr.cell? ⟨w.heap.size, 1, none⟩ = some (.slice aj k cj) := hB.cell 1
          have b2 : wr.cell? ⟨w.heap.size, 2, none⟩ = some (.slice an q cn) := hB.cell 2
          have b3 : wr.cell? ⟨w.heap.size, 3, none⟩ = some (.slice al nl cl) := hB.cell 3
          have u0 : wr.frozen? ⟨w.heap.size + 1, 0, none⟩ = false := hR.thaw 0
          have s0 : wr.cell? ⟨w.heap.size + 1, 0, none⟩ = some (.int .i64 0) := hR.cell 0
          have u1 : wr.frozen? ⟨w.heap.size + 1, 1, none⟩ = false := hR.thaw 1
          have s1 : wr.cell? ⟨w.heap.size + 1, 1, none⟩ = some (.slice none 0 0) := hR.cell 1
          have u2 : wr.frozen? ⟨w.heap.size + 1, 2, none⟩ = false := hR.thaw 2
          have s2 : wr.cell? ⟨w.heap.size + 1, 2, none⟩ = some (.slice none 0 0) := hR.cell 2
          have u3 : wr.frozen? ⟨w.heap.size + 1, 3, none⟩ = false := hR.thaw 3
          have s3 : wr.cell? ⟨w.heap.size + 1, 3, none⟩ = some (.slice none 0 0) := hR.cell 3
          have hR4 := (Blk.eq ((Blk.eq ((Blk.eq ((Blk.eq (hR.set 0 (.int .i64 rev)) (show _ = #[.int .i64 rev, .slice none 0 0, .slice none 0 0, .slice none 0 0] from rfl)).set 1 (.slice aj k cj)) (show _ = #[.int .i64 rev, .slice aj k cj, .slice none 0 0, .slice none 0 0] from rfl)).set 2 (.slice an q cn)) (show _ = #[.int .i64 rev, .slice aj k cj, .slice an q cn, .slice none 0 0] from rfl)).set 3 (.slice al nl cl)) (show _ = #[.int .i64 rev, .slice aj k cj, .slice an q cn, .slice al nl cl] from rfl))
          have q0 := (show _ = (some (.int .i64 rev) : Option Value) from hR4.cell 0)
          have q1 := (show _ = (some (.slice aj k cj) : Option Value) from hR4.cell 1)
          have q2 := (show _ = (some (.slice an q cn) : Option Value) from hR4.cell 2)
          have q3 := (show _ = (some (.slice al nl cl) : Option Value) from hR4.cell 3)
          have hOw := hst.own
          have Hend := Lib.hid (show StepPost ⟨rev, jobs, nodes, leases⟩ ⟨rev, jobs.map (upJ leases), nodes.map upN, leases⟩ ⟨aj, k, cj, an, q, cn, al, nl, cl⟩ base w (.returned (.agg #[.int .i64 rev, .slice aj k cj, .slice an q cn, .slice al nl cl])) _ from ⟨rfl, ⟨(own_setOther (own_setOther (own_setOther (own_setOther hOw.j hR (by decide) (i := 0) (u := .int .i64 rev)) (Blk.eq (hR.set 0 (.int .i64 rev)) (show _ = #[.int .i64 rev, .slice none 0 0, .slice none 0 0, .slice none 0 0] from rfl)) (by decide) (i := 1) (u := .slice aj k cj)) (Blk.eq ((Blk.eq (hR.set 0 (.int .i64 rev)) (show _ = #[.int .i64 rev, .slice none 0 0, .slice none 0 0, .slice none 0 0] from rfl)).set 1 (.slice aj k cj)) (show _ = #[.int .i64 rev, .slice aj k cj, .slice none 0 0, .slice none 0 0] from rfl)) (by decide) (i := 2) (u := .slice an q cn)) (Blk.eq ((Blk.eq ((Blk.eq (hR.set 0 (.int .i64 rev)) (show _ = #[.int .i64 rev, .slice none 0 0, .slice none 0 0, .slice none 0 0] from rfl)).set 1 (.slice aj k cj)) (show _ = #[.int .i64 rev, .slice aj k cj, .slice none 0 0, .slice none 0 0] from rfl)).set 2 (.slice an q cn)) (show _ = #[.int .i64 rev, .slice aj k cj, .slice an q cn, .slice none 0 0] from rfl)) (by decide) (i := 3) (u := .slice al nl cl)), (own_setOther (own_setOther (own_setOther (own_setOther hOw.n hR (by decide) (i := 0) (u := .int .i64 rev)) (Blk.eq (hR.set 0 (.int .i64 rev)) (show _ = #[.int .i64 rev, .slice none 0 0, .slice none 0 0, .slice none 0 0] from rfl)) (by decide) (i := 1) (u := .slice aj k cj)) (Blk.eq ((Blk.eq (hR.set 0 (.int .i64 rev)) (show _ = #[.int .i64 rev, .slice none 0 0, .slice none 0 0, .slice none 0 0] from rfl)).set 1 (.slice aj k cj)) (show _ = #[.int .i64 rev, .slice aj k cj, .slice none 0 0, .slice none 0 0] from rfl)) (by decide) (i := 2) (u := .slice an q cn)) (Blk.eq ((Blk.eq ((Blk.eq (hR.set 0 (.int .i64 rev)) (show _ = #[.int .i64 rev, .slice none 0 0, .slice none 0 0, .slice none 0 0] from rfl)).set 1 (.slice aj k cj)) (show _ = #[.int .i64 rev, .slice aj k cj, .slice none 0 0, .slice none 0 0] from rfl)).set 2 (.slice an q cn)) (show _ = #[.int .i64 rev, .slice aj k cj, .slice an q cn, .slice none 0 0] from rfl)) (by decide) (i := 3) (u := .slice al nl cl)), (own_setOther (own_setOther (own_setOther (own_setOther hOw.l hR (by decide) (i := 0) (u := .int .i64 rev)) (Blk.eq (hR.set 0 (.int .i64 rev)) (show _ = #[.int .i64 rev, .slice none 0 0, .slice none 0 0, .slice none 0 0] from rfl)) (by decide) (i := 1) (u := .slice aj k cj)) (Blk.eq ((Blk.eq (hR.set 0 (.int .i64 rev)) (show _ = #[.int .i64 rev, .slice none 0 0, .slice none 0 0, .slice none 0 0] from rfl)).set 1 (.slice aj k cj)) (show _ = #[.int .i64 rev, .slice aj k cj, .slice none 0 0, .slice none 0 0] from rfl)) (by decide) (i := 2) (u := .slice an q cn)) (Blk.eq ((Blk.eq ((Blk.eq (hR.set 0 (.int .i64 rev)) (show _ = #[.int .i64 rev, .slice none 0 0, .slice none 0 0, .slice none 0 0] from rfl)).set 1 (.slice aj k cj)) (show _ = #[.int .i64 rev, .slice aj k cj, .slice none 0 0, .slice none 0 0] from rfl)).set 2 (.slice an q cn)) (show _ = #[.int .i64 rev, .slice aj k cj, .slice an q cn, .slice none 0 0] from rfl)) (by decide) (i := 3) (u := .slice al nl cl)), hOw.lj, hOw.ln, hOw.ll⟩, (below_setB (below_setB (below_setB (below_setB hst.below (by omega) (b := w.heap.size + 1) (i := 0) (u := .int .i64 rev)) (by omega) (b := w.heap.size + 1) (i := 1) (u := .slice aj k cj)) (by omega) (b := w.heap.size + 1) (i := 2) (u := .slice an q cn)) (by omega) (b := w.heap.size + 1) (i := 3) (u := .slice al nl cl))⟩)
          clear hB hR hR4 hOw
          go_wp2
          refine bodyPost_ret (v := .agg #[.int .i64 rev, .slice aj k cj, .slice an q cn, .slice al nl cl]) (by simp [results, Tryd.results115, go_sem, *]) rfl ?_
          exact Hend.out
end Go.Proofs.YtonipllegfgdiaaDoor
