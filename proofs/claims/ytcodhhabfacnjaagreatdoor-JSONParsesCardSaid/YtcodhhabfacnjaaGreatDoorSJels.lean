/- Of the proof of a statement: Jels. -/
import Derived.Test.YtcodhhabfacnjaaGreatDoorSJobr
set_option linter.unusedVariables false
set_option linter.unusedSimpArgs false
/- The walk of the program's reader of JSON: elements, at its three types. -/
namespace Go.Proofs.YtcodhhabfacnjaaGreatDoor
open Go.RowKit
open Go.Lib (hasPrefix trimPrefix)
def jrN (σ : JS) : Nat := if σ.2 = true then 0 else σ.1.length + 1
theorem jrM_is {w : World} {g : Nat} {σ : JS} (h : JrAt w g σ) : jrM g w = jrN σ := jrM_at (l := σ.1) (b := σ.2) h
theorem two_grown {w0 w w' : World} {g X : Nat} (h : w0.grownBy w (some g)) (ht : Two w w' g X) (hX : w0.heap.size ≤ X) : w0.grownBy w' (some g) :=
  ⟨ht.os.trans h.os, ht.tape.trans h.tape, ht.output.trans h.output, Nat.le_trans h.size ht.size, fun k hk hne => (ht.block k (Nat.lt_of_lt_of_le hk h.size) (fun e => hne (by rw [e])) (by omega)).trans (h.block k hk hne)⟩
/-- A row of the call's own stands, where two other blocks turn. -/
theorem own_two {w w' : World} {base g X n sz : Nat} {e : TypeId} {v : Value} {xs : List Value} (ho : w.ownsRow base e sz v n xs) (ht : Two w w' g X) (hg : g < base) (hv : ∀ k, v.ownBlock = some k → k ≠ X) : w'.ownsRow base e sz v n xs := by
  rcases ho with ⟨h1, h | ⟨q, cap, cur, hq0, hq, hgq, r⟩⟩
  · exact ⟨h1, .inl h⟩
  · have hlt : q < w.heap.size := (Array.getElem?_eq_some_iff.1 hgq).1
    have hne : q ≠ X := hv q (by rw [hq0]; rfl)
    exact ⟨h1, .inr ⟨q, cap, cur, hq0, hq, (ht.block q hlt (by omega) hne).trans hgq, r⟩⟩
theorem obj_len5 (fs : Flds) (σ : JS) : jrN (objJ fs σ).2 ≤ σ.1.length := by
  unfold jrN
  by_cases h : (objJ fs σ).2.2 = true
  · rw [if_pos h]; omega
  · rw [if_neg h]
    have := obj_less (fs := fs) (σ := σ) (by simpa using h)
    omega
theorem JrOk.grewT {w w' : World} {g base : Nat} {σ : JS} {v v' : Value} (h : JrOk w g σ) (hg : Grew w w' v v') (hv : ∀ k, v.ownBlock = some k → base ≤ k) (hgb : g < base) (h1 : 0 < base) (h2 : 1 < base) : JrOk w' g σ := by
  obtain ⟨⟨t, p, a⟩, ⟨t', p', b⟩, c, d⟩ := h.err
  have hb : ∀ k, k < w.heap.size → k < base → w'.heap[k]? = w.heap[k]? := fun k hk hkb => hg.grown.block k hk (fun e => by have := hv k e.symm; omega)
  exact ⟨Blk.grewT h.at_ hg hv hgb, ⟨⟨t, p, (World.cell?_of_block (hb _ (block_lt_of_cell a) h1)).trans a⟩, ⟨t', p', (World.cell?_of_block (hb _ (block_lt_of_cell b) h2)).trans b⟩, c, d⟩, h.len⟩
def ElInv {α : Type} (of_ : Flds → α) (enc : α → List Value) (zs : Flds) (T : TypeId) (sz : Nat) (W0 : World) (g : Nat) (R : List Flds × JS) (v : Value) (wr : World) : Prop :=
  ∃ (A : Option Addr) (m c : Nat) (out : List Flds) (τ : JS) (N : Nat), v = .slice A m c ∧ out.length = m ∧ wr.ownsRow W0.heap.size T sz (.slice A m c) m (rowsV enc (out.map of_)) ∧ JrOk wr g τ ∧ W0.grownBy wr (some g) ∧ elRun zs N (out, τ) = R ∧ (τ.2 = false → τ.1.length < N) ∧ m + jrN τ ≤ 60001
def ElPost {α : Type} (of_ : Flds → α) (enc : α → List Value) (T : TypeId) (sz : Nat) (g : Nat) (R : List Flds × JS) (w : World) (e : Ending) (w' : World) : Prop :=
  ∃ A n c, e = .returned (.slice A n c) ∧ R.1.length = n ∧ n ≤ 60001 ∧ w'.ownsRow w.heap.size T sz (.slice A n c) n (rowsV enc (R.1.map of_)) ∧ JrOk w' g R.2 ∧ w.grownBy w' (some g)
/-- One round more: what an object gives. -/
theorem el_step {zs : Flds} {n : Nat} {out : List Flds} {τ : JS} {R : List Flds × JS} (h : elRun zs (n + 1) (out, τ) = R) (hb : τ.2 = false) (hp : hasPrefix τ.1 [93] = false) (τ1 : JS) (h1 : (if out = [] then τ else mustJ [44] τ) = τ1) : elRun zs n (out ++ [(objJ zs τ1).1], (objJ zs τ1).2) = R := by
  rw [elRun] at h
  simp only at h
  rw [hb, if_neg (by simp), hp, if_neg (by simp), h1] at h
  exact h
theorem el_end {zs : Flds} {n : Nat} {out : List Flds} {τ : JS} {R : List Flds × JS} (h : elRun zs (n + 1) (out, τ) = R) (hb : τ.2 = false) (hp : hasPrefix τ.1 [93] = true) : R = (out, τ.1.drop 1, false) := by
  rw [elRun] at h
  simp only at h
  rw [hb, if_neg (by simp), hp, if_pos rfl] at h
  exact h.symm
theorem fv_kind (v : FV) (σ : JS) : kindOf (fvJ v σ).1 = kindOf v := by cases v <;> rfl
theorem flds_kind : ∀ (fs : Flds) (a : Flds × JS), ∃ l : Flds, (fs.foldl fldJ a).1 = a.1 ++ l ∧ l.map (fun f => kindOf f.2) = fs.map (fun f => kindOf f.2)
  | [], a => ⟨[], by simp, rfl⟩
  | f :: fs, a => by
    obtain ⟨l, h1, h2⟩ := flds_kind fs (fldJ a f)
    refine ⟨(f.1, (fvJ f.2 (mustJ (quoteL f.1.data.toList ++ [58]) (if a.1 = [] then a.2 else mustJ [44] a.2))).1) :: l, ?_, ?_⟩
    · rw [List.foldl_cons, h1]
      show (a.1 ++ [_]) ++ l = _
      rw [List.append_assoc]; rfl
    · rw [List.map_cons, List.map_cons, h2]
      dsimp only
      rw [fv_kind]
theorem obj_kind (fs : Flds) (σ : JS) : (objJ fs σ).1.map (fun f => kindOf f.2) = fs.map (fun f => kindOf f.2) := by
  obtain ⟨l, h1, h2⟩ := flds_kind fs ([], mustJ [123] σ)
  show ((fs.foldl fldJ ([], mustJ [123] σ)).1).map _ = _
  rw [h1]
  simpa using h2
theorem kind_cons {l : Flds} {b : Bool} {bs : List Bool} (h : l.map (fun f => kindOf f.2) = b :: bs) : ∃ f l', l = f :: l' ∧ kindOf f.2 = b ∧ l'.map (fun f => kindOf f.2) = bs := by
  cases l with
  | nil => cases h
  | cons f l' =>
    rw [List.map_cons] at h
    injection h with h1 h2
    exact ⟨f, l', rfl, h1, h2⟩
theorem kind_nil {l : Flds} (h : l.map (fun f => kindOf f.2) = []) : l = [] := List.map_eq_nil_iff.1 h
theorem kind_txt {f : ByteArray × FV} (h : kindOf f.2 = false) : ∃ n s, f = (n, .txt s) := by
  obtain ⟨n, v⟩ := f
  cases v with
  | num x => cases h
  | txt s => exact ⟨n, s, rfl⟩
theorem kind_num {f : ByteArray × FV} (h : kindOf f.2 = true) : ∃ n s, f = (n, .num s) := by
  obtain ⟨n, v⟩ := f
  cases v with
  | txt x => cases h
  | num s => exact ⟨n, s, rfl⟩
theorem job_vals (σ : JS) : fsV (objJ jobZ σ).1 = (jobV (jobOfF (objJ jobZ σ).1)).toArray := by
  have h0 := obj_kind jobZ σ
  rw [show jobZ.map (fun f => kindOf f.2) = [false, true, true, true, false] from rfl] at h0
  obtain ⟨f, hf⟩ : ∃ f, (objJ jobZ σ).1 = f := ⟨_, rfl⟩
  rw [hf] at h0 ⊢
  obtain ⟨g0, l0, rfl, k0, h1⟩ := kind_cons h0
  obtain ⟨n0, v0, rfl⟩ := kind_txt k0
  obtain ⟨g1, l1, rfl, k1, h2⟩ := kind_cons h1
  obtain ⟨n1, v1, rfl⟩ := kind_num k1
  obtain ⟨g2, l2, rfl, k2, h3⟩ := kind_cons h2
  obtain ⟨n2, v2, rfl⟩ := kind_num k2
  obtain ⟨g3, l3, rfl, k3, h4⟩ := kind_cons h3
  obtain ⟨n3, v3, rfl⟩ := kind_num k3
  obtain ⟨g4, l4, rfl, k4, h5⟩ := kind_cons h4
  obtain ⟨n4, v4, rfl⟩ := kind_txt k4
  obtain rfl := kind_nil h5
  rfl
theorem job_zero : fsV jobZ = (#[.string ⟨#[]⟩, .int .i64 0, .int .i64 0, .int .i64 0, .string ⟨#[]⟩] : Array Value) := rfl
theorem job_pt {w : World} {gf X : Nat} (h : Blk w gf 72 (jobFieldsC X 0)) : FldPt w gf X jobZ := by
  refine ⟨fun k nm v hk => ?_⟩
  match k with
  | 0 => injection hk with hk; injection hk with h1 h2; subst h1; subst h2; exact ⟨h.cell 0, h.cell 1, h.cell 2⟩
  | 1 => injection hk with hk; injection hk with h1 h2; subst h1; subst h2; exact ⟨h.cell 3, h.cell 4, h.cell 5⟩
  | 2 => injection hk with hk; injection hk with h1 h2; subst h1; subst h2; exact ⟨h.cell 6, h.cell 7, h.cell 8⟩
  | 3 => injection hk with hk; injection hk with h1 h2; subst h1; subst h2; exact ⟨h.cell 9, h.cell 10, h.cell 11⟩
  | 4 => injection hk with hk; injection hk with h1 h2; subst h1; subst h2; exact ⟨h.cell 12, h.cell 13, h.cell 14⟩
  | j + 5 => cases hk
theorem job_znames : ∀ f ∈ jobZ, f.1.size ≤ 100 := by decide
set_option maxRecDepth 100000 in
set_option maxHeartbeats 8000000 in
theorem els_job (g : Nat) (σ : JS) (name : ByteArray) (w : World) (h : JrOk w g σ) (hname : name.size ≤ 100) :
    Calls Tryz.prog 9 #[.pointer (some ⟨g, 0, none⟩), .string name, .func (.func 10) #[] #[]] w (ElPost jobOfF jobV 39 5 g (elsJ name jobZ σ) w) := by
  have hq1 : (⟨(quoteL name.data.toList).toArray⟩ : ByteArray).size ≤ 602 := by show (quoteL name.data.toList).toArray.size ≤ 602; rw [List.size_toArray]; exact quoteL_len name hname
  have HQ := Lib.hid (Quote_any name w (by omega))
  obtain ⟨qs, hqs⟩ : ∃ qs, (⟨(quoteL name.data.toList).toArray⟩ : ByteArray) = qs := ⟨_, rfl⟩
  have Hqs := Lib.hid (show ((⟨#[44]⟩ ++ qs) ++ ⟨#[58, 91]⟩ : ByteArray).data.toList = [44] ++ quoteL name.data.toList ++ [58, 91] from by rw [← hqs, ByteArray.toList_data_append, ByteArray.toList_data_append])
  rw [hqs] at hq1 HQ
  have hz1 : (⟨#[44]⟩ ++ qs : ByteArray).size = 1 + qs.size := ByteArray.size_append ..
  have hadd1 : ¬ 9223372036854775807 < 1 + qs.size := by omega
  have hadd2 : ¬ 9223372036854775807 < 1 + qs.size + 2 := by omega
  have hadd3 : ¬ 9223372036854775807 < (⟨#[44]⟩ ++ qs : ByteArray).size + 2 := by omega
  obtain ⟨σ1, hσ1⟩ : ∃ σ1, mustJ ([44] ++ quoteL name.data.toList ++ [58, 91]) σ = σ1 := ⟨_, rfl⟩
  obtain ⟨R, hR⟩ : ∃ R, elsJ name jobZ σ = R := ⟨_, rfl⟩
  have HR := Lib.hid (show elRun jobZ (σ1.1.length + 1) ([], σ1) = R from by rw [← hR]; unfold elsJ; rw [hσ1])
  have HS1 := Lib.hid (show σ1.1.length ≤ 60000 from by rw [← hσ1]; exact Nat.le_trans (must_len _ _) h.len)
  rw [hR]
  have hgl := h.at_.lt
  have H0 := Lib.hid h
  have Hσ1 := Lib.hid hσ1
  have heg := enters_of Tryz.func10 (by kernel_rfl) rfl
  have hE1 := h.err.sne
  have hEs : 0 < w.heap.size := by obtain ⟨t, p, a⟩ := h.err.s; exact block_lt_of_cell a
  have hEr : 1 < w.heap.size := by obtain ⟨t, p, a⟩ := h.err.r; exact block_lt_of_cell a
  obtain ⟨W0, hW0⟩ : ∃ W0, W0 = w := ⟨_, rfl⟩
  have HW0 := Lib.hid hW0
  clear h hqs hσ1 hR hW0 hE1
  go_enter Tryz.func9, Tryz.ntmps9
  go_wp2_with fail
  refine Calls.mono HQ.out ?_
  rintro e w1 ⟨rfl, hb1⟩
  have HM := Lib.hid (jmust_any g σ ((⟨#[44]⟩ ++ qs) ++ ⟨#[58, 91]⟩) w1 (H0.out.up hb1))
  rw [Hqs.out, Hσ1.out] at HM
  have Hb1 := Lib.hid hb1
  clear hb1
  go_wp2_with fail
  refine Calls.mono HM.out ?_
  rintro e w2 ⟨rfl, hJ2, hg2⟩
  have HJ2 := Lib.hid hJ2
  have Hg2 := Lib.hid (grow_trans (grow_below g Hb1.out) hg2)
  clear hJ2 hg2
  go_wp2_with fail
  go_loopw [7] (fun v wr => ElInv jobOfF jobV jobZ 39 5 W0 g R v wr) (fun _ wr => jrM g wr)
  case atStart => exact ⟨none, 0, 0, [], σ1, _, rfl, rfl, World.ownsRow_nil _ _ _ _, HJ2.out, by rw [HW0.out]; exact Hg2.out, HR.out, fun _ => Nat.lt_succ_self _, by have := HS1.out; unfold jrN; split <;> omega⟩
  case round =>
    clear HJ2 Hg2 HM HQ Hqs hadd1 hadd2 hadd3 hz1 hq1
    obtain ⟨A, m, cp, out, ⟨l, b⟩, N, rfl, hm, ho, hJ, hg, hn, hln, hmb⟩ := hrel
    have hgl0 : g < W0.heap.size := by rw [HW0.out]; exact hgl
    have Hm0 := Lib.hid (jrM_is hJ.at_)
    obtain ⟨M0, hM0⟩ : ∃ M0, jrM g wr = M0 := ⟨_, rfl⟩
    rw [hM0] at Hm0 ⊢
    have Ho := Lib.hid ho
    have HJ := Lib.hid hJ
    have Hg := Lib.hid hg
    have x1 : wr.cell? ⟨g, 1, none⟩ = some (.bool b) := Blk.cell hJ.at_ 1
    have hglr := Blk.lt hJ.at_
    have Hmb := Lib.hid hmb
    have Hm := Lib.hid hm
    clear ho hJ hg hM0 hmb hm
    cases b with
    | true =>
      have HE := Lib.hid (show R = (out, l, true) from by rw [← hn, el_bad jobZ N rfl])
      have Hn0 := Lib.hid (show m ≤ 60001 from by have := Hmb.out; omega)
      clear hn
      go_wp2
      go_ret
      rw [HE.out]
      exact ⟨A, m, cp, rfl, Hm.out, Hn0.out, by rw [← HW0.out]; exact Ho.out, HJ.out, by rw [← HW0.out]; exact Hg.out⟩
    | false =>
      replace hln := hln rfl
      obtain ⟨n', rfl⟩ : ∃ n', N = n' + 1 := ⟨N - 1, by omega⟩
      have HI := Lib.hid (jis_any g (l, false) ⟨#[93]⟩ wr HJ.out)
      rw [show hasPrefix (l, false).1 (⟨#[93]⟩ : ByteArray).data.toList = hasPrefix l [93] from rfl, show trimPrefix (l, false).1 (⟨#[93]⟩ : ByteArray).data.toList = trimPrefix l [93] from rfl] at HI
      have Hmn := Lib.hid (show m + (l.length + 1) ≤ 60001 from Hmb.out)
      cases h93 : hasPrefix l [93] with
      | true =>
        have HE := Lib.hid (el_end hn rfl h93)
        have Hn0 := Lib.hid (show m ≤ 60001 from by have := Hmn.out; omega)
        rw [h93, show trimPrefix l [93] = l.drop 1 from trim_yes h93] at HI
        clear hn h93
        go_wp2_with fail
        refine Calls.mono HI.out ?_
        rintro e w3 ⟨rfl, hJ3, hg3⟩
        have HF := Lib.hid (show ElPost jobOfF jobV 39 5 g R w (.returned (.slice A m cp)) w3 from by
          rw [HE.out]
          exact ⟨A, m, cp, rfl, Hm.out, Hn0.out, by rw [← HW0.out]; exact ownT_grow Ho.out hg3 hgl0, hJ3, by rw [← HW0.out]; exact grow_trans Hg.out hg3⟩)
        clear hJ3 hg3
        go_wp2
        go_ret
        exact HF.out
      | false =>
        rw [h93, trim_no h93] at HI
        obtain ⟨τ1, hτ1⟩ : ∃ τ1 : JS, (if out = [] then ((l, false) : JS) else mustJ [44] (l, false)) = τ1 := ⟨_, rfl⟩
        have HN := Lib.hid (el_step hn rfl h93 τ1 hτ1)
        have Hτl := Lib.hid (show τ1.1.length ≤ l.length from by rw [← hτ1]; split; exact Nat.le_refl _; exact must_len _ _)
        clear hn h93
        go_wp2_with fail
        refine Calls.mono HI.out ?_
        rintro e w3 ⟨rfl, hJ3, hg3⟩
        have Ho3 := Lib.hid (ownT_grow Ho.out hg3 hgl0)
        have HJ3 := Lib.hid hJ3
        have Hg3 := Lib.hid (grow_trans Hg.out hg3)
        clear hJ3 hg3 HI Ho HJ Hg x1
        by_cases hm0 : m = 0
        · have dm : decide ((0 : Int) < (m : Int)) = false := decide_eq_false (by omega)
          have h0m : ¬ 0 < m := by omega
          have hτ : τ1 = (l, false) := by rw [← hτ1, if_pos (List.length_eq_zero_iff.1 (Hm.out.trans hm0))]
          obtain ⟨w4, hw4⟩ : ∃ w4, w3 = w4 := ⟨_, rfl⟩
          have HJ4 := Lib.hid (show JrOk w4 g τ1 from by rw [hτ, ← hw4]; exact HJ3.out)
          have Ho4 := Lib.hid (show w4.ownsRow W0.heap.size 39 5 (.slice A m cp) m (rowsV jobV (out.map jobOfF)) from by rw [← hw4]; exact Ho3.out)
          have Hg4 := Lib.hid (show W0.grownBy w4 (some g) from by rw [← hw4]; exact Hg3.out)
          have Hm0' := Lib.hid hm0
          clear hm0 hτ hτ1 HJ3 Ho3 Hg3
          subst hw4
          have Hbx := Lib.hid ((Below.refl w3.heap.size w3).alloc (Nat.le_refl _) (.cells #[.string ⟨#[]⟩, .int .i64 0, .int .i64 0, .int .i64 0, .string ⟨#[]⟩] 39))
          have HX := Lib.hid (show Blk (w3.alloc (.cells #[.string ⟨#[]⟩, .int .i64 0, .int .i64 0, .int .i64 0, .string ⟨#[]⟩] 39)) w3.heap.size 39 (fsV jobZ) from by rw [job_zero]; exact heap_alloc_new w3 _)
          have hX0 : W0.heap.size ≤ w3.heap.size := Hg4.out.size
          have hs0 : W0.heap.size = w.heap.size := by rw [HW0.out]
          have Hs0 := Lib.hid hs0
          have HFd := Lib.hid (jobFields_any w3.heap.size 0 (w3.alloc (.cells #[.string ⟨#[]⟩, .int .i64 0, .int .i64 0, .int .i64 0, .string ⟨#[]⟩] 39)))
          clear hs0
          go_wp2_with fail
          refine Calls.mono HFd.out ?_
          rintro e w5 ⟨gf, rfl, hgf, hG, hb5⟩
          have hgf' : w3.heap.size < gf := by (have : (w3.alloc (.cells #[.string ⟨#[]⟩, .int .i64 0, .int .i64 0, .int .i64 0, .string ⟨#[]⟩] 39)).heap.size = w3.heap.size + 1 := by simp); omega
          have HJ5 := Lib.hid ((HJ4.out.up Hbx.out).up hb5)
          have HX5 := Lib.hid (HX.out.below hb5 HX.out.lt)
          have hg5 := grow_trans (grow_trans Hg4.out (grow_below g Hbx.out)) (grow_below g hb5)
          have Ho5 := Lib.hid (ownT_grow (ownT_grow Ho4.out (grow_below g Hbx.out) hgl0) (grow_below g hb5) hgl0)
          have Hg5 := Lib.hid hg5
          have HOb := Lib.hid (jobject_any g τ1 gf w3.heap.size 5 39 jobZ w5 HJ5.out HX5.out (job_pt hG) rfl (by decide) job_znames (by omega) (by omega) (by omega) (by have := Hs0.out; omega) (by have := Hs0.out; omega))
          have Hvk := Lib.hid (fun k (hk : (Value.slice A m cp).ownBlock = some k) => (Ho4.out.lt k hk).2)
          clear hG hb5 hg5 HFd
          go_wp2_with fail
          refine Calls.mono HOb.out ?_
          rintro e w6 ⟨rfl, hJ6, hX6, hT6⟩
          have Ho6 := Lib.hid (own_two Ho5.out hT6 hgl0 (fun k hk => by have := Hvk.out k hk; omega))
          have HJ6 := Lib.hid hJ6
          have Hg6 := Lib.hid (two_grown Hg5.out hT6 hX0)
          obtain ⟨fl, hfl⟩ : ∃ fl, (objJ jobZ τ1).1 = fl := ⟨_, rfl⟩
          have hvals := job_vals τ1
          rw [hfl] at hvals hX6
          rw [hvals] at hX6
          obtain ⟨itm, hitm⟩ : ∃ itm, jobOfF fl = itm := ⟨_, rfl⟩
          rw [hitm] at hX6
          have Hitm := Lib.hid hitm
          have Hfl := Lib.hid hfl
          obtain ⟨f0, f1, f2, f3, f4⟩ := itm
          have HX6 := Lib.hid hX6
          have q0 := (show w6.cell? ⟨w3.heap.size, 0, none⟩ = some (.string f0) from hX6.cell 0)
          have q1 := (show w6.cell? ⟨w3.heap.size, 1, none⟩ = some (.int .i64 f1) from hX6.cell 1)
          have q2 := (show w6.cell? ⟨w3.heap.size, 2, none⟩ = some (.int .i64 f2) from hX6.cell 2)
          have q3 := (show w6.cell? ⟨w3.heap.size, 3, none⟩ = some (.int .i64 f3) from hX6.cell 3)
          have q4 := (show w6.cell? ⟨w3.heap.size, 4, none⟩ = some (.string f4) from hX6.cell 4)
          have hXl := hX6.lt
          have hbr : W0.heap.size ≤ w6.heap.size := Hg6.out.size
          have hmm : m ≤ 60000 := by have := Hmn.out; omega
          clear hvals hX6 hT6 hJ6 HOb hfl hitm
          go_wp2_with (at_builtin; refine push_rec jobV rfl _ _ 22 39 (.agg #[.string ⟨#[]⟩, .int .i64 0, .int .i64 0, .int .i64 0, .string ⟨#[]⟩]) 5 56 rfl Tryz.underlying22 infoJobT rfl (by decide) jobV_len jobV_oneT W0.heap.size _ _ _ (out.map jobOfF) rfl Ho6.out _ ⟨f0, f1, f2, f3, f4⟩ rfl _ (by simp) rfl (by omega) (by unfold maxLen; omega) hbr ?_; intro A2 c2 w7 ho7 hg7)
          have hv7 : ∀ k, (Value.slice A m cp).ownBlock = some k → W0.heap.size ≤ k := fun k hk => (Ho6.out.lt k hk).1
          have HJ7 := Lib.hid (show JrOk w7 g (objJ jobZ τ1).2 from HJ6.out.grewT hg7 hv7 hgl0 (by have := Hs0.out; omega) (by have := Hs0.out; omega))
          have Hg7 := Lib.hid (bes_grew Hg6.out hg7 hv7)
          have HQ7 := Lib.hid (jrM_is HJ7.out.at_)
          have Ho7 := Lib.hid ho7
          have Hob := Lib.hid (obj_len5 jobZ τ1)
          clear ho7 hg7 q0 q1 q2 q3 q4
          go_wp2_with fail
          go_roundw
          case rel => exact ⟨A2, m + 1, c2, out ++ [(objJ jobZ τ1).1], (objJ jobZ τ1).2, n', rfl, by rw [List.length_append, Hm.out]; rfl, by rw [List.map_append, List.map_singleton, Hfl.out, Hitm.out]; exact Ho7.out, HJ7.out, Hg7.out, HN.out, fun hb => by
            have h1 := Hob.out
            have h2 := Hτl.out
            unfold jrN at h1
            rw [if_neg (by rw [hb]; simp)] at h1
            omega, by have h1 := Hob.out; have h2 := Hτl.out; have h3 := Hmn.out; omega⟩
          case measure => rw [HQ7.out, Hm0.out]; have h1 := Hob.out; have h2 := Hτl.out; show jrN _ < l.length + 1; omega
        · have dm : decide ((0 : Int) < (m : Int)) = true := decide_eq_true (by omega)
          have h0m : 0 < m := by omega
          have HM := Lib.hid (jmust_any g (l, false) ⟨#[44]⟩ w3 HJ3.out)
          rw [show mustJ (⟨#[44]⟩ : ByteArray).data.toList (l, false) = τ1 from by rw [← hτ1, if_neg (fun e => hm0 (by rw [← Hm.out, e]; rfl))]] at HM
          clear hm0 hτ1
          go_wp2_with fail
          refine Calls.mono HM.out ?_
          rintro e w4 ⟨rfl, hJ4, hg4⟩
          have HJ4 := Lib.hid hJ4
          have Ho4 := Lib.hid (ownT_grow Ho3.out hg4 hgl0)
          have Hg4 := Lib.hid (grow_trans Hg3.out hg4)
          clear hJ4 hg4 HM HJ3 Ho3 Hg3
          have Hbx := Lib.hid ((Below.refl w4.heap.size w4).alloc (Nat.le_refl _) (.cells #[.string ⟨#[]⟩, .int .i64 0, .int .i64 0, .int .i64 0, .string ⟨#[]⟩] 39))
          have HX := Lib.hid (show Blk (w4.alloc (.cells #[.string ⟨#[]⟩, .int .i64 0, .int .i64 0, .int .i64 0, .string ⟨#[]⟩] 39)) w4.heap.size 39 (fsV jobZ) from by rw [job_zero]; exact heap_alloc_new w4 _)
          have hX0 : W0.heap.size ≤ w4.heap.size := Hg4.out.size
          have hs0 : W0.heap.size = w.heap.size := by rw [HW0.out]
          have Hs0 := Lib.hid hs0
          have HFd := Lib.hid (jobFields_any w4.heap.size 0 (w4.alloc (.cells #[.string ⟨#[]⟩, .int .i64 0, .int .i64 0, .int .i64 0, .string ⟨#[]⟩] 39)))
          clear hs0
          go_wp2_with fail
          refine Calls.mono HFd.out ?_
          rintro e w5 ⟨gf, rfl, hgf, hG, hb5⟩
          have hgf' : w4.heap.size < gf := by (have : (w4.alloc (.cells #[.string ⟨#[]⟩, .int .i64 0, .int .i64 0, .int .i64 0, .string ⟨#[]⟩] 39)).heap.size = w4.heap.size + 1 := by simp); omega
          have HJ5 := Lib.hid ((HJ4.out.up Hbx.out).up hb5)
          have HX5 := Lib.hid (HX.out.below hb5 HX.out.lt)
          have hg5 := grow_trans (grow_trans Hg4.out (grow_below g Hbx.out)) (grow_below g hb5)
          have Ho5 := Lib.hid (ownT_grow (ownT_grow Ho4.out (grow_below g Hbx.out) hgl0) (grow_below g hb5) hgl0)
          have Hg5 := Lib.hid hg5
          have HOb := Lib.hid (jobject_any g τ1 gf w4.heap.size 5 39 jobZ w5 HJ5.out HX5.out (job_pt hG) rfl (by decide) job_znames (by omega) (by omega) (by omega) (by have := Hs0.out; omega) (by have := Hs0.out; omega))
          have Hvk := Lib.hid (fun k (hk : (Value.slice A m cp).ownBlock = some k) => (Ho4.out.lt k hk).2)
          clear hG hb5 hg5 HFd
          go_wp2_with fail
          refine Calls.mono HOb.out ?_
          rintro e w6 ⟨rfl, hJ6, hX6, hT6⟩
          have Ho6 := Lib.hid (own_two Ho5.out hT6 hgl0 (fun k hk => by have := Hvk.out k hk; omega))
          have HJ6 := Lib.hid hJ6
          have Hg6 := Lib.hid (two_grown Hg5.out hT6 hX0)
          obtain ⟨fl, hfl⟩ : ∃ fl, (objJ jobZ τ1).1 = fl := ⟨_, rfl⟩
          have hvals := job_vals τ1
          rw [hfl] at hvals hX6
          rw [hvals] at hX6
          obtain ⟨itm, hitm⟩ : ∃ itm, jobOfF fl = itm := ⟨_, rfl⟩
          rw [hitm] at hX6
          have Hitm := Lib.hid hitm
          have Hfl := Lib.hid hfl
          obtain ⟨f0, f1, f2, f3, f4⟩ := itm
          have HX6 := Lib.hid hX6
          have q0 := (show w6.cell? ⟨w4.heap.size, 0, none⟩ = some (.string f0) from hX6.cell 0)
          have q1 := (show w6.cell? ⟨w4.heap.size, 1, none⟩ = some (.int .i64 f1) from hX6.cell 1)
          have q2 := (show w6.cell? ⟨w4.heap.size, 2, none⟩ = some (.int .i64 f2) from hX6.cell 2)
          have q3 := (show w6.cell? ⟨w4.heap.size, 3, none⟩ = some (.int .i64 f3) from hX6.cell 3)
          have q4 := (show w6.cell? ⟨w4.heap.size, 4, none⟩ = some (.string f4) from hX6.cell 4)
          have hXl := hX6.lt
          have hbr : W0.heap.size ≤ w6.heap.size := Hg6.out.size
          have hmm : m ≤ 60000 := by have := Hmn.out; omega
          clear hvals hX6 hT6 hJ6 HOb hfl hitm
          go_wp2_with (at_builtin; refine push_rec jobV rfl _ _ 22 39 (.agg #[.string ⟨#[]⟩, .int .i64 0, .int .i64 0, .int .i64 0, .string ⟨#[]⟩]) 5 56 rfl Tryz.underlying22 infoJobT rfl (by decide) jobV_len jobV_oneT W0.heap.size _ _ _ (out.map jobOfF) rfl Ho6.out _ ⟨f0, f1, f2, f3, f4⟩ rfl _ (by simp) rfl (by omega) (by unfold maxLen; omega) hbr ?_; intro A2 c2 w7 ho7 hg7)
          have hv7 : ∀ k, (Value.slice A m cp).ownBlock = some k → W0.heap.size ≤ k := fun k hk => (Ho6.out.lt k hk).1
          have HJ7 := Lib.hid (show JrOk w7 g (objJ jobZ τ1).2 from HJ6.out.grewT hg7 hv7 hgl0 (by have := Hs0.out; omega) (by have := Hs0.out; omega))
          have Hg7 := Lib.hid (bes_grew Hg6.out hg7 hv7)
          have HQ7 := Lib.hid (jrM_is HJ7.out.at_)
          have Ho7 := Lib.hid ho7
          have Hob := Lib.hid (obj_len5 jobZ τ1)
          clear ho7 hg7 q0 q1 q2 q3 q4
          go_wp2_with fail
          go_roundw
          case rel => exact ⟨A2, m + 1, c2, out ++ [(objJ jobZ τ1).1], (objJ jobZ τ1).2, n', rfl, by rw [List.length_append, Hm.out]; rfl, by rw [List.map_append, List.map_singleton, Hfl.out, Hitm.out]; exact Ho7.out, HJ7.out, Hg7.out, HN.out, fun hb => by
            have h1 := Hob.out
            have h2 := Hτl.out
            unfold jrN at h1
            rw [if_neg (by rw [hb]; simp)] at h1
            omega, by have h1 := Hob.out; have h2 := Hτl.out; have h3 := Hmn.out; omega⟩
          case measure => rw [HQ7.out, Hm0.out]; have h1 := Hob.out; have h2 := Hτl.out; show jrN _ < l.length + 1; omega
theorem node_vals (σ : JS) : fsV (objJ nodeZ σ).1 = (nodeV (nodeOfF (objJ nodeZ σ).1)).toArray := by
  have h0 := obj_kind nodeZ σ
  rw [show nodeZ.map (fun f => kindOf f.2) = [false, true, false] from rfl] at h0
  obtain ⟨f, hf⟩ : ∃ f, (objJ nodeZ σ).1 = f := ⟨_, rfl⟩
  rw [hf] at h0 ⊢
  obtain ⟨g0, l0, rfl, k0, h1⟩ := kind_cons h0
  obtain ⟨n0, v0, rfl⟩ := kind_txt k0
  obtain ⟨g1, l1, rfl, k1, h2⟩ := kind_cons h1
  obtain ⟨n1, v1, rfl⟩ := kind_num k1
  obtain ⟨g2, l2, rfl, k2, h3⟩ := kind_cons h2
  obtain ⟨n2, v2, rfl⟩ := kind_txt k2
  obtain rfl := kind_nil h3
  rfl
theorem node_zero : fsV nodeZ = (#[.string ⟨#[]⟩, .int .i64 0, .string ⟨#[]⟩] : Array Value) := rfl
theorem node_pt {w : World} {gf X : Nat} (h : Blk w gf 72 (nodeFieldsC X 0)) : FldPt w gf X nodeZ := by
  refine ⟨fun k nm v hk => ?_⟩
  match k with
  | 0 => injection hk with hk; injection hk with h1 h2; subst h1; subst h2; exact ⟨h.cell 0, h.cell 1, h.cell 2⟩
  | 1 => injection hk with hk; injection hk with h1 h2; subst h1; subst h2; exact ⟨h.cell 3, h.cell 4, h.cell 5⟩
  | 2 => injection hk with hk; injection hk with h1 h2; subst h1; subst h2; exact ⟨h.cell 6, h.cell 7, h.cell 8⟩
  | j + 3 => cases hk
theorem node_znames : ∀ f ∈ nodeZ, f.1.size ≤ 100 := by decide
set_option maxRecDepth 100000 in
set_option maxHeartbeats 8000000 in
theorem els_node (g : Nat) (σ : JS) (name : ByteArray) (w : World) (h : JrOk w g σ) (hname : name.size ≤ 100) :
    Calls Tryz.prog 11 #[.pointer (some ⟨g, 0, none⟩), .string name, .func (.func 12) #[] #[]] w (ElPost nodeOfF nodeV 43 3 g (elsJ name nodeZ σ) w) := by
  have hq1 : (⟨(quoteL name.data.toList).toArray⟩ : ByteArray).size ≤ 602 := by show (quoteL name.data.toList).toArray.size ≤ 602; rw [List.size_toArray]; exact quoteL_len name hname
  have HQ := Lib.hid (Quote_any name w (by omega))
  obtain ⟨qs, hqs⟩ : ∃ qs, (⟨(quoteL name.data.toList).toArray⟩ : ByteArray) = qs := ⟨_, rfl⟩
  have Hqs := Lib.hid (show ((⟨#[44]⟩ ++ qs) ++ ⟨#[58, 91]⟩ : ByteArray).data.toList = [44] ++ quoteL name.data.toList ++ [58, 91] from by rw [← hqs, ByteArray.toList_data_append, ByteArray.toList_data_append])
  rw [hqs] at hq1 HQ
  have hz1 : (⟨#[44]⟩ ++ qs : ByteArray).size = 1 + qs.size := ByteArray.size_append ..
  have hadd1 : ¬ 9223372036854775807 < 1 + qs.size := by omega
  have hadd2 : ¬ 9223372036854775807 < 1 + qs.size + 2 := by omega
  have hadd3 : ¬ 9223372036854775807 < (⟨#[44]⟩ ++ qs : ByteArray).size + 2 := by omega
  obtain ⟨σ1, hσ1⟩ : ∃ σ1, mustJ ([44] ++ quoteL name.data.toList ++ [58, 91]) σ = σ1 := ⟨_, rfl⟩
  obtain ⟨R, hR⟩ : ∃ R, elsJ name nodeZ σ = R := ⟨_, rfl⟩
  have HR := Lib.hid (show elRun nodeZ (σ1.1.length + 1) ([], σ1) = R from by rw [← hR]; unfold elsJ; rw [hσ1])
  have HS1 := Lib.hid (show σ1.1.length ≤ 60000 from by rw [← hσ1]; exact Nat.le_trans (must_len _ _) h.len)
  rw [hR]
  have hgl := h.at_.lt
  have H0 := Lib.hid h
  have Hσ1 := Lib.hid hσ1
  have heg := enters_of Tryz.func12 (by kernel_rfl) rfl
  have hE1 := h.err.sne
  have hEs : 0 < w.heap.size := by obtain ⟨t, p, a⟩ := h.err.s; exact block_lt_of_cell a
  have hEr : 1 < w.heap.size := by obtain ⟨t, p, a⟩ := h.err.r; exact block_lt_of_cell a
  obtain ⟨W0, hW0⟩ : ∃ W0, W0 = w := ⟨_, rfl⟩
  have HW0 := Lib.hid hW0
  clear h hqs hσ1 hR hW0 hE1
  go_enter Tryz.func11, Tryz.ntmps11
  go_wp2_with fail
  refine Calls.mono HQ.out ?_
  rintro e w1 ⟨rfl, hb1⟩
  have HM := Lib.hid (jmust_any g σ ((⟨#[44]⟩ ++ qs) ++ ⟨#[58, 91]⟩) w1 (H0.out.up hb1))
  rw [Hqs.out, Hσ1.out] at HM
  have Hb1 := Lib.hid hb1
  clear hb1
  go_wp2_with fail
  refine Calls.mono HM.out ?_
  rintro e w2 ⟨rfl, hJ2, hg2⟩
  have HJ2 := Lib.hid hJ2
  have Hg2 := Lib.hid (grow_trans (grow_below g Hb1.out) hg2)
  clear hJ2 hg2
  go_wp2_with fail
  go_loopw [7] (fun v wr => ElInv nodeOfF nodeV nodeZ 43 3 W0 g R v wr) (fun _ wr => jrM g wr)
  case atStart => exact ⟨none, 0, 0, [], σ1, _, rfl, rfl, World.ownsRow_nil _ _ _ _, HJ2.out, by rw [HW0.out]; exact Hg2.out, HR.out, fun _ => Nat.lt_succ_self _, by have := HS1.out; unfold jrN; split <;> omega⟩
  case round =>
    clear HJ2 Hg2 HM HQ Hqs hadd1 hadd2 hadd3 hz1 hq1
    obtain ⟨A, m, cp, out, ⟨l, b⟩, N, rfl, hm, ho, hJ, hg, hn, hln, hmb⟩ := hrel
    have hgl0 : g < W0.heap.size := by rw [HW0.out]; exact hgl
    have Hm0 := Lib.hid (jrM_is hJ.at_)
    obtain ⟨M0, hM0⟩ : ∃ M0, jrM g wr = M0 := ⟨_, rfl⟩
    rw [hM0] at Hm0 ⊢
    have Ho := Lib.hid ho
    have HJ := Lib.hid hJ
    have Hg := Lib.hid hg
    have x1 : wr.cell? ⟨g, 1, none⟩ = some (.bool b) := Blk.cell hJ.at_ 1
    have hglr := Blk.lt hJ.at_
    have Hmb := Lib.hid hmb
    have Hm := Lib.hid hm
    clear ho hJ hg hM0 hmb hm
    cases b with
    | true =>
      have HE := Lib.hid (show R = (out, l, true) from by rw [← hn, el_bad nodeZ N rfl])
      have Hn0 := Lib.hid (show m ≤ 60001 from by have := Hmb.out; omega)
      clear hn
      go_wp2
      go_ret
      rw [HE.out]
      exact ⟨A, m, cp, rfl, Hm.out, Hn0.out, by rw [← HW0.out]; exact Ho.out, HJ.out, by rw [← HW0.out]; exact Hg.out⟩
    | false =>
      replace hln := hln rfl
      obtain ⟨n', rfl⟩ : ∃ n', N = n' + 1 := ⟨N - 1, by omega⟩
      have HI := Lib.hid (jis_any g (l, false) ⟨#[93]⟩ wr HJ.out)
      rw [show hasPrefix (l, false).1 (⟨#[93]⟩ : ByteArray).data.toList = hasPrefix l [93] from rfl, show trimPrefix (l, false).1 (⟨#[93]⟩ : ByteArray).data.toList = trimPrefix l [93] from rfl] at HI
      have Hmn := Lib.hid (show m + (l.length + 1) ≤ 60001 from Hmb.out)
      cases h93 : hasPrefix l [93] with
      | true =>
        have HE := Lib.hid (el_end hn rfl h93)
        have Hn0 := Lib.hid (show m ≤ 60001 from by have := Hmn.out; omega)
        rw [h93, show trimPrefix l [93] = l.drop 1 from trim_yes h93] at HI
        clear hn h93
        go_wp2_with fail
        refine Calls.mono HI.out ?_
        rintro e w3 ⟨rfl, hJ3, hg3⟩
        have HF := Lib.hid (show ElPost nodeOfF nodeV 43 3 g R w (.returned (.slice A m cp)) w3 from by
          rw [HE.out]
          exact ⟨A, m, cp, rfl, Hm.out, Hn0.out, by rw [← HW0.out]; exact ownT_grow Ho.out hg3 hgl0, hJ3, by rw [← HW0.out]; exact grow_trans Hg.out hg3⟩)
        clear hJ3 hg3
        go_wp2
        go_ret
        exact HF.out
      | false =>
        rw [h93, trim_no h93] at HI
        obtain ⟨τ1, hτ1⟩ : ∃ τ1 : JS, (if out = [] then ((l, false) : JS) else mustJ [44] (l, false)) = τ1 := ⟨_, rfl⟩
        have HN := Lib.hid (el_step hn rfl h93 τ1 hτ1)
        have Hτl := Lib.hid (show τ1.1.length ≤ l.length from by rw [← hτ1]; split; exact Nat.le_refl _; exact must_len _ _)
        clear hn h93
        go_wp2_with fail
        refine Calls.mono HI.out ?_
        rintro e w3 ⟨rfl, hJ3, hg3⟩
        have Ho3 := Lib.hid (ownT_grow Ho.out hg3 hgl0)
        have HJ3 := Lib.hid hJ3
        have Hg3 := Lib.hid (grow_trans Hg.out hg3)
        clear hJ3 hg3 HI Ho HJ Hg x1
        by_cases hm0 : m = 0
        · have dm : decide ((0 : Int) < (m : Int)) = false := decide_eq_false (by omega)
          have h0m : ¬ 0 < m := by omega
          have hτ : τ1 = (l, false) := by rw [← hτ1, if_pos (List.length_eq_zero_iff.1 (Hm.out.trans hm0))]
          obtain ⟨w4, hw4⟩ : ∃ w4, w3 = w4 := ⟨_, rfl⟩
          have HJ4 := Lib.hid (show JrOk w4 g τ1 from by rw [hτ, ← hw4]; exact HJ3.out)
          have Ho4 := Lib.hid (show w4.ownsRow W0.heap.size 43 3 (.slice A m cp) m (rowsV nodeV (out.map nodeOfF)) from by rw [← hw4]; exact Ho3.out)
          have Hg4 := Lib.hid (show W0.grownBy w4 (some g) from by rw [← hw4]; exact Hg3.out)
          have Hm0' := Lib.hid hm0
          clear hm0 hτ hτ1 HJ3 Ho3 Hg3
          subst hw4
          have Hbx := Lib.hid ((Below.refl w3.heap.size w3).alloc (Nat.le_refl _) (.cells #[.string ⟨#[]⟩, .int .i64 0, .string ⟨#[]⟩] 43))
          have HX := Lib.hid (show Blk (w3.alloc (.cells #[.string ⟨#[]⟩, .int .i64 0, .string ⟨#[]⟩] 43)) w3.heap.size 43 (fsV nodeZ) from by rw [node_zero]; exact heap_alloc_new w3 _)
          have hX0 : W0.heap.size ≤ w3.heap.size := Hg4.out.size
          have hs0 : W0.heap.size = w.heap.size := by rw [HW0.out]
          have Hs0 := Lib.hid hs0
          have HFd := Lib.hid (nodeFields_any w3.heap.size 0 (w3.alloc (.cells #[.string ⟨#[]⟩, .int .i64 0, .string ⟨#[]⟩] 43)))
          clear hs0
          go_wp2_with fail
          refine Calls.mono HFd.out ?_
          rintro e w5 ⟨gf, rfl, hgf, hG, hb5⟩
          have hgf' : w3.heap.size < gf := by (have : (w3.alloc (.cells #[.string ⟨#[]⟩, .int .i64 0, .string ⟨#[]⟩] 43)).heap.size = w3.heap.size + 1 := by simp); omega
          have HJ5 := Lib.hid ((HJ4.out.up Hbx.out).up hb5)
          have HX5 := Lib.hid (HX.out.below hb5 HX.out.lt)
          have hg5 := grow_trans (grow_trans Hg4.out (grow_below g Hbx.out)) (grow_below g hb5)
          have Ho5 := Lib.hid (ownT_grow (ownT_grow Ho4.out (grow_below g Hbx.out) hgl0) (grow_below g hb5) hgl0)
          have Hg5 := Lib.hid hg5
          have HOb := Lib.hid (jobject_any g τ1 gf w3.heap.size 3 43 nodeZ w5 HJ5.out HX5.out (node_pt hG) rfl (by decide) node_znames (by omega) (by omega) (by omega) (by have := Hs0.out; omega) (by have := Hs0.out; omega))
          have Hvk := Lib.hid (fun k (hk : (Value.slice A m cp).ownBlock = some k) => (Ho4.out.lt k hk).2)
          clear hG hb5 hg5 HFd
          go_wp2_with fail
          refine Calls.mono HOb.out ?_
          rintro e w6 ⟨rfl, hJ6, hX6, hT6⟩
          have Ho6 := Lib.hid (own_two Ho5.out hT6 hgl0 (fun k hk => by have := Hvk.out k hk; omega))
          have HJ6 := Lib.hid hJ6
          have Hg6 := Lib.hid (two_grown Hg5.out hT6 hX0)
          obtain ⟨fl, hfl⟩ : ∃ fl, (objJ nodeZ τ1).1 = fl := ⟨_, rfl⟩
          have hvals := node_vals τ1
          rw [hfl] at hvals hX6
          rw [hvals] at hX6
          obtain ⟨itm, hitm⟩ : ∃ itm, nodeOfF fl = itm := ⟨_, rfl⟩
          rw [hitm] at hX6
          have Hitm := Lib.hid hitm
          have Hfl := Lib.hid hfl
          obtain ⟨f0, f1, f2⟩ := itm
          have HX6 := Lib.hid hX6
          have q0 := (show w6.cell? ⟨w3.heap.size, 0, none⟩ = some (.string f0) from hX6.cell 0)
          have q1 := (show w6.cell? ⟨w3.heap.size, 1, none⟩ = some (.int .i64 f1) from hX6.cell 1)
          have q2 := (show w6.cell? ⟨w3.heap.size, 2, none⟩ = some (.string f2) from hX6.cell 2)
          have hXl := hX6.lt
          have hbr : W0.heap.size ≤ w6.heap.size := Hg6.out.size
          have hmm : m ≤ 60000 := by have := Hmn.out; omega
          clear hvals hX6 hT6 hJ6 HOb hfl hitm
          go_wp2_with (at_builtin; refine push_rec nodeV rfl _ _ 23 43 (.agg #[.string ⟨#[]⟩, .int .i64 0, .string ⟨#[]⟩]) 3 40 rfl Tryz.underlying23 infoNodeT rfl (by decide) nodeV_len nodeV_oneT W0.heap.size _ _ _ (out.map nodeOfF) rfl Ho6.out _ ⟨f0, f1, f2⟩ rfl _ (by simp) rfl (by omega) (by unfold maxLen; omega) hbr ?_; intro A2 c2 w7 ho7 hg7)
          have hv7 : ∀ k, (Value.slice A m cp).ownBlock = some k → W0.heap.size ≤ k := fun k hk => (Ho6.out.lt k hk).1
          have HJ7 := Lib.hid (show JrOk w7 g (objJ nodeZ τ1).2 from HJ6.out.grewT hg7 hv7 hgl0 (by have := Hs0.out; omega) (by have := Hs0.out; omega))
          have Hg7 := Lib.hid (bes_grew Hg6.out hg7 hv7)
          have HQ7 := Lib.hid (jrM_is HJ7.out.at_)
          have Ho7 := Lib.hid ho7
          have Hob := Lib.hid (obj_len5 nodeZ τ1)
          clear ho7 hg7 q0 q1 q2
          go_wp2_with fail
          go_roundw
          case rel => exact ⟨A2, m + 1, c2, out ++ [(objJ nodeZ τ1).1], (objJ nodeZ τ1).2, n', rfl, by rw [List.length_append, Hm.out]; rfl, by rw [List.map_append, List.map_singleton, Hfl.out, Hitm.out]; exact Ho7.out, HJ7.out, Hg7.out, HN.out, fun hb => by
            have h1 := Hob.out
            have h2 := Hτl.out
            unfold jrN at h1
            rw [if_neg (by rw [hb]; simp)] at h1
            omega, by have h1 := Hob.out; have h2 := Hτl.out; have h3 := Hmn.out; omega⟩
          case measure => rw [HQ7.out, Hm0.out]; have h1 := Hob.out; have h2 := Hτl.out; show jrN _ < l.length + 1; omega
        · have dm : decide ((0 : Int) < (m : Int)) = true := decide_eq_true (by omega)
          have h0m : 0 < m := by omega
          have HM := Lib.hid (jmust_any g (l, false) ⟨#[44]⟩ w3 HJ3.out)
          rw [show mustJ (⟨#[44]⟩ : ByteArray).data.toList (l, false) = τ1 from by rw [← hτ1, if_neg (fun e => hm0 (by rw [← Hm.out, e]; rfl))]] at HM
          clear hm0 hτ1
          go_wp2_with fail
          refine Calls.mono HM.out ?_
          rintro e w4 ⟨rfl, hJ4, hg4⟩
          have HJ4 := Lib.hid hJ4
          have Ho4 := Lib.hid (ownT_grow Ho3.out hg4 hgl0)
          have Hg4 := Lib.hid (grow_trans Hg3.out hg4)
          clear hJ4 hg4 HM HJ3 Ho3 Hg3
          have Hbx := Lib.hid ((Below.refl w4.heap.size w4).alloc (Nat.le_refl _) (.cells #[.string ⟨#[]⟩, .int .i64 0, .string ⟨#[]⟩] 43))
          have HX := Lib.hid (show Blk (w4.alloc (.cells #[.string ⟨#[]⟩, .int .i64 0, .string ⟨#[]⟩] 43)) w4.heap.size 43 (fsV nodeZ) from by rw [node_zero]; exact heap_alloc_new w4 _)
          have hX0 : W0.heap.size ≤ w4.heap.size := Hg4.out.size
          have hs0 : W0.heap.size = w.heap.size := by rw [HW0.out]
          have Hs0 := Lib.hid hs0
          have HFd := Lib.hid (nodeFields_any w4.heap.size 0 (w4.alloc (.cells #[.string ⟨#[]⟩, .int .i64 0, .string ⟨#[]⟩] 43)))
          clear hs0
          go_wp2_with fail
          refine Calls.mono HFd.out ?_
          rintro e w5 ⟨gf, rfl, hgf, hG, hb5⟩
          have hgf' : w4.heap.size < gf := by (have : (w4.alloc (.cells #[.string ⟨#[]⟩, .int .i64 0, .string ⟨#[]⟩] 43)).heap.size = w4.heap.size + 1 := by simp); omega
          have HJ5 := Lib.hid ((HJ4.out.up Hbx.out).up hb5)
          have HX5 := Lib.hid (HX.out.below hb5 HX.out.lt)
          have hg5 := grow_trans (grow_trans Hg4.out (grow_below g Hbx.out)) (grow_below g hb5)
          have Ho5 := Lib.hid (ownT_grow (ownT_grow Ho4.out (grow_below g Hbx.out) hgl0) (grow_below g hb5) hgl0)
          have Hg5 := Lib.hid hg5
          have HOb := Lib.hid (jobject_any g τ1 gf w4.heap.size 3 43 nodeZ w5 HJ5.out HX5.out (node_pt hG) rfl (by decide) node_znames (by omega) (by omega) (by omega) (by have := Hs0.out; omega) (by have := Hs0.out; omega))
          have Hvk := Lib.hid (fun k (hk : (Value.slice A m cp).ownBlock = some k) => (Ho4.out.lt k hk).2)
          clear hG hb5 hg5 HFd
          go_wp2_with fail
          refine Calls.mono HOb.out ?_
          rintro e w6 ⟨rfl, hJ6, hX6, hT6⟩
          have Ho6 := Lib.hid (own_two Ho5.out hT6 hgl0 (fun k hk => by have := Hvk.out k hk; omega))
          have HJ6 := Lib.hid hJ6
          have Hg6 := Lib.hid (two_grown Hg5.out hT6 hX0)
          obtain ⟨fl, hfl⟩ : ∃ fl, (objJ nodeZ τ1).1 = fl := ⟨_, rfl⟩
          have hvals := node_vals τ1
          rw [hfl] at hvals hX6
          rw [hvals] at hX6
          obtain ⟨itm, hitm⟩ : ∃ itm, nodeOfF fl = itm := ⟨_, rfl⟩
          rw [hitm] at hX6
          have Hitm := Lib.hid hitm
          have Hfl := Lib.hid hfl
          obtain ⟨f0, f1, f2⟩ := itm
          have HX6 := Lib.hid hX6
          have q0 := (show w6.cell? ⟨w4.heap.size, 0, none⟩ = some (.string f0) from hX6.cell 0)
          have q1 := (show w6.cell? ⟨w4.heap.size, 1, none⟩ = some (.int .i64 f1) from hX6.cell 1)
          have q2 := (show w6.cell? ⟨w4.heap.size, 2, none⟩ = some (.string f2) from hX6.cell 2)
          have hXl := hX6.lt
          have hbr : W0.heap.size ≤ w6.heap.size := Hg6.out.size
          have hmm : m ≤ 60000 := by have := Hmn.out; omega
          clear hvals hX6 hT6 hJ6 HOb hfl hitm
          go_wp2_with (at_builtin; refine push_rec nodeV rfl _ _ 23 43 (.agg #[.string ⟨#[]⟩, .int .i64 0, .string ⟨#[]⟩]) 3 40 rfl Tryz.underlying23 infoNodeT rfl (by decide) nodeV_len nodeV_oneT W0.heap.size _ _ _ (out.map nodeOfF) rfl Ho6.out _ ⟨f0, f1, f2⟩ rfl _ (by simp) rfl (by omega) (by unfold maxLen; omega) hbr ?_; intro A2 c2 w7 ho7 hg7)
          have hv7 : ∀ k, (Value.slice A m cp).ownBlock = some k → W0.heap.size ≤ k := fun k hk => (Ho6.out.lt k hk).1
          have HJ7 := Lib.hid (show JrOk w7 g (objJ nodeZ τ1).2 from HJ6.out.grewT hg7 hv7 hgl0 (by have := Hs0.out; omega) (by have := Hs0.out; omega))
          have Hg7 := Lib.hid (bes_grew Hg6.out hg7 hv7)
          have HQ7 := Lib.hid (jrM_is HJ7.out.at_)
          have Ho7 := Lib.hid ho7
          have Hob := Lib.hid (obj_len5 nodeZ τ1)
          clear ho7 hg7 q0 q1 q2
          go_wp2_with fail
          go_roundw
          case rel => exact ⟨A2, m + 1, c2, out ++ [(objJ nodeZ τ1).1], (objJ nodeZ τ1).2, n', rfl, by rw [List.length_append, Hm.out]; rfl, by rw [List.map_append, List.map_singleton, Hfl.out, Hitm.out]; exact Ho7.out, HJ7.out, Hg7.out, HN.out, fun hb => by
            have h1 := Hob.out
            have h2 := Hτl.out
            unfold jrN at h1
            rw [if_neg (by rw [hb]; simp)] at h1
            omega, by have h1 := Hob.out; have h2 := Hτl.out; have h3 := Hmn.out; omega⟩
          case measure => rw [HQ7.out, Hm0.out]; have h1 := Hob.out; have h2 := Hτl.out; show jrN _ < l.length + 1; omega
theorem lease_vals (σ : JS) : fsV (objJ leaseZ σ).1 = (leaseV (leaseOfF (objJ leaseZ σ).1)).toArray := by
  have h0 := obj_kind leaseZ σ
  rw [show leaseZ.map (fun f => kindOf f.2) = [false, false, true] from rfl] at h0
  obtain ⟨f, hf⟩ : ∃ f, (objJ leaseZ σ).1 = f := ⟨_, rfl⟩
  rw [hf] at h0 ⊢
  obtain ⟨g0, l0, rfl, k0, h1⟩ := kind_cons h0
  obtain ⟨n0, v0, rfl⟩ := kind_txt k0
  obtain ⟨g1, l1, rfl, k1, h2⟩ := kind_cons h1
  obtain ⟨n1, v1, rfl⟩ := kind_txt k1
  obtain ⟨g2, l2, rfl, k2, h3⟩ := kind_cons h2
  obtain ⟨n2, v2, rfl⟩ := kind_num k2
  obtain rfl := kind_nil h3
  rfl
theorem lease_zero : fsV leaseZ = (#[.string ⟨#[]⟩, .string ⟨#[]⟩, .int .i64 0] : Array Value) := rfl
theorem lease_pt {w : World} {gf X : Nat} (h : Blk w gf 72 (leaseFieldsC X 0)) : FldPt w gf X leaseZ := by
  refine ⟨fun k nm v hk => ?_⟩
  match k with
  | 0 => injection hk with hk; injection hk with h1 h2; subst h1; subst h2; exact ⟨h.cell 0, h.cell 1, h.cell 2⟩
  | 1 => injection hk with hk; injection hk with h1 h2; subst h1; subst h2; exact ⟨h.cell 3, h.cell 4, h.cell 5⟩
  | 2 => injection hk with hk; injection hk with h1 h2; subst h1; subst h2; exact ⟨h.cell 6, h.cell 7, h.cell 8⟩
  | j + 3 => cases hk
theorem lease_znames : ∀ f ∈ leaseZ, f.1.size ≤ 100 := by decide
set_option maxRecDepth 100000 in
set_option maxHeartbeats 8000000 in
theorem els_lease (g : Nat) (σ : JS) (name : ByteArray) (w : World) (h : JrOk w g σ) (hname : name.size ≤ 100) :
    Calls Tryz.prog 13 #[.pointer (some ⟨g, 0, none⟩), .string name, .func (.func 14) #[] #[]] w (ElPost leaseOfF leaseV 47 3 g (elsJ name leaseZ σ) w) := by
  have hq1 : (⟨(quoteL name.data.toList).toArray⟩ : ByteArray).size ≤ 602 := by show (quoteL name.data.toList).toArray.size ≤ 602; rw [List.size_toArray]; exact quoteL_len name hname
  have HQ := Lib.hid (Quote_any name w (by omega))
  obtain ⟨qs, hqs⟩ : ∃ qs, (⟨(quoteL name.data.toList).toArray⟩ : ByteArray) = qs := ⟨_, rfl⟩
  have Hqs := Lib.hid (show ((⟨#[44]⟩ ++ qs) ++ ⟨#[58, 91]⟩ : ByteArray).data.toList = [44] ++ quoteL name.data.toList ++ [58, 91] from by rw [← hqs, ByteArray.toList_data_append, ByteArray.toList_data_append])
  rw [hqs] at hq1 HQ
  have hz1 : (⟨#[44]⟩ ++ qs : ByteArray).size = 1 + qs.size := ByteArray.size_append ..
  have hadd1 : ¬ 9223372036854775807 < 1 + qs.size := by omega
  have hadd2 : ¬ 9223372036854775807 < 1 + qs.size + 2 := by omega
  have hadd3 : ¬ 9223372036854775807 < (⟨#[44]⟩ ++ qs : ByteArray).size + 2 := by omega
  obtain ⟨σ1, hσ1⟩ : ∃ σ1, mustJ ([44] ++ quoteL name.data.toList ++ [58, 91]) σ = σ1 := ⟨_, rfl⟩
  obtain ⟨R, hR⟩ : ∃ R, elsJ name leaseZ σ = R := ⟨_, rfl⟩
  have HR := Lib.hid (show elRun leaseZ (σ1.1.length + 1) ([], σ1) = R from by rw [← hR]; unfold elsJ; rw [hσ1])
  have HS1 := Lib.hid (show σ1.1.length ≤ 60000 from by rw [← hσ1]; exact Nat.le_trans (must_len _ _) h.len)
  rw [hR]
  have hgl := h.at_.lt
  have H0 := Lib.hid h
  have Hσ1 := Lib.hid hσ1
  have heg := enters_of Tryz.func14 (by kernel_rfl) rfl
  have hE1 := h.err.sne
  have hEs : 0 < w.heap.size := by obtain ⟨t, p, a⟩ := h.err.s; exact block_lt_of_cell a
  have hEr : 1 < w.heap.size := by obtain ⟨t, p, a⟩ := h.err.r; exact block_lt_of_cell a
  obtain ⟨W0, hW0⟩ : ∃ W0, W0 = w := ⟨_, rfl⟩
  have HW0 := Lib.hid hW0
  clear h hqs hσ1 hR hW0 hE1
  go_enter Tryz.func13, Tryz.ntmps13
  go_wp2_with fail
  refine Calls.mono HQ.out ?_
  rintro e w1 ⟨rfl, hb1⟩
  have HM := Lib.hid (jmust_any g σ ((⟨#[44]⟩ ++ qs) ++ ⟨#[58, 91]⟩) w1 (H0.out.up hb1))
  rw [Hqs.out, Hσ1.out] at HM
  have Hb1 := Lib.hid hb1
  clear hb1
  go_wp2_with fail
  refine Calls.mono HM.out ?_
  rintro e w2 ⟨rfl, hJ2, hg2⟩
  have HJ2 := Lib.hid hJ2
  have Hg2 := Lib.hid (grow_trans (grow_below g Hb1.out) hg2)
  clear hJ2 hg2
  go_wp2_with fail
  go_loopw [7] (fun v wr => ElInv leaseOfF leaseV leaseZ 47 3 W0 g R v wr) (fun _ wr => jrM g wr)
  case atStart => exact ⟨none, 0, 0, [], σ1, _, rfl, rfl, World.ownsRow_nil _ _ _ _, HJ2.out, by rw [HW0.out]; exact Hg2.out, HR.out, fun _ => Nat.lt_succ_self _, by have := HS1.out; unfold jrN; split <;> omega⟩
  case round =>
    clear HJ2 Hg2 HM HQ Hqs hadd1 hadd2 hadd3 hz1 hq1
    obtain ⟨A, m, cp, out, ⟨l, b⟩, N, rfl, hm, ho, hJ, hg, hn, hln, hmb⟩ := hrel
    have hgl0 : g < W0.heap.size := by rw [HW0.out]; exact hgl
    have Hm0 := Lib.hid (jrM_is hJ.at_)
    obtain ⟨M0, hM0⟩ : ∃ M0, jrM g wr = M0 := ⟨_, rfl⟩
    rw [hM0] at Hm0 ⊢
    have Ho := Lib.hid ho
    have HJ := Lib.hid hJ
    have Hg := Lib.hid hg
    have x1 : wr.cell? ⟨g, 1, none⟩ = some (.bool b) := Blk.cell hJ.at_ 1
    have hglr := Blk.lt hJ.at_
    have Hmb := Lib.hid hmb
    have Hm := Lib.hid hm
    clear ho hJ hg hM0 hmb hm
    cases b with
    | true =>
      have HE := Lib.hid (show R = (out, l, true) from by rw [← hn, el_bad leaseZ N rfl])
      have Hn0 := Lib.hid (show m ≤ 60001 from by have := Hmb.out; omega)
      clear hn
      go_wp2
      go_ret
      rw [HE.out]
      exact ⟨A, m, cp, rfl, Hm.out, Hn0.out, by rw [← HW0.out]; exact Ho.out, HJ.out, by rw [← HW0.out]; exact Hg.out⟩
    | false =>
      replace hln := hln rfl
      obtain ⟨n', rfl⟩ : ∃ n', N = n' + 1 := ⟨N - 1, by omega⟩
      have HI := Lib.hid (jis_any g (l, false) ⟨#[93]⟩ wr HJ.out)
      rw [show hasPrefix (l, false).1 (⟨#[93]⟩ : ByteArray).data.toList = hasPrefix l [93] from rfl, show trimPrefix (l, false).1 (⟨#[93]⟩ : ByteArray).data.toList = trimPrefix l [93] from rfl] at HI
      have Hmn := Lib.hid (show m + (l.length + 1) ≤ 60001 from Hmb.out)
      cases h93 : hasPrefix l [93] with
      | true =>
        have HE := Lib.hid (el_end hn rfl h93)
        have Hn0 := Lib.hid (show m ≤ 60001 from by have := Hmn.out; omega)
        rw [h93, show trimPrefix l [93] = l.drop 1 from trim_yes h93] at HI
        clear hn h93
        go_wp2_with fail
        refine Calls.mono HI.out ?_
        rintro e w3 ⟨rfl, hJ3, hg3⟩
        have HF := Lib.hid (show ElPost leaseOfF leaseV 47 3 g R w (.returned (.slice A m cp)) w3 from by
          rw [HE.out]
          exact ⟨A, m, cp, rfl, Hm.out, Hn0.out, by rw [← HW0.out]; exact ownT_grow Ho.out hg3 hgl0, hJ3, by rw [← HW0.out]; exact grow_trans Hg.out hg3⟩)
        clear hJ3 hg3
        go_wp2
        go_ret
        exact HF.out
      | false =>
        rw [h93, trim_no h93] at HI
        obtain ⟨τ1, hτ1⟩ : ∃ τ1 : JS, (if out = [] then ((l, false) : JS) else mustJ [44] (l, false)) = τ1 := ⟨_, rfl⟩
        have HN := Lib.hid (el_step hn rfl h93 τ1 hτ1)
        have Hτl := Lib.hid (show τ1.1.length ≤ l.length from by rw [← hτ1]; split; exact Nat.le_refl _; exact must_len _ _)
        clear hn h93
        go_wp2_with fail
        refine Calls.mono HI.out ?_
        rintro e w3 ⟨rfl, hJ3, hg3⟩
        have Ho3 := Lib.hid (ownT_grow Ho.out hg3 hgl0)
        have HJ3 := Lib.hid hJ3
        have Hg3 := Lib.hid (grow_trans Hg.out hg3)
        clear hJ3 hg3 HI Ho HJ Hg x1
        by_cases hm0 : m = 0
        · have dm : decide ((0 : Int) < (m : Int)) = false := decide_eq_false (by omega)
          have h0m : ¬ 0 < m := by omega
          have hτ : τ1 = (l, false) := by rw [← hτ1, if_pos (List.length_eq_zero_iff.1 (Hm.out.trans hm0))]
          obtain ⟨w4, hw4⟩ : ∃ w4, w3 = w4 := ⟨_, rfl⟩
          have HJ4 := Lib.hid (show JrOk w4 g τ1 from by rw [hτ, ← hw4]; exact HJ3.out)
          have Ho4 := Lib.hid (show w4.ownsRow W0.heap.size 47 3 (.slice A m cp) m (rowsV leaseV (out.map leaseOfF)) from by rw [← hw4]; exact Ho3.out)
          have Hg4 := Lib.hid (show W0.grownBy w4 (some g) from by rw [← hw4]; exact Hg3.out)
          have Hm0' := Lib.hid hm0
          clear hm0 hτ hτ1 HJ3 Ho3 Hg3
          subst hw4
          have Hbx := Lib.hid ((Below.refl w3.heap.size w3).alloc (Nat.le_refl _) (.cells #[.string ⟨#[]⟩, .string ⟨#[]⟩, .int .i64 0] 47))
          have HX := Lib.hid (show Blk (w3.alloc (.cells #[.string ⟨#[]⟩, .string ⟨#[]⟩, .int .i64 0] 47)) w3.heap.size 47 (fsV leaseZ) from by rw [lease_zero]; exact heap_alloc_new w3 _)
          have hX0 : W0.heap.size ≤ w3.heap.size := Hg4.out.size
          have hs0 : W0.heap.size = w.heap.size := by rw [HW0.out]
          have Hs0 := Lib.hid hs0
          have HFd := Lib.hid (leaseFields_any w3.heap.size 0 (w3.alloc (.cells #[.string ⟨#[]⟩, .string ⟨#[]⟩, .int .i64 0] 47)))
          clear hs0
          go_wp2_with fail
          refine Calls.mono HFd.out ?_
          rintro e w5 ⟨gf, rfl, hgf, hG, hb5⟩
          have hgf' : w3.heap.size < gf := by (have : (w3.alloc (.cells #[.string ⟨#[]⟩, .string ⟨#[]⟩, .int .i64 0] 47)).heap.size = w3.heap.size + 1 := by simp); omega
          have HJ5 := Lib.hid ((HJ4.out.up Hbx.out).up hb5)
          have HX5 := Lib.hid (HX.out.below hb5 HX.out.lt)
          have hg5 := grow_trans (grow_trans Hg4.out (grow_below g Hbx.out)) (grow_below g hb5)
          have Ho5 := Lib.hid (ownT_grow (ownT_grow Ho4.out (grow_below g Hbx.out) hgl0) (grow_below g hb5) hgl0)
          have Hg5 := Lib.hid hg5
          have HOb := Lib.hid (jobject_any g τ1 gf w3.heap.size 3 47 leaseZ w5 HJ5.out HX5.out (lease_pt hG) rfl (by decide) lease_znames (by omega) (by omega) (by omega) (by have := Hs0.out; omega) (by have := Hs0.out; omega))
          have Hvk := Lib.hid (fun k (hk : (Value.slice A m cp).ownBlock = some k) => (Ho4.out.lt k hk).2)
          clear hG hb5 hg5 HFd
          go_wp2_with fail
          refine Calls.mono HOb.out ?_
          rintro e w6 ⟨rfl, hJ6, hX6, hT6⟩
          have Ho6 := Lib.hid (own_two Ho5.out hT6 hgl0 (fun k hk => by have := Hvk.out k hk; omega))
          have HJ6 := Lib.hid hJ6
          have Hg6 := Lib.hid (two_grown Hg5.out hT6 hX0)
          obtain ⟨fl, hfl⟩ : ∃ fl, (objJ leaseZ τ1).1 = fl := ⟨_, rfl⟩
          have hvals := lease_vals τ1
          rw [hfl] at hvals hX6
          rw [hvals] at hX6
          obtain ⟨itm, hitm⟩ : ∃ itm, leaseOfF fl = itm := ⟨_, rfl⟩
          rw [hitm] at hX6
          have Hitm := Lib.hid hitm
          have Hfl := Lib.hid hfl
          obtain ⟨f0, f1, f2⟩ := itm
          have HX6 := Lib.hid hX6
          have q0 := (show w6.cell? ⟨w3.heap.size, 0, none⟩ = some (.string f0) from hX6.cell 0)
          have q1 := (show w6.cell? ⟨w3.heap.size, 1, none⟩ = some (.string f1) from hX6.cell 1)
          have q2 := (show w6.cell? ⟨w3.heap.size, 2, none⟩ = some (.int .i64 f2) from hX6.cell 2)
          have hXl := hX6.lt
          have hbr : W0.heap.size ≤ w6.heap.size := Hg6.out.size
          have hmm : m ≤ 60000 := by have := Hmn.out; omega
          clear hvals hX6 hT6 hJ6 HOb hfl hitm
          go_wp2_with (at_builtin; refine push_rec leaseV rfl _ _ 24 47 (.agg #[.string ⟨#[]⟩, .string ⟨#[]⟩, .int .i64 0]) 3 40 rfl Tryz.underlying24 infoLeaseT rfl (by decide) leaseV_len leaseV_oneT W0.heap.size _ _ _ (out.map leaseOfF) rfl Ho6.out _ ⟨f0, f1, f2⟩ rfl _ (by simp) rfl (by omega) (by unfold maxLen; omega) hbr ?_; intro A2 c2 w7 ho7 hg7)
          have hv7 : ∀ k, (Value.slice A m cp).ownBlock = some k → W0.heap.size ≤ k := fun k hk => (Ho6.out.lt k hk).1
          have HJ7 := Lib.hid (show JrOk w7 g (objJ leaseZ τ1).2 from HJ6.out.grewT hg7 hv7 hgl0 (by have := Hs0.out; omega) (by have := Hs0.out; omega))
          have Hg7 := Lib.hid (bes_grew Hg6.out hg7 hv7)
          have HQ7 := Lib.hid (jrM_is HJ7.out.at_)
          have Ho7 := Lib.hid ho7
          have Hob := Lib.hid (obj_len5 leaseZ τ1)
          clear ho7 hg7 q0 q1 q2
          go_wp2_with fail
          go_roundw
          case rel => exact ⟨A2, m + 1, c2, out ++ [(objJ leaseZ τ1).1], (objJ leaseZ τ1).2, n', rfl, by rw [List.length_append, Hm.out]; rfl, by rw [List.map_append, List.map_singleton, Hfl.out, Hitm.out]; exact Ho7.out, HJ7.out, Hg7.out, HN.out, fun hb => by
            have h1 := Hob.out
            have h2 := Hτl.out
            unfold jrN at h1
            rw [if_neg (by rw [hb]; simp)] at h1
            omega, by have h1 := Hob.out; have h2 := Hτl.out; have h3 := Hmn.out; omega⟩
          case measure => rw [HQ7.out, Hm0.out]; have h1 := Hob.out; have h2 := Hτl.out; show jrN _ < l.length + 1; omega
        · have dm : decide ((0 : Int) < (m : Int)) = true := decide_eq_true (by omega)
          have h0m : 0 < m := by omega
          have HM := Lib.hid (jmust_any g (l, false) ⟨#[44]⟩ w3 HJ3.out)
          rw [show mustJ (⟨#[44]⟩ : ByteArray).data.toList (l, false) = τ1 from by rw [← hτ1, if_neg (fun e => hm0 (by rw [← Hm.out, e]; rfl))]] at HM
          clear hm0 hτ1
          go_wp2_with fail
          refine Calls.mono HM.out ?_
          rintro e w4 ⟨rfl, hJ4, hg4⟩
          have HJ4 := Lib.hid hJ4
          have Ho4 := Lib.hid (ownT_grow Ho3.out hg4 hgl0)
          have Hg4 := Lib.hid (grow_trans Hg3.out hg4)
          clear hJ4 hg4 HM HJ3 Ho3 Hg3
          have Hbx := Lib.hid ((Below.refl w4.heap.size w4).alloc (Nat.le_refl _) (.cells #[.string ⟨#[]⟩, .string ⟨#[]⟩, .int .i64 0] 47))
          have HX := Lib.hid (show Blk (w4.alloc (.cells #[.string ⟨#[]⟩, .string ⟨#[]⟩, .int .i64 0] 47)) w4.heap.size 47 (fsV leaseZ) from by rw [lease_zero]; exact heap_alloc_new w4 _)
          have hX0 : W0.heap.size ≤ w4.heap.size := Hg4.out.size
          have hs0 : W0.heap.size = w.heap.size := by rw [HW0.out]
          have Hs0 := Lib.hid hs0
          have HFd := Lib.hid (leaseFields_any w4.heap.size 0 (w4.alloc (.cells #[.string ⟨#[]⟩, .string ⟨#[]⟩, .int .i64 0] 47)))
          clear hs0
          go_wp2_with fail
          refine Calls.mono HFd.out ?_
          rintro e w5 ⟨gf, rfl, hgf, hG, hb5⟩
          have hgf' : w4.heap.size < gf := by (have : (w4.alloc (.cells #[.string ⟨#[]⟩, .string ⟨#[]⟩, .int .i64 0] 47)).heap.size = w4.heap.size + 1 := by simp); omega
          have HJ5 := Lib.hid ((HJ4.out.up Hbx.out).up hb5)
          have HX5 := Lib.hid (HX.out.below hb5 HX.out.lt)
          have hg5 := grow_trans (grow_trans Hg4.out (grow_below g Hbx.out)) (grow_below g hb5)
          have Ho5 := Lib.hid (ownT_grow (ownT_grow Ho4.out (grow_below g Hbx.out) hgl0) (grow_below g hb5) hgl0)
          have Hg5 := Lib.hid hg5
          have HOb := Lib.hid (jobject_any g τ1 gf w4.heap.size 3 47 leaseZ w5 HJ5.out HX5.out (lease_pt hG) rfl (by decide) lease_znames (by omega) (by omega) (by omega) (by have := Hs0.out; omega) (by have := Hs0.out; omega))
          have Hvk := Lib.hid (fun k (hk : (Value.slice A m cp).ownBlock = some k) => (Ho4.out.lt k hk).2)
          clear hG hb5 hg5 HFd
          go_wp2_with fail
          refine Calls.mono HOb.out ?_
          rintro e w6 ⟨rfl, hJ6, hX6, hT6⟩
          have Ho6 := Lib.hid (own_two Ho5.out hT6 hgl0 (fun k hk => by have := Hvk.out k hk; omega))
          have HJ6 := Lib.hid hJ6
          have Hg6 := Lib.hid (two_grown Hg5.out hT6 hX0)
          obtain ⟨fl, hfl⟩ : ∃ fl, (objJ leaseZ τ1).1 = fl := ⟨_, rfl⟩
          have hvals := lease_vals τ1
          rw [hfl] at hvals hX6
          rw [hvals] at hX6
          obtain ⟨itm, hitm⟩ : ∃ itm, leaseOfF fl = itm := ⟨_, rfl⟩
          rw [hitm] at hX6
          have Hitm := Lib.hid hitm
          have Hfl := Lib.hid hfl
          obtain ⟨f0, f1, f2⟩ := itm
          have HX6 := Lib.hid hX6
          have q0 := (show w6.cell? ⟨w4.heap.size, 0, none⟩ = some (.string f0) from hX6.cell 0)
          have q1 := (show w6.cell? ⟨w4.heap.size, 1, none⟩ = some (.string f1) from hX6.cell 1)
          have q2 := (show w6.cell? ⟨w4.heap.size, 2, none⟩ = some (.int .i64 f2) from hX6.cell 2)
          have hXl := hX6.lt
          have hbr : W0.heap.size ≤ w6.heap.size := Hg6.out.size
          have hmm : m ≤ 60000 := by have := Hmn.out; omega
          clear hvals hX6 hT6 hJ6 HOb hfl hitm
          go_wp2_with (at_builtin; refine push_rec leaseV rfl _ _ 24 47 (.agg #[.string ⟨#[]⟩, .string ⟨#[]⟩, .int .i64 0]) 3 40 rfl Tryz.underlying24 infoLeaseT rfl (by decide) leaseV_len leaseV_oneT W0.heap.size _ _ _ (out.map leaseOfF) rfl Ho6.out _ ⟨f0, f1, f2⟩ rfl _ (by simp) rfl (by omega) (by unfold maxLen; omega) hbr ?_; intro A2 c2 w7 ho7 hg7)
          have hv7 : ∀ k, (Value.slice A m cp).ownBlock = some k → W0.heap.size ≤ k := fun k hk => (Ho6.out.lt k hk).1
          have HJ7 := Lib.hid (show JrOk w7 g (objJ leaseZ τ1).2 from HJ6.out.grewT hg7 hv7 hgl0 (by have := Hs0.out; omega) (by have := Hs0.out; omega))
          have Hg7 := Lib.hid (bes_grew Hg6.out hg7 hv7)
          have HQ7 := Lib.hid (jrM_is HJ7.out.at_)
          have Ho7 := Lib.hid ho7
          have Hob := Lib.hid (obj_len5 leaseZ τ1)
          clear ho7 hg7 q0 q1 q2
          go_wp2_with fail
          go_roundw
          case rel => exact ⟨A2, m + 1, c2, out ++ [(objJ leaseZ τ1).1], (objJ leaseZ τ1).2, n', rfl, by rw [List.length_append, Hm.out]; rfl, by rw [List.map_append, List.map_singleton, Hfl.out, Hitm.out]; exact Ho7.out, HJ7.out, Hg7.out, HN.out, fun hb => by
            have h1 := Hob.out
            have h2 := Hτl.out
            unfold jrN at h1
            rw [if_neg (by rw [hb]; simp)] at h1
            omega, by have h1 := Hob.out; have h2 := Hτl.out; have h3 := Hmn.out; omega⟩
          case measure => rw [HQ7.out, Hm0.out]; have h1 := Hob.out; have h2 := Hτl.out; show jrN _ < l.length + 1; omega
end Go.Proofs.YtcodhhabfacnjaaGreatDoor
