/- Of the proof of a statement: RowsL. -/
import Derived.Lib.QuietBelow
import Derived.Test.YtcodhhabfacnjaaGreatDoorSLease
import Derived.Test.YtcodhhabfacnjaaGreatDoorSRecs
set_option linter.unusedVariables false
set_option linter.unusedSimpArgs false
/- The walk of Rows at leases, against the tables. -/
namespace Go.Proofs.YtcodhhabfacnjaaGreatDoor
open Go.RowKit
theorem leaseKey_any (job node : ByteArray) (till : Int) (w : World) : Calls Tryz.prog 56 #[.agg #[.string job, .string node, .int .i64 till]] w fun e w' => e = .returned (.string job) ∧ Below w.heap.size w w' := by
  have HB := Lib.hid ((Below.refl w.heap.size w).alloc (Nat.le_refl _) (.cells #[.string job, .string node, .int .i64 till] 47))
  go_enter Tryz.func56, Tryz.ntmps56
  go_wp2
  go_ret
  exact ⟨rfl, HB.out⟩
def LeasesOk (xs : List LeaseD) : Prop := ∀ x ∈ xs, x.job.size ≤ 9223372036854775807 ∧ x.node.size ≤ 9223372036854775807
section
variable {w w' : World} {B sz n g : Nat} {A : Option Addr} {xs : List Value}
theorem SlAt.but (h : SlAt w B sz A n xs) (hg : w.grownBy w' (some g)) (hB : B ≤ g) : SlAt w' B sz A n xs :=
  ⟨h.len, fun hn => by
    obtain ⟨b, off, e, hb, hr⟩ := h.at_ hn
    exact ⟨b, off, e, hb, fun j u hu => hg.cell (hr j u hu) (by simp; omega)⟩⟩
end
section
variable {w w' : World} {T b1 b2 b3 n1 n2 n3 m : Nat} {g1 g2 g3 g : ByteArray → Option Value}
theorem TabsAt.below (h : TabsAt w T b1 b2 b3 n1 n2 n3 g1 g2 g3) (hb : Below w.heap.size w w') : TabsAt w' T b1 b2 b3 n1 n2 n3 g1 g2 g3 :=
  ⟨h.t.below hb h.t.lt, h.m1.below hb h.m1.lt, h.m2.below hb h.m2.lt, h.m3.below hb h.m3.lt⟩
theorem TabsAt.used (h : TabsAt w T b1 b2 b3 n1 n2 n3 g1 g2 g3) (hg : w.grownBy w' (some b3)) (h1 : b1 ≠ b3) (h2 : b2 ≠ b3) (h3 : T ≠ b3) (hm : MapIs w' b3 m g) : TabsAt w' T b1 b2 b3 n1 n2 m g1 g2 g :=
  ⟨(hg.block T h.t.lt (by simp [h3])).trans h.t, h.m1.but hg h1, h.m2.but hg h2, hm⟩
end
def RLInv (st : StateD) (n : Nat) (R : Int) (w : World) (T b1 b2 b3 n1 n2 : Nat) (i : Value) (wr : World) : Prop :=
  ∃ (k : Nat) (g3 : ByteArray → Option Value), k ≤ n ∧ i = .int .i64 k ∧ rowsFrom (leaseE st) LeaseD.job (prevK LeaseD.job st.leases k) (st.leases.drop k) = R ∧ w.grownBy wr (some b3) ∧
    TabsAt wr T b1 b2 b3 n1 n2 k (jobG st.jobs) (nodeG st.nodes) g3 ∧ UsedIs g3 (fun s => usedL st s (st.leases.take k))
def RLPost (st : StateD) (n : Nat) (R : Int) (b3 : Nat) (w : World) (e : Ending) (w' : World) : Prop :=
  e = .returned (.int .i64 R) ∧ w.grownBy w' (some b3) ∧ (R = 0 → ∃ g, MapIs w' b3 n g ∧ UsedIs g (usedE st))
set_option maxRecDepth 100000 in
set_option maxHeartbeats 1000000 in
theorem rowsLease_any (st : StateD) (A : Option Addr) (n c : Nat) (w : World) (T b1 b2 b3 n1 n2 : Nat) (g3 : ByteArray → Option Value) (hx : SlAt w b3 3 A n (rowsV leaseV st.leases)) (hl : st.leases.length = n) (hn : n ≤ 40) (hok : LeasesOk st.leases)
    (hneed : NeedsOk st) (h1 : b1 ≠ b3) (h2 : b2 ≠ b3) (h3 : T ≠ b3) (hu : UsedIs g3 (fun _ => 0)) (ht : TabsAt w T b1 b2 b3 n1 n2 0 (jobG st.jobs) (nodeG st.nodes) g3) :
    Calls Tryz.prog 55 #[.slice A n c, .func (.func 56) #[] #[], .func (.func 57) #[.pointer (some ⟨T, 0, none⟩)] #[]] w (RLPost st n (rowsE (leaseE st) LeaseD.job st.leases) b3 w) := by
  obtain ⟨R, hR⟩ : ∃ R, rowsE (leaseE st) LeaseD.job st.leases = R := ⟨_, rfl⟩
  rw [hR]
  have HR := Lib.hid hR
  have Hl := Lib.hid hl
  have Hok := Lib.hid hok
  have Hneed := Lib.hid hneed
  have H0 := Lib.hid (And.intro hu ht)
  clear hl hR hok hneed hu ht
  go_enter Tryz.func55, Tryz.ntmps55
  go_wp2
  go_loopw [6, 7, 8, 9, 12, 19, 28, 35] (fun _ _ _ _ i _ _ _ wr => RLInv st n R w T b1 b2 b3 n1 n2 i wr) (fun _ _ _ _ i _ _ _ _ => n - (intOf i).toNat)
  case atStart => exact ⟨0, g3, Nat.zero_le _, rfl, by rw [← HR.out]; rfl, World.grownBy.refl w _, H0.out.2, by rw [List.take_zero]; exact H0.out.1⟩
  case round =>
    obtain ⟨k, g, hk, rfl, hrow, hg, hta, hua⟩ := hrel
    have Hrow := Lib.hid hrow
    have Hg := Lib.hid hg
    have Hta := Lib.hid hta
    have Hua := Lib.hid hua
    have hsz := hg.size
    have hb3l := hta.m3.lt
    have hxr := hx.but hg (Nat.le_refl _)
    clear hrow hta hua hg
    by_cases hlt : k < n
    · obtain ⟨x, hf⟩ : ∃ x, st.leases[k]? = some x := ⟨_, List.getElem?_eq_getElem (by rw [Hl.out]; exact hlt)⟩
      obtain ⟨b, off, rfl, hbB, hc⟩ := hxr.rec_ leaseV_len Hl.out hf
      have hso := Lib.hid (Hok.out x (List.mem_of_getElem? hf))
      have hstep := Lib.hid (fun s => usedL_step st s hf)
      have hbnd := Lib.hid (fun s => usedL_bound Hneed.out s (st.leases.take k))
      have hbl : (st.leases.take k).length ≤ 40 := by rw [List.length_take]; omega
      have Hf := Lib.hid hf
      obtain ⟨E, hE⟩ : ∃ E, leaseE st x = E := ⟨_, rfl⟩
      have HE := Lib.hid hE
      obtain ⟨job, node, till⟩ := x
      have c0 : wr.cell? ⟨b, off + k * 3, none⟩ = some (.string job) := hc 0 _ rfl
      have c1 : wr.cell? ⟨b, off + k * 3 + 1, none⟩ = some (.string node) := hc 1 _ rfl
      have c2 : wr.cell? ⟨b, off + k * 3 + 2, none⟩ = some (.int .i64 till) := hc 2 _ rfl
      clear hc hf hE
      have hlb : b < wr.heap.size := by omega
      have hA0 := (Below.refl wr.heap.size wr).alloc (Nat.le_refl _) (.cells #[.string job, .string node, .int .i64 till] 47)
      have HA0 := Lib.hid hA0
      have hpre := Lib.hid (show ∀ s, 0 ≤ usedL st s (st.leases.take k) ∧ usedL st s (st.leases.take k) ≤ 1000000000 from fun s => by have := hbnd.out s; omega)
      have hcon := Lib.hid (lease_any st ⟨job, node, till⟩ _ T b1 b2 b3 n1 n2 k g _ hso.out.1 hso.out.2 (by omega) Hneed.out Hua.out hpre.out (Hta.out.below hA0))
      clear hA0
      go_wp2_with fail
      refine Calls.mono hcon.out ?_
      rintro e w1 ⟨rfl, hg1, hz1⟩
      rw [HE.out]
      rw [HE.out] at hz1
      have hz := Lib.hid hz1
      have hG1 := Lib.hid hg1
      have hGa := Lib.hid ((bes_below (World.grownBy.refl wr (some b3)) HA0.out).trans hg1)
      have hB1 := Lib.hid (Hg.out.trans hGa.out)
      have hsz1 := hg1.size
      have hgl : wr.heap.size < w1.heap.size := by simp at hsz1; omega
      clear hcon hz1 hsz1
      by_cases he : E = 0
      · subst he
        have l0 : ∀ d os, (Sort.grow (redrawn w1 d) os).cell? ⟨wr.heap.size, 0, none⟩ = some (.string job) := fun d os => cell_regrown (hg1.cell (by simp [go_sem]) (by simp; omega)) d os
        have l1 : ∀ d os, (Sort.grow (redrawn w1 d) os).cell? ⟨wr.heap.size, 1, none⟩ = some (.string node) := fun d os => cell_regrown (hg1.cell (by simp [go_sem]) (by simp; omega)) d os
        have l2 : ∀ d os, (Sort.grow (redrawn w1 d) os).cell? ⟨wr.heap.size, 2, none⟩ = some (.int .i64 till) := fun d os => cell_regrown (hg1.cell (by simp [go_sem]) (by simp; omega)) d os
        obtain ⟨g', hm', hu'⟩ := hz.out rfl
        have hnext := Lib.hid (And.intro (Hta.out.used hGa.out h1 h2 h3 hm') (show UsedIs g' (fun s => usedL st s (st.leases.take (k + 1))) from fun s => (hu' s).trans (congrArg (Value.int .i64) (hstep.out s).symm)))
        clear hm' hu'
        by_cases hk0 : k = 0
        · subst hk0
          have hst := Lib.hid (rows_next (key := LeaseD.job) Hf.out HE.out (.inl rfl))
          clear c0 c1 c2 hx hxr hg1
          go_wp2_with fail
          refine wp_region_quiet_below (by kernel_rfl) (by kernel_rfl) ?_
          repeat (go_big_quiet_step (fail))
          refine wpQuiet_nil ?_
          intro _ hw'
          obtain ⟨⟨nq, osq⟩, hw''⟩ := hw'
          subst hw''
          have hb2 := Lib.hid (below_regrown w1 nq osq)
          clear l0 l1 l2
          dsimp only
          generalize Sort.grow (redrawn w1 nq) osq = w2 at hb2 ⊢
          go_wp2
          go_roundw
          case rel => exact ⟨1, g', by omega, by go_num, by rw [← hst.out]; exact Hrow.out, bes_below hB1.out hb2.out, hnext.out.1.below hb2.out, hnext.out.2⟩
          case measure => simp [intOf]; omega
        · obtain ⟨y, hy⟩ : ∃ y, st.leases[k - 1]? = some y := ⟨_, List.getElem?_eq_getElem (by rw [Hl.out]; omega)⟩
          obtain ⟨b', off', hbo, hbB', hp⟩ := hxr.rec_ leaseV_len Hl.out hy
          obtain ⟨rfl, rfl⟩ : b = b' ∧ off = off' := by simpa using hbo
          have Hy := Lib.hid hy
          obtain ⟨job', node', till'⟩ := y
          have q0 : wr.cell? ⟨b, off + (k - 1) * 3, none⟩ = some (.string job') := hp 0 _ rfl
          have q1 : wr.cell? ⟨b, off + (k - 1) * 3 + 1, none⟩ = some (.string node') := hp 1 _ rfl
          have q2 : wr.cell? ⟨b, off + (k - 1) * 3 + 2, none⟩ = some (.int .i64 till') := hp 2 _ rfl
          have hbne : (some b : Option Nat) ≠ some b3 := by simp; omega
          have p0 : ∀ d os, (Sort.grow (redrawn w1 d) os).cell? ⟨b, off + (k - 1) * 3, none⟩ = some (.string job') := fun d os => cell_regrown (hGa.out.cell q0 hbne) d os
          have p1 : ∀ d os, (Sort.grow (redrawn w1 d) os).cell? ⟨b, off + (k - 1) * 3 + 1, none⟩ = some (.string node') := fun d os => cell_regrown (hGa.out.cell q1 hbne) d os
          have p2 : ∀ d os, (Sort.grow (redrawn w1 d) os).cell? ⟨b, off + (k - 1) * 3 + 2, none⟩ = some (.int .i64 till') := fun d os => cell_regrown (hGa.out.cell q2 hbne) d os
          clear q0 q1 q2 c0 c1 c2 hp hy hx hxr hg1 hbne
          have hkp : decide ((0 : Int) < (k : Int)) = true := decide_eq_true (by omega)
          have hkn : 0 < k := by omega
          have hlt2 := Lib.hid (less_total job'.toList job.toList)
          obtain ⟨B, hB⟩ : ∃ B, Op.bytesLess job'.toList job.toList = B := ⟨_, rfl⟩
          have HL := Lib.hid hB
          cases B
          · have e1 : (Op.bytesLess job.toList job'.toList || job.toList == job'.toList) = true := by rw [← hlt2.out, hB]; rfl
            have hst := Lib.hid (rows_order (key := LeaseD.job) Hf.out HE.out hk0 Hy.out HL.out)
            clear hB
            go_wp2_with fail
            refine wp_region_quiet_below (by kernel_rfl) (by kernel_rfl) ?_
            repeat (go_big_quiet_step ((go_at_call 56; exact Calls.regrown_of (leaseKey_any _ _ _ _))))
            refine wpQuiet_nil ?_
            intro _ hw'
            obtain ⟨⟨nq, osq⟩, hw''⟩ := hw'
            subst hw''
            have hb2 := Lib.hid (below_regrown w1 nq osq)
            clear l0 l1 l2 p0 p1 p2
            dsimp only
            generalize Sort.grow (redrawn w1 nq) osq = w2 at hb2 ⊢
            go_wp2
            go_ret
            have h8 := Hrow.out
            rw [hst.out] at h8
            exact ⟨ret_int h8, bes_below hB1.out hb2.out, fun h => by omega⟩
          · have e1 : (Op.bytesLess job.toList job'.toList || job.toList == job'.toList) = false := by rw [← hlt2.out, hB]; rfl
            have hst := Lib.hid (rows_next (key := LeaseD.job) Hf.out HE.out (.inr ⟨_, Hy.out, HL.out⟩))
            clear hB
            go_wp2_with fail
            refine wp_region_quiet_below (by kernel_rfl) (by kernel_rfl) ?_
            repeat (go_big_quiet_step ((go_at_call 56; exact Calls.regrown_of (leaseKey_any _ _ _ _))))
            refine wpQuiet_nil ?_
            intro _ hw'
            obtain ⟨⟨nq, osq⟩, hw''⟩ := hw'
            subst hw''
            have hb2 := Lib.hid (below_regrown w1 nq osq)
            clear l0 l1 l2 p0 p1 p2
            dsimp only
            generalize Sort.grow (redrawn w1 nq) osq = w2 at hb2 ⊢
            go_wp2
            go_roundw
            case rel => exact ⟨k + 1, g', by omega, by go_num, by rw [← hst.out]; exact Hrow.out, bes_below hB1.out hb2.out, hnext.out.1.below hb2.out, hnext.out.2⟩
            case measure => simp [intOf]; omega
      · have hst := Lib.hid (rows_err (E := leaseE st) (key := LeaseD.job) Hf.out (by rw [HE.out]; exact he))
        have e1 : (E == 0) = false := beq_eq_false_iff_ne.2 he
        have e2 : (E != 0) = true := bne_iff_ne.2 he
        clear c0 c1 c2 hx hxr hg1
        go_wp2
        go_ret
        have h8 := Hrow.out
        rw [hst.out, HE.out] at h8
        exact ⟨ret_int h8, hB1.out, fun h => absurd (h8.trans h) he⟩
    · obtain rfl : k = n := by omega
      have fin := Lib.hid (show R = 0 by rw [← Hrow.out]; exact rows_end (by rw [Hl.out]; exact Nat.le_refl _) _)
      have hlast := Lib.hid (show UsedIs g (usedE st) from fun s => by
        have := Hua.out s
        rw [List.take_of_length_le (by rw [Hl.out]; exact Nat.le_refl _)] at this
        exact this)
      clear hx hxr
      go_wp2
      go_ret
      exact ⟨ret_int fin.out.symm, Hg.out, fun _ => ⟨g, Hta.out.m3, hlast.out⟩⟩
end Go.Proofs.YtcodhhabfacnjaaGreatDoor
