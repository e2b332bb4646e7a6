/- Of the proof of a statement: Lease. -/
import Derived.Deep.QuietTactic
import Derived.BigQuiet
import Derived.Test.YtcodhhabfacnjaaGreatDoorSChk
import Derived.Test.YtcodhhabfacnjaaGreatDoorSTabM
set_option linter.unusedVariables false
set_option linter.unusedSimpArgs false
/- The walk of lease: one lease against the tables. -/
namespace Go.Proofs.YtcodhhabfacnjaaGreatDoor
open Go.RowKit
def jobG (l : List JobD) (s : ByteArray) : Option Value := (jobOf l s).map fun j => .agg (jobV j).toArray
def nodeG (l : List NodeD) (s : ByteArray) : Option Value := (nodeOf l s).map fun n => .agg (nodeV n).toArray
/-- The three tables, behind one pointer. -/
structure TabsAt (w : World) (T b1 b2 b3 n1 n2 n3 : Nat) (g1 g2 g3 : ByteArray → Option Value) : Prop where
  t : Blk w T 108 #[.map (some b1), .map (some b2), .map (some b3)]
  m1 : MapIs w b1 n1 g1
  m2 : MapIs w b2 n2 g2
  m3 : MapIs w b3 n3 g3
theorem zeroJob (w : World) : (zeroValue 39).run Tryz.prog w = .ok (.agg #[.string ⟨#[]⟩, .int .i64 0, .int .i64 0, .int .i64 0, .string ⟨#[]⟩]) w := by kernel_rfl
theorem zeroNode (w : World) : (zeroValue 43).run Tryz.prog w = .ok (.agg #[.string ⟨#[]⟩, .int .i64 0, .string ⟨#[]⟩]) w := by kernel_rfl
theorem zeroInt (w : World) : (zeroValue 3).run Tryz.prog w = .ok (.int .i64 0) w := by kernel_rfl
/-- What is looked up, spelled out. -/
theorem jobG_look (l : List JobD) (s : ByteArray) : ∃ (j : JobD), (jobG l s).getD (.agg #[.string ⟨#[]⟩, .int .i64 0, .int .i64 0, .int .i64 0, .string ⟨#[]⟩]) = .agg #[.string j.name, .int .i64 j.prio, .int .i64 j.need, .int .i64 j.tries, .string j.tag] ∧ (jobG l s).isSome = (jobOf l s).isSome ∧ (∀ x, jobOf l s = some x → x = j) := by
  unfold jobG
  cases h : jobOf l s with
  | none => exact ⟨⟨⟨#[]⟩, 0, 0, 0, ⟨#[]⟩⟩, rfl, rfl, fun x e => by cases e⟩
  | some j => exact ⟨j, rfl, rfl, fun x e => by injection e with e; exact e.symm⟩
theorem nodeG_look (l : List NodeD) (s : ByteArray) : ∃ (n : NodeD), (nodeG l s).getD (.agg #[.string ⟨#[]⟩, .int .i64 0, .string ⟨#[]⟩]) = .agg #[.string n.name, .int .i64 n.room, .string n.zone] ∧ (nodeG l s).isSome = (nodeOf l s).isSome := by
  unfold nodeG
  cases h : nodeOf l s with
  | none => exact ⟨⟨⟨#[]⟩, 0, ⟨#[]⟩⟩, rfl, rfl⟩
  | some n => exact ⟨n, rfl, rfl⟩
/-- The table of what is used says U. -/
def UsedIs (g : ByteArray → Option Value) (U : ByteArray → Int) : Prop := ∀ s, (g s).getD (.int .i64 0) = .int .i64 (U s)
def LeasePost (st : StateD) (l : LeaseD) (b3 n3 : Nat) (U : ByteArray → Int) (w : World) (e : Ending) (w' : World) : Prop :=
  e = .returned (.int .i64 (leaseE st l)) ∧ w.grownBy w' (some b3) ∧ (leaseE st l = 0 → ∃ g, MapIs w' b3 (n3 + 1) g ∧ UsedIs g (fun s => U s + needOf st l s))
theorem LeasePost.six {st : StateD} {l : LeaseD} {b3 n3 : Nat} {U : ByteArray → Int} {w w' : World} (h : leaseE st l = 6) (hb : Below w.heap.size w w') : LeasePost st l b3 n3 U w (.returned (.int .i64 6)) w' :=
  ⟨by rw [h], bes_below (World.grownBy.refl w _) hb, fun e => by rw [h] at e; cases e⟩
set_option maxRecDepth 100000 in
set_option maxHeartbeats 2000000 in
theorem lease_any (st : StateD) (l : LeaseD) (w : World) (T b1 b2 b3 n1 n2 n3 : Nat) (g3 : ByteArray → Option Value) (U : ByteArray → Int) (h1 : l.job.size ≤ maxLen) (h2 : l.node.size ≤ maxLen) (hn3 : n3 ≤ 1000)
    (hneed : ∀ j ∈ st.jobs, 0 ≤ j.need ∧ j.need ≤ 1000000) (hU : UsedIs g3 U) (hU0 : ∀ s, 0 ≤ U s ∧ U s ≤ 1000000000)
    (ht : TabsAt w T b1 b2 b3 n1 n2 n3 (jobG st.jobs) (nodeG st.nodes) g3) :
    Calls Tryz.prog 57 #[.pointer (some ⟨T, 0, none⟩), .agg (leaseV l).toArray] w (LeasePost st l b3 n3 U w) := by
  have hfin6 := Lib.hid (fun (h : leaseE st l = 6) w' => LeasePost.six (b3 := b3) (n3 := n3) (U := U) (w := w) (w' := w') h)
  obtain ⟨j, hj1, hj2, hj3⟩ := jobG_look st.jobs l.job
  obtain ⟨n, hn1, hn2⟩ := nodeG_look st.nodes l.node
  have hE : leaseE st l = if (jobOf st.jobs l.job).isSome && (nodeOf st.nodes l.node).isSome then (if ranged l.till 0 1099511627776 then 0 else 1) else 6 := rfl
  have HE := Lib.hid hE
  have hN : ∀ s, (jobOf st.jobs l.job).isSome = true → needOf st l s = if l.node = s then j.need else 0 := by
    intro s hs
    unfold needOf
    cases hx : jobOf st.jobs l.job with
    | none => rw [hx] at hs; cases hs
    | some x => rw [hj3 x hx]
  have hjn : (jobOf st.jobs l.job).isSome = true → 0 ≤ j.need ∧ j.need ≤ 1000000 := by
    intro hs
    cases hx : jobOf st.jobs l.job with
    | none => rw [hx] at hs; cases hs
    | some x => rw [← hj3 x hx]; exact hneed x (List.mem_of_find?_eq_some hx)
  have HN := Lib.hid hN
  have Hjn := Lib.hid hjn
  generalize (jobOf st.jobs l.job).isSome = bj at hj2 HE HN Hjn
  generalize (nodeOf st.nodes l.node).isSome = bn at hn2 HE
  clear hE hj3 hneed hN hjn
  have hnd : l.node = l.node := rfl
  obtain ⟨L, hL⟩ : ∃ L, L = l := ⟨_, rfl⟩
  have HL := Lib.hid hL
  clear hL
  obtain ⟨job, node, till⟩ := l
  unfold leaseV
  simp only at h1 h2 hj1 hj2 hn1 hn2 ⊢
  obtain ⟨jn, jp, jd, jt, jg⟩ := j
  obtain ⟨nn, nr, nz⟩ := n
  simp only at hj1 hn1 Hjn HN
  have hTl := ht.t.lt
  have z0 : w.cell? ⟨T, 0, none⟩ = some (.map (some b1)) := ht.t.cell 0
  have z1 : w.cell? ⟨T, 1, none⟩ = some (.map (some b2)) := ht.t.cell 1
  have z2 : w.cell? ⟨T, 2, none⟩ = some (.map (some b3)) := ht.t.cell 2
  have hb0 := (Below.refl w.heap.size w).alloc (Nat.le_refl _) (.cells #[.string job, .string node, .int .i64 till] 47)
  have hb1 := hb0.alloc hb0.size (.cells #[.string jn, .int .i64 jp, .int .i64 jd, .int .i64 jt, .string jg] 39)
  have hb2 := hb1.alloc hb1.size (.cells #[.string nn, .int .i64 nr, .string nz] 43)
  have M1 : ∀ W, Below w.heap.size w W → (Instr.lookup 104 (.map (some b1)) (.string job) true).run Tryz.prog W = .ok (.tuple #[.agg #[.string jn, .int .i64 jp, .int .i64 jd, .int .i64 jt, .string jg], .bool bj]) W := fun W hW => by
    rw [(ht.m1.below hW ht.m1.lt).look_ok Tryz.underlying104 (zeroJob W) job h1, hj1, hj2]
  have M2 : ∀ W, Below w.heap.size w W → (Instr.lookup 105 (.map (some b2)) (.string node) true).run Tryz.prog W = .ok (.tuple #[.agg #[.string nn, .int .i64 nr, .string nz], .bool bn]) W := fun W hW => by
    rw [(ht.m2.below hW ht.m2.lt).look_ok Tryz.underlying105 (zeroNode W) node h2, hn1, hn2]
  have r0 := M1 _ (hb0.drew)
  have r1 := fun o => M1 _ ((hb0.alloc hb0.size o).drew)
  have r2 := M2 _ (hb1.drew.drew)
  have r3 := fun o => M2 _ ((hb1.alloc hb1.size o).drew.drew)
  have h3 := (ht.m3.below hb2.drew.drew.drew ht.m3.lt).look Tryz.underlying106 (zeroInt _) node h2
  rw [hU node] at h3
  obtain ⟨w5, hput, hm5, hg5⟩ := (ht.m3.below hb2.drew.drew.drew ht.m3.lt).put Tryz.underlying106 (by unfold maxLen; omega) node h2 (.int .i64 (U node + jd))
  have hu0 := hU0 node
  have HG5 := Lib.hid hg5
  have HM5 := Lib.hid hm5
  have HUm := Lib.hid hU
  have HB2 := Lib.hid hb2.drew.drew
  have HB3 := Lib.hid hb2.drew.drew.drew
  have x1 : ((w.alloc (.cells #[.string job, .string node, .int .i64 till] 47)).alloc (.cells #[.string jn, .int .i64 jp, .int .i64 jd, .int .i64 jt, .string jg] 39)).cell? ⟨w.heap.size, 1, none⟩ = some (.string node) := by simp [go_sem]
  have p1 := (hb1.cell (p := ⟨T, 1, none⟩) hTl).trans z1
  have p2 := fun o => ((hb1.alloc hb1.size o).cell (p := ⟨T, 1, none⟩) hTl).trans z1
  have p3 := fun (o : Obj) => (((Below.refl _ _).alloc (Nat.le_refl _) o).cell (p := ⟨w.heap.size, 1, none⟩) (show w.heap.size < ((w.alloc (.cells #[.string job, .string node, .int .i64 till] 47)).alloc (.cells #[.string jn, .int .i64 jp, .int .i64 jd, .int .i64 jt, .string jg] 39)).heap.size by simp; omega)).trans x1
  have q1 := (hb2.cell (p := ⟨T, 2, none⟩) hTl).trans z2
  have x2 : (((w.alloc (.cells #[.string job, .string node, .int .i64 till] 47)).alloc (.cells #[.string jn, .int .i64 jp, .int .i64 jd, .int .i64 jt, .string jg] 39)).alloc (.cells #[.string nn, .int .i64 nr, .string nz] 43)).cell? ⟨w.heap.size, 2, none⟩ = some (.int .i64 till) := by simp [go_sem]
  have x3 : (((w.alloc (.cells #[.string job, .string node, .int .i64 till] 47)).alloc (.cells #[.string jn, .int .i64 jp, .int .i64 jd, .int .i64 jt, .string jg] 39)).alloc (.cells #[.string nn, .int .i64 nr, .string nz] 43)).cell? ⟨w.heap.size + 1, 2, none⟩ = some (.int .i64 jd) := by simp [go_sem]
  have hb3 := ht.m3.lt
  have hx2 : w5.cell? ⟨w.heap.size, 2, none⟩ = some (.int .i64 till) := hg5.cell x2 (by simp; omega)
  have HX2 := Lib.hid hx2
  clear M1 M2 ht hb0 hb1 hb2 hg5 hm5 hU hU0 hx2 x2
  go_enter Tryz.func57, Tryz.ntmps57
  go_wp2
  go_region
  clear r0 r1
  go_wp2
  go_region
  clear r2 r3 p1 p2 p3 x1
  cases bj
  · have hE6 := Lib.hid (hfin6.out (by rw [HE.out]; rfl))
    clear hput h3
    go_wp2
    go_ret
    exact hE6.out _ HB2.out
  cases bn
  · have hE6 := Lib.hid (hfin6.out (by rw [HE.out]; rfl))
    clear hput h3
    go_wp2
    go_ret
    exact hE6.out _ HB2.out
  have hjd := Hjn.out rfl
  go_wp2
  go_region
  clear hput h3 q1 x3
  have hx2 := HX2.out
  have hend := Lib.hid (show w.grownBy w5 (some b3) ∧ ∃ g, MapIs w5 b3 (n3 + 1) g ∧ UsedIs g (fun s => U s + needOf st ⟨job, node, till⟩ s) from
    ⟨(bes_below (World.grownBy.refl w _) HB3.out).trans HG5.out, _, HM5.out, fun s => by
      show _ = Value.int .i64 (U s + needOf st ⟨job, node, till⟩ s)
      rw [HN.out s trivial]
      by_cases hs : s = node
      · subst hs
        rw [if_pos rfl, if_pos rfl]; rfl
      · rw [if_neg hs, if_neg (fun e => hs e.symm), HUm.out s, Int.add_zero]⟩)
  clear HG5 HM5 HN HUm HB3
  go_wp2_with fail
  refine Calls.mono (swithin_any _ _ _ _) ?_
  rintro e w6 ⟨rfl, rfl⟩
  cases hr : ranged till 0 1099511627776
  · go_wp2
    go_ret
    exact ⟨ret_int (by rw [HE.out, hr]; rfl), hend.out.1, fun _ => hend.out.2⟩
  · go_wp2
    go_ret
    exact ⟨ret_int (by rw [HE.out, hr]; rfl), hend.out.1, fun _ => hend.out.2⟩
end Go.Proofs.YtcodhhabfacnjaaGreatDoor
