/- Of the proof of a statement: Lease, RowsL. -/
import Derived.Deep.QuietTactic
import Derived.BigQuiet
import Derived.Lib.QuietBelow
import Derived.Test.YtjgnnobccecpeaaGreatDoorRPlDec
import Derived.Test.YtjgnnobccecpeaaGreatDoorRPlRx
import Derived.Test.YtjgnnobccecpeaaGreatDoorRSum
set_option linter.unusedVariables false
set_option linter.unusedSimpArgs false
set_option maxRecDepth 100000
set_option maxHeartbeats 8000000
/- The walk of lease: one lease against the tables. -/
namespace Go.Proofs.YtjgnnobccecpeaaGreatDoor
open Go.Lib (hid)
open Go.RowKit
def jobG (l : List JobD) (s : ByteArray) : Option Value := (jobOf l s).map fun j => .agg (jobV j).toArray
def nodeG (l : List NodeD) (s : ByteArray) : Option Value := (nodeOf l s).map fun n => .agg (nodeV n).toArray
structure TabsAt (w : World) (T b1 b2 b3 n1 n2 n3 : Nat) (g1 g2 g3 : ByteArray → Option Value) : Prop where
 t : Blk w T 246 #[.map (some b1), .map (some b2), .map (some b3)]
 m1 : MapIs w b1 n1 g1
 m2 : MapIs w b2 n2 g2
 m3 : MapIs w b3 n3 g3
theorem zeroJob (w : World) : (zeroValue 38).run Tryz.prog w = .ok (.agg #[.string ⟨#[]⟩, .int .i64 0, .int .i64 0, .int .i64 0, .string ⟨#[]⟩]) w := by kernel_rfl
theorem zeroNode (w : World) : (zeroValue 40).run Tryz.prog w = .ok (.agg #[.string ⟨#[]⟩, .int .i64 0, .string ⟨#[]⟩]) w := by kernel_rfl
theorem zeroInt (w : World) : (zeroValue 3).run Tryz.prog w = .ok (.int .i64 0) w := by kernel_rfl
theorem jobG_look (l : List JobD) (s : ByteArray) : ∃ (j : JobD), (jobG l s).getD (.agg #[.string ⟨#[]⟩, .int .i64 0, .int .i64 0, .int .i64 0, .string ⟨#[]⟩]) = .agg #[.string j.name, .int .i64 j.prio, .int .i64 j.need, .int .i64 j.tries, .string j.tag] ∧ (jobG l s).isSome = (jobOf l s).isSome ∧ (∀ x, jobOf l s = some x → x = j) := by
 unfold jobG
 cases h : jobOf l s with
 | none => exact ⟨⟨⟨#[]⟩, 0, 0, 0, ⟨#[]⟩⟩, rfl, rfl, fun x e => by cases e⟩
 | some j => exact ⟨j, rfl, rfl, fun x e => by injection e with e; exact e.symm⟩
theorem nodeG_look (l : List NodeD) (s : ByteArray) : ∃ (n : NodeD), (nodeG l s).getD (.agg #[.string ⟨#[]⟩, .int .i64 0, .string ⟨#[]⟩]) = .agg #[.string n.name, .int .i64 n.room, .string n.zone] ∧ (nodeG l s).isSome = (nodeOf l s).isSome := by
 unfold nodeG
 cases h : nodeOf l s with
 | none => exact ⟨⟨⟨#[]⟩, 0, ⟨#[]⟩⟩, rfl, rfl⟩
 | some n => exact ⟨n, rfl, rfl⟩
def UsedIs (g : ByteArray → Option Value) (U : ByteArray → Int) : Prop := ∀ s, (g s).getD (.int .i64 0) = .int .i64 (U s)
def LeasePost (st : StateD) (l : LeaseD) (b3 n3 : Nat) (U : ByteArray → Int) (w : World) (e : Ending) (w' : World) : Prop :=
 e = .returned (.int .i64 (leaseE st l)) ∧ w.grownBy w' (some b3) ∧ (leaseE st l = 0 → ∃ g, MapIs w' b3 (n3 + 1) g ∧ UsedIs g (fun s => U s + needOf st l s))
theorem LeasePost.six {st : StateD} {l : LeaseD} {b3 n3 : Nat} {U : ByteArray → Int} {w w' : World} (h : leaseE st l = 6) (hb : Below w.heap.size w w') : LeasePost st l b3 n3 U w (.returned (.int .i64 6)) w' :=
 ⟨by rw [h], bes_below (World.grownBy.refl w _) hb, fun e => by rw [h] at e; cases e⟩
theorem lease_any (st : StateD) (l : LeaseD) (w : World) (T b1 b2 b3 n1 n2 n3 : Nat) (g3 : ByteArray → Option Value) (U : ByteArray → Int) (h1 : l.job.size ≤ maxLen) (h2 : l.node.size ≤ maxLen) (hn3 : n3 ≤ 1000)
 (hneed : ∀ j ∈ st.jobs, 0 ≤ j.need ∧ j.need ≤ 1000000) (hU : UsedIs g3 U) (hU0 : ∀ s, 0 ≤ U s ∧ U s ≤ 1000000000)
 (ht : TabsAt w T b1 b2 b3 n1 n2 n3 (jobG st.jobs) (nodeG st.nodes) g3) :
 Calls Tryz.prog 181 #[.pointer (some ⟨T, 0, none⟩), .agg (leaseV l).toArray] w (LeasePost st l b3 n3 U w) := by
 have hfin6 := hid (fun (h : leaseE st l = 6) w' => LeasePost.six (b3 := b3) (n3 := n3) (U := U) (w := w) (w' := w') h)
 obtain ⟨j, hj1, hj2, hj3⟩ := jobG_look st.jobs l.job
 obtain ⟨n, hn1, hn2⟩ := nodeG_look st.nodes l.node
 have hE : leaseE st l = if (jobOf st.jobs l.job).isSome && (nodeOf st.nodes l.node).isSome then (if ranged l.till 0 1099511627776 then 0 else 1) else 6 := rfl
 have HE := hid hE
 have hN : ∀ s, (jobOf st.jobs l.job).isSome = true → needOf st l s = if l.node = s then j.need else 0 := by
  intro s hs
  unfold needOf
  cases hx : jobOf st.jobs l.job with
  | none => rw [hx] at hs; cases hs
  | some x => rw [hj3 x hx]
 have hjn : (jobOf st.jobs l.job).isSome = true → 0 ≤ j.need ∧ j.need ≤ 1000000 := by
  intro hs
  cases hx : jobOf st.jobs l.job with
  | none => rw [hx] at hs; cases hs
  | some x => rw [← hj3 x hx]; exact hneed x (List.mem_of_find?_eq_some hx)
 have HN := hid hN
 have Hjn := hid hjn
 generalize (jobOf st.jobs l.job).isSome = bj at hj2 HE HN Hjn
 generalize (nodeOf st.nodes l.node).isSome = bn at hn2 HE
 clear hE hj3 hneed hN hjn
 have hnd : l.node = l.node := rfl
 obtain ⟨L, hL⟩ : ∃ L, L = l := ⟨_, rfl⟩
 have HL := hid hL
 clear hL
 obtain ⟨job, node, till⟩ := l
 unfold leaseV
 simp only at h1 h2 hj1 hj2 hn1 hn2 ⊢
 obtain ⟨jn, jp, jd, jt, jg⟩ := j
 obtain ⟨nn, nr, nz⟩ := n
 simp only at hj1 hn1 Hjn HN
 have hTl := ht.t.lt
 have z0 : w.cell? ⟨T, 0, none⟩ = some (.map (some b1)) := ht.t.cell 0
 have z1 : w.cell? ⟨T, 1, none⟩ = some (.map (some b2)) := ht.t.cell 1
 have z2 : w.cell? ⟨T, 2, none⟩ = some (.map (some b3)) := ht.t.cell 2
 have hb0 := (Below.refl w.heap.size w).alloc (Nat.le_refl _) (.cells #[.string job, .string node, .int .i64 till] 42)
 have hb1 := hb0.alloc hb0.size (.cells #[.string jn, .int .i64 jp, .int .i64 jd, .int .i64 jt, .string jg] 38)
 have hb2 := hb1.alloc hb1.size (.cells #[.string nn, .int .i64 nr, .string nz] 40)
 have M1 : ∀ W, Below w.heap.size w W → (Instr.lookup 182 (.map (some b1)) (.string job) true).run Tryz.prog W = .ok (.tuple #[.agg #[.string jn, .int .i64 jp, .int .i64 jd, .int .i64 jt, .string jg], .bool bj]) W := fun W hW => by
  rw [(ht.m1.below hW ht.m1.lt).look_ok Tryz.underlying182 (zeroJob W) job h1, hj1, hj2]
 have M2 : ∀ W, Below w.heap.size w W → (Instr.lookup 190 (.map (some b2)) (.string node) true).run Tryz.prog W = .ok (.tuple #[.agg #[.string nn, .int .i64 nr, .string nz], .bool bn]) W := fun W hW => by
  rw [(ht.m2.below hW ht.m2.lt).look_ok Tryz.underlying190 (zeroNode W) node h2, hn1, hn2]
 have r0 := M1 _ (hb0.drew)
 have r1 := fun o => M1 _ ((hb0.alloc hb0.size o).drew)
 have r2 := M2 _ (hb1.drew.drew)
 have r3 := fun o => M2 _ ((hb1.alloc hb1.size o).drew.drew)
 have h3 := (ht.m3.below hb2.drew.drew.drew ht.m3.lt).look Tryz.underlying244 (zeroInt _) node h2
 rw [hU node] at h3
 obtain ⟨w5, hput, hm5, hg5⟩ := (ht.m3.below hb2.drew.drew.drew ht.m3.lt).put Tryz.underlying244 (by unfold maxLen; omega) node h2 (.int .i64 (U node + jd))
 have hu0 := hU0 node
 have HG5 := hid hg5
 have HM5 := hid hm5
 have HUm := hid hU
 have HB2 := hid hb2.drew.drew
 have HB3 := hid hb2.drew.drew.drew
 have x1 : ((w.alloc (.cells #[.string job, .string node, .int .i64 till] 42)).alloc (.cells #[.string jn, .int .i64 jp, .int .i64 jd, .int .i64 jt, .string jg] 38)).cell? ⟨w.heap.size, 1, none⟩ = some (.string node) := by simp [go_sem]
 have p1 := (hb1.cell (p := ⟨T, 1, none⟩) hTl).trans z1
 have p2 := fun o => ((hb1.alloc hb1.size o).cell (p := ⟨T, 1, none⟩) hTl).trans z1
 have p3 := fun (o : Obj) => (((Below.refl _ _).alloc (Nat.le_refl _) o).cell (p := ⟨w.heap.size, 1, none⟩) (show w.heap.size < ((w.alloc (.cells #[.string job, .string node, .int .i64 till] 42)).alloc (.cells #[.string jn, .int .i64 jp, .int .i64 jd, .int .i64 jt, .string jg] 38)).heap.size by simp; omega)).trans x1
 have q1 := (hb2.cell (p := ⟨T, 2, none⟩) hTl).trans z2
 have x2 : (((w.alloc (.cells #[.string job, .string node, .int .i64 till] 42)).alloc (.cells #[.string jn, .int .i64 jp, .int .i64 jd, .int .i64 jt, .string jg] 38)).alloc (.cells #[.string nn, .int .i64 nr, .string nz] 40)).cell? ⟨w.heap.size, 2, none⟩ = some (.int .i64 till) := by simp [go_sem]
 have x3 : (((w.alloc (.cells #[.string job, .string node, .int .i64 till] 42)).alloc (.cells #[.string jn, .int .i64 jp, .int .i64 jd, .int .i64 jt, .string jg] 38)).alloc (.cells #[.string nn, .int .i64 nr, .string nz] 40)).cell? ⟨w.heap.size + 1, 2, none⟩ = some (.int .i64 jd) := by simp [go_sem]
 have hb3 := ht.m3.lt
 have hx2 : w5.cell? ⟨w.heap.size, 2, none⟩ = some (.int .i64 till) := hg5.cell x2 (by simp; omega)
 have HX2 := hid hx2
 clear M1 M2 ht hb0 hb1 hb2 hg5 hm5 hU hU0 hx2 x2
 go_enter Tryz.func181, Tryz.ntmps181
 go_wp2
 go_region
 clear r0 r1
 go_wp2
 go_region
 clear r2 r3 p1 p2 p3 x1
 cases bj
 · have hE6 := hid (hfin6.out (by rw [HE.out]; rfl))
   clear hput h3
   go_wp2
   go_ret
   exact hE6.out _ HB2.out
 cases bn
 · have hE6 := hid (hfin6.out (by rw [HE.out]; rfl))
   clear hput h3
   go_wp2
   go_ret
   exact hE6.out _ HB2.out
 have hjd := Hjn.out rfl
 go_wp2
 go_region
 clear hput h3 q1 x3
 have hx2 := HX2.out
 have hend := hid (show w.grownBy w5 (some b3) ∧ ∃ g, MapIs w5 b3 (n3 + 1) g ∧ UsedIs g (fun s => U s + needOf st ⟨job, node, till⟩ s) from
  ⟨(bes_below (World.grownBy.refl w _) HB3.out).trans HG5.out, _, HM5.out, fun s => by
   show _ = Value.int .i64 (U s + needOf st ⟨job, node, till⟩ s)
   rw [HN.out s trivial]
   by_cases hs : s = node
   · subst hs
     rw [if_pos rfl, if_pos rfl]; rfl
   · rw [if_neg hs, if_neg (fun e => hs e.symm), HUm.out s, Int.add_zero]⟩)
 clear HG5 HM5 HN HUm HB3
 go_wp2_with fail
 refine Calls.mono (swithin_any _ _ _ _) ?_
 rintro e w6 ⟨rfl, rfl⟩
 cases hr : ranged till 0 1099511627776
 · go_wp2
   go_ret
   exact ⟨ret_int (by rw [HE.out, hr]; rfl), hend.out.1, fun _ => hend.out.2⟩
 · go_wp2
   go_ret
   exact ⟨ret_int (by rw [HE.out, hr]; rfl), hend.out.1, fun _ => hend.out.2⟩
end Go.Proofs.YtjgnnobccecpeaaGreatDoor
/- The walk of Rows at leases, against the tables. -/
namespace Go.Proofs.YtjgnnobccecpeaaGreatDoor
open Go.Lib (hid)
open Go.RowKit
theorem leaseKey_any (job node : ByteArray) (till : Int) (w : World) : Calls Tryz.prog 50 #[.agg #[.string job, .string node, .int .i64 till]] w fun e w' => e = .returned (.string job) ∧ Below w.heap.size w w' := by
 have HB := hid ((Below.refl w.heap.size w).alloc (Nat.le_refl _) (.cells #[.string job, .string node, .int .i64 till] 42))
 go_enter Tryz.func50, Tryz.ntmps50
 go_wp2
 go_ret
 exact ⟨rfl, HB.out⟩
def LeasesOk (xs : List LeaseD) : Prop := ∀ x ∈ xs, x.job.size ≤ 9223372036854775807 ∧ x.node.size ≤ 9223372036854775807
section
variable {w w' : World} {B sz n g : Nat} {A : Option Addr} {xs : List Value}
theorem SlAt.but (h : SlAt w B sz A n xs) (hg : w.grownBy w' (some g)) (hB : B ≤ g) : SlAt w' B sz A n xs :=
 ⟨h.len, fun hn => by
  obtain ⟨b, off, e, hb, hr⟩ := h.at_ hn
  exact ⟨b, off, e, hb, fun j u hu => hg.cell (hr j u hu) (by simp; omega)⟩⟩
end
section
variable {w w' : World} {T b1 b2 b3 n1 n2 n3 m : Nat} {g1 g2 g3 g : ByteArray → Option Value}
theorem TabsAt.below (h : TabsAt w T b1 b2 b3 n1 n2 n3 g1 g2 g3) (hb : Below w.heap.size w w') : TabsAt w' T b1 b2 b3 n1 n2 n3 g1 g2 g3 :=
 ⟨h.t.below hb h.t.lt, h.m1.below hb h.m1.lt, h.m2.below hb h.m2.lt, h.m3.below hb h.m3.lt⟩
theorem TabsAt.used (h : TabsAt w T b1 b2 b3 n1 n2 n3 g1 g2 g3) (hg : w.grownBy w' (some b3)) (h1 : b1 ≠ b3) (h2 : b2 ≠ b3) (h3 : T ≠ b3) (hm : MapIs w' b3 m g) : TabsAt w' T b1 b2 b3 n1 n2 m g1 g2 g :=
 ⟨(hg.block T h.t.lt (by simp [h3])).trans h.t, h.m1.but hg h1, h.m2.but hg h2, hm⟩
end
def RLInv (st : StateD) (n : Nat) (R : Int) (w : World) (T b1 b2 b3 n1 n2 : Nat) (i : Value) (wr : World) : Prop :=
 ∃ (k : Nat) (g3 : ByteArray → Option Value), k ≤ n ∧ i = .int .i64 k ∧ rowsFrom (leaseE st) LeaseD.job (prevK LeaseD.job st.leases k) (st.leases.drop k) = R ∧ w.grownBy wr (some b3) ∧
  TabsAt wr T b1 b2 b3 n1 n2 k (jobG st.jobs) (nodeG st.nodes) g3 ∧ UsedIs g3 (fun s => usedL st s (st.leases.take k))
def RLPost (st : StateD) (n : Nat) (R : Int) (b3 : Nat) (w : World) (e : Ending) (w' : World) : Prop :=
 e = .returned (.int .i64 R) ∧ w.grownBy w' (some b3) ∧ (R = 0 → ∃ g, MapIs w' b3 n g ∧ UsedIs g (usedE st))
theorem rowsLease_any (st : StateD) (A : Option Addr) (n c : Nat) (w : World) (T b1 b2 b3 n1 n2 : Nat) (g3 : ByteArray → Option Value) (hx : SlAt w b3 3 A n (rowsV leaseV st.leases)) (hl : st.leases.length = n) (hn : n ≤ 40) (hok : LeasesOk st.leases)
 (hneed : NeedsOk st) (h1 : b1 ≠ b3) (h2 : b2 ≠ b3) (h3 : T ≠ b3) (hu : UsedIs g3 (fun _ => 0)) (ht : TabsAt w T b1 b2 b3 n1 n2 0 (jobG st.jobs) (nodeG st.nodes) g3) :
 Calls Tryz.prog 71 #[.slice A n c, .func (.func 50) #[] #[], .func (.func 181) #[.pointer (some ⟨T, 0, none⟩)] #[]] w (RLPost st n (rowsE (leaseE st) LeaseD.job st.leases) b3 w) := by
 obtain ⟨R, hR⟩ : ∃ R, rowsE (leaseE st) LeaseD.job st.leases = R := ⟨_, rfl⟩
 rw [hR]
 have HR := hid hR
 have Hl := hid hl
 have Hok := hid hok
 have Hneed := hid hneed
 have H0 := hid (And.intro hu ht)
 clear hl hR hok hneed hu ht
 go_enter Tryz.func71, Tryz.ntmps71
 go_wp2
 go_loopw [6, 7, 8, 9, 12, 19, 28, 35] (fun _ _ _ _ i _ _ _ wr => RLInv st n R w T b1 b2 b3 n1 n2 i wr) (fun _ _ _ _ i _ _ _ _ => n - (intOf i).toNat)
 case atStart => exact ⟨0, g3, Nat.zero_le _, rfl, by rw [← HR.out]; rfl, World.grownBy.refl w _, H0.out.2, by rw [List.take_zero]; exact H0.out.1⟩
 case round =>
  obtain ⟨k, g, hk, rfl, hrow, hg, hta, hua⟩ := hrel
  have Hrow := hid hrow
  have Hg := hid hg
  have Hta := hid hta
  have Hua := hid hua
  have hsz := hg.size
  have hb3l := hta.m3.lt
  have hxr := hx.but hg (Nat.le_refl _)
  clear hrow hta hua hg
  by_cases hlt : k < n
  · obtain ⟨x, hf⟩ : ∃ x, st.leases[k]? = some x := ⟨_, List.getElem?_eq_getElem (by rw [Hl.out]; exact hlt)⟩
    obtain ⟨b, off, rfl, hbB, hc⟩ := hxr.rec_ leaseV_len Hl.out hf
    have hso := hid (Hok.out x (List.mem_of_getElem? hf))
    have hstep := hid (fun s => usedL_step st s hf)
    have hbnd := hid (fun s => usedL_bound Hneed.out s (st.leases.take k))
    have hbl : (st.leases.take k).length ≤ 40 := by rw [List.length_take]; omega
    have Hf := hid hf
    obtain ⟨E, hE⟩ : ∃ E, leaseE st x = E := ⟨_, rfl⟩
    have HE := hid hE
    obtain ⟨job, node, till⟩ := x
    obtain ⟨c0, c1, c2⟩ := rc3 hc
    clear hc hf hE
    have hlb : b < wr.heap.size := by omega
    have hA0 := (Below.refl wr.heap.size wr).alloc (Nat.le_refl _) (.cells #[.string job, .string node, .int .i64 till] 42)
    have HA0 := hid hA0
    have hpre := hid (show ∀ s, 0 ≤ usedL st s (st.leases.take k) ∧ usedL st s (st.leases.take k) ≤ 1000000000 from fun s => by have := hbnd.out s; omega)
    have hcon := hid (lease_any st ⟨job, node, till⟩ _ T b1 b2 b3 n1 n2 k g _ hso.out.1 hso.out.2 (by omega) Hneed.out Hua.out hpre.out (Hta.out.below hA0))
    clear hA0
    go_wp2_with fail
    refine Calls.mono hcon.out ?_
    rintro e w1 ⟨rfl, hg1, hz1⟩
    rw [HE.out]
    rw [HE.out] at hz1
    have hz := hid hz1
    have hG1 := hid hg1
    have hGa := hid ((bes_below (World.grownBy.refl wr (some b3)) HA0.out).trans hg1)
    have hB1 := hid (Hg.out.trans hGa.out)
    have hsz1 := hg1.size
    have hgl : wr.heap.size < w1.heap.size := by simp at hsz1; omega
    clear hcon hz1 hsz1
    by_cases he : E = 0
    · subst he
      have l0 : ∀ d os, (Sort.grow (redrawn w1 d) os).cell? ⟨wr.heap.size, 0, none⟩ = some (.string job) := fun d os => cell_regrown (hg1.cell (by simp [go_sem]) (by simp; omega)) d os
      have l1 : ∀ d os, (Sort.grow (redrawn w1 d) os).cell? ⟨wr.heap.size, 1, none⟩ = some (.string node) := fun d os => cell_regrown (hg1.cell (by simp [go_sem]) (by simp; omega)) d os
      have l2 : ∀ d os, (Sort.grow (redrawn w1 d) os).cell? ⟨wr.heap.size, 2, none⟩ = some (.int .i64 till) := fun d os => cell_regrown (hg1.cell (by simp [go_sem]) (by simp; omega)) d os
      obtain ⟨g', hm', hu'⟩ := hz.out rfl
      have hnext := hid (And.intro (Hta.out.used hGa.out h1 h2 h3 hm') (show UsedIs g' (fun s => usedL st s (st.leases.take (k + 1))) from fun s => (hu' s).trans (congrArg (Value.int .i64) (hstep.out s).symm)))
      clear hm' hu'
      by_cases hk0 : k = 0
      · subst hk0
        have hst := hid (rows_next (key := LeaseD.job) Hf.out HE.out (.inl rfl))
        clear c0 c1 c2 hx hxr hg1
        go_wp2_with fail
        refine wp_region_quiet_below (by kernel_rfl) (by kernel_rfl) ?_
        repeat (go_big_quiet_step (fail))
        refine wpQuiet_nil ?_
        intro _ hw'
        obtain ⟨⟨nq, osq⟩, hw''⟩ := hw'
        subst hw''
        have hb2 := hid (below_regrown w1 nq osq)
        clear l0 l1 l2
        dsimp only
        generalize Sort.grow (redrawn w1 nq) osq = w2 at hb2 ⊢
        go_wp2
        go_roundw
        case rel => exact ⟨1, g', by omega, by go_num, by rw [← hst.out]; exact Hrow.out, bes_below hB1.out hb2.out, hnext.out.1.below hb2.out, hnext.out.2⟩
        case measure => simp [intOf]; omega
      · obtain ⟨y, hy⟩ : ∃ y, st.leases[k - 1]? = some y := ⟨_, List.getElem?_eq_getElem (by rw [Hl.out]; omega)⟩
        obtain ⟨b', off', hbo, hbB', hp⟩ := hxr.rec_ leaseV_len Hl.out hy
        obtain ⟨rfl, rfl⟩ : b = b' ∧ off = off' := by simpa using hbo
        have Hy := hid hy
        obtain ⟨job', node', till'⟩ := y
        obtain ⟨q0, q1, q2⟩ := rc3 hp
        have hbne : (some b : Option Nat) ≠ some b3 := by simp; omega
        have p0 : ∀ d os, (Sort.grow (redrawn w1 d) os).cell? ⟨b, off + (k - 1) * 3, none⟩ = some (.string job') := fun d os => cell_regrown (hGa.out.cell q0 hbne) d os
        have p1 : ∀ d os, (Sort.grow (redrawn w1 d) os).cell? ⟨b, off + (k - 1) * 3 + 1, none⟩ = some (.string node') := fun d os => cell_regrown (hGa.out.cell q1 hbne) d os
        have p2 : ∀ d os, (Sort.grow (redrawn w1 d) os).cell? ⟨b, off + (k - 1) * 3 + 2, none⟩ = some (.int .i64 till') := fun d os => cell_regrown (hGa.out.cell q2 hbne) d os
        clear q0 q1 q2 c0 c1 c2 hp hy hx hxr hg1 hbne
        have hkp : decide ((0 : Int) < (k : Int)) = true := decide_eq_true (by omega)
        have hkn : 0 < k := by omega
        have hlt2 := hid (less_total job'.toList job.toList)
        obtain ⟨B, hB⟩ : ∃ B, Op.bytesLess job'.toList job.toList = B := ⟨_, rfl⟩
        have HL := hid hB
        cases B
        · have e1 : (Op.bytesLess job.toList job'.toList || job.toList == job'.toList) = true := by rw [← hlt2.out, hB]; rfl
          have hst := hid (rows_order (key := LeaseD.job) Hf.out HE.out hk0 Hy.out HL.out)
          clear hB
          go_wp2_with fail
          refine wp_region_quiet_below (by kernel_rfl) (by kernel_rfl) ?_
          repeat (go_big_quiet_step ((go_at_call 50; exact Calls.regrown_of (leaseKey_any _ _ _ _))))
          refine wpQuiet_nil ?_
          intro _ hw'
          obtain ⟨⟨nq, osq⟩, hw''⟩ := hw'
          subst hw''
          have hb2 := hid (below_regrown w1 nq osq)
          clear l0 l1 l2 p0 p1 p2
          dsimp only
          generalize Sort.grow (redrawn w1 nq) osq = w2 at hb2 ⊢
          go_wp2
          go_ret
          have h8 := Hrow.out
          rw [hst.out] at h8
          exact ⟨ret_int h8, bes_below hB1.out hb2.out, fun h => by omega⟩
        · have e1 : (Op.bytesLess job.toList job'.toList || job.toList == job'.toList) = false := by rw [← hlt2.out, hB]; rfl
          have hst := hid (rows_next (key := LeaseD.job) Hf.out HE.out (.inr ⟨_, Hy.out, HL.out⟩))
          clear hB
          go_wp2_with fail
          refine wp_region_quiet_below (by kernel_rfl) (by kernel_rfl) ?_
          repeat (go_big_quiet_step ((go_at_call 50; exact Calls.regrown_of (leaseKey_any _ _ _ _))))
          refine wpQuiet_nil ?_
          intro _ hw'
          obtain ⟨⟨nq, osq⟩, hw''⟩ := hw'
          subst hw''
          have hb2 := hid (below_regrown w1 nq osq)
          clear l0 l1 l2 p0 p1 p2
          dsimp only
          generalize Sort.grow (redrawn w1 nq) osq = w2 at hb2 ⊢
          go_wp2
          go_roundw
          case rel => exact ⟨k + 1, g', by omega, by go_num, by rw [← hst.out]; exact Hrow.out, bes_below hB1.out hb2.out, hnext.out.1.below hb2.out, hnext.out.2⟩
          case measure => simp [intOf]; omega
    · have hst := hid (rows_err (E := leaseE st) (key := LeaseD.job) Hf.out (by rw [HE.out]; exact he))
      have e1 : (E == 0) = false := beq_eq_false_iff_ne.2 he
      have e2 : (E != 0) = true := bne_iff_ne.2 he
      clear c0 c1 c2 hx hxr hg1
      go_wp2
      go_ret
      have h8 := Hrow.out
      rw [hst.out, HE.out] at h8
      exact ⟨ret_int h8, hB1.out, fun h => absurd (h8.trans h) he⟩
  · obtain rfl : k = n := by omega
    have fin := hid (show R = 0 by rw [← Hrow.out]; exact rows_end (by rw [Hl.out]; exact Nat.le_refl _) _)
    have hlast := hid (show UsedIs g (usedE st) from fun s => by
     have := Hua.out s
     rw [List.take_of_length_le (by rw [Hl.out]; exact Nat.le_refl _)] at this
     exact this)
    clear hx hxr
    go_wp2
    go_ret
    exact ⟨ret_int fin.out.symm, Hg.out, fun _ => ⟨g, Hta.out.m3, hlast.out⟩⟩
end Go.Proofs.YtjgnnobccecpeaaGreatDoor
