/- Of the proof of a statement: RDDec. -/
import Derived.Test.YtjgnnobccecpeaaGreatDoorRRDD1
set_option linter.unusedVariables false
set_option linter.unusedSimpArgs false
set_option maxRecDepth 100000
set_option maxHeartbeats 8000000
/- The walk of the reference's DeltaDecode. -/
namespace Go.Proofs.YtjgnnobccecpeaaGreatDoor
open Go.Lib (hid)
open Go.RowKit
theorem rddecode_large (b : ByteArray) (w : World) (hb : 6000 < b.size) (hb2 : b.size ≤ 9223372036854775807) : Calls Tryz.prog 101 #[.string b] w (DDPost b w) := by
 have Hend := hid (fun w' => DDPost.none_ (w := w) (w' := w') (decDF_large hb))
 have Hb1 := hid (show Below w.heap.size w (w.alloc (.cells zDel 49)) from (Below.refl _ _).alloc (Nat.le_refl _) _)
 have d1 : decide ((6000 : Int) < (b.size : Int)) = true := decide_eq_true (by omega)
 go_enter Tryz.func101, Tryz.ntmps101
 go_wp2
 refine bodyPost_ret (v := .tuple #[.agg #[.int .i64 0, .int .i64 0, .slice none 0 0, .slice none 0 0, .slice none 0 0, .slice none 0 0, .slice none 0 0, .slice none 0 0], .int .i64 2]) (by simp [results, Tryz.results101, go_sem]) rfl ?_
 exact Hend.out _ Hb1.out
def EKept (b : ByteArray) (w0 : World) (R S E : Nat) (W : World) : Prop :=
 Below w0.heap.size w0 W ∧ Blk W R 49 zDel ∧ match dlP b with
 | .ok d _ => ∃ x : DelA, Blk W S 49 (dC d x) ∧ DeOwn W E d x
 | .bad _ => ∃ cs, Blk W S 49 cs
theorem EKept.grow {b : ByteArray} {w0 W W' : World} {R S E : Nat} (h : EKept b w0 R S E W) (hg : W.grownBy W' (some E)) (h1 : w0.heap.size ≤ E) (hR : R ≠ E) (hS : S ≠ E) : EKept b w0 R S E W' := by
 obtain ⟨a1, a2, a3⟩ := h
 refine ⟨grow_keep a1 hg h1, grow_blk hg a2 hR, ?_⟩
 revert a3
 cases dlP b with
 | bad x => exact fun ⟨cs, hb⟩ => ⟨cs, grow_blk hg hb hS⟩
 | ok st r => exact fun ⟨x, hb, ho⟩ => ⟨x, grow_blk hg hb hS, ho.grow hg⟩
theorem dlP_sizes {b r : ByteArray} {d : DeltaD} (h : dlP b = .ok d r) : DeSizes d ∧ -9223372036854775808 ≤ d.from_ ∧ d.from_ ≤ 9223372036854775807 := by
 unfold dlP at h
 cases h1 : numP b with
 | bad x => rw [h1] at h; cases h
 | ok f s1 =>
  rw [h1, RR.bind_ok] at h
  cases h2 : numP s1 with
  | bad x => rw [h2] at h; cases h
  | ok t s2 =>
   rw [h2, RR.bind_ok] at h
   cases h3 : takeP 40 (jobP 3) s2 with
   | bad x => rw [h3] at h; cases h
   | ok j s3 =>
    rw [h3, RR.bind_ok] at h
    cases h4 : takeP 20 (nodeP 3) s3 with
    | bad x => rw [h4] at h; cases h
    | ok n s4 =>
     rw [h4, RR.bind_ok] at h
     cases h5 : takeP 40 leaseP s4 with
     | bad x => rw [h5] at h; cases h
     | ok l s5 =>
      rw [h5, RR.bind_ok] at h
      cases h6 : takeP 40 textP s5 with
      | bad x => rw [h6] at h; cases h
      | ok gj s6 =>
       rw [h6, RR.bind_ok] at h
       cases h7 : takeP 20 textP s6 with
       | bad x => rw [h7] at h; cases h
       | ok gn s7 =>
        rw [h7, RR.bind_ok] at h
        cases h8 : takeP 40 textP s7 with
        | bad x => rw [h8] at h; cases h
        | ok gl s8 =>
         rw [h8, RR.bind_ok] at h
         injection h with e1 e2
         subst e1
         obtain ⟨a1, a2⟩ := takeP_all h3
         obtain ⟨b1, b2⟩ := takeP_all h4
         obtain ⟨c1, c2⟩ := takeP_all h5
         obtain ⟨x1, x2⟩ := takeP_all h6
         obtain ⟨y1, y2⟩ := takeP_all h7
         obtain ⟨z1, z2⟩ := takeP_all h8
         have hf := numP_le h1
         refine ⟨⟨a1, b1, c1, x1, y1, z1, fun x hx => ?_, fun x hx => ?_, fun x hx => ?_, fun x hx => ?_, fun x hx => ?_, fun x hx => ?_⟩, ?_, ?_⟩
         · obtain ⟨_, _, h⟩ := a2 x hx; have := jobP_size h; omega
         · obtain ⟨_, _, h⟩ := b2 x hx; have := nodeP_size h; omega
         · obtain ⟨_, _, h⟩ := c2 x hx; have := leaseP_size h; omega
         · obtain ⟨_, _, h⟩ := x2 x hx; have := textP_le h; omega
         · obtain ⟨_, _, h⟩ := y2 x hx; have := textP_le h; omega
         · obtain ⟨_, _, h⟩ := z2 x hx; have := textP_le h; omega
         · show -9223372036854775808 ≤ (f : Int); omega
         · show (f : Int) ≤ 9223372036854775807; omega
theorem rddecode_in (b : ByteArray) (w : World) (hb : ¬ 6000 < b.size) : Calls Tryz.prog 101 #[.string b] w (DDPost b w) := by
 have d1 : decide ((6000 : Int) < (b.size : Int)) = false := decide_eq_false (by omega)
 have Hbad := hid (fun x h w' => DDPost.none_ (w := w) (w' := w') (decDF_bad (b := b) (e := x) hb h))
 have Hchk := hid (fun d r h h3 w' => DDPost.none_ (w := w) (w' := w') (decDF_check (b := b) (r := r) (d := d) hb h h3))
 have Hok := hid (fun d r h h3 => decDF_ok (b := b) (r := r) (d := d) hb h h3)
 have hb1 : Below w.heap.size w (w.alloc (.cells zDel 49)) := (Below.refl _ _).alloc (Nat.le_refl _) _
 have hb2 := hb1.alloc hb1.size (.cells zDel 49)
 obtain ⟨W0, hW0⟩ : ∃ W0, W0 = (w.alloc (.cells zDel 49)).alloc (.cells zDel 49) := ⟨_, rfl⟩
 have hsz : W0.heap.size = w.heap.size + 2 := by rw [hW0]; simp
 have BR : Blk W0 w.heap.size 49 zDel := by rw [hW0]; exact Blk.alloc (show Blk _ _ _ _ from heap_alloc_new w _) _
 have BS : Blk W0 (w.heap.size + 1) 49 zDel := by
  have h := heap_alloc_new (w.alloc (.cells zDel 49)) (.cells zDel 49)
  rw [show (w.alloc (.cells zDel 49)).heap.size = w.heap.size + 1 by simp] at h
  rw [hW0]; exact h
 have hb3 : Below w.heap.size w W0 := by rw [hW0]; exact hb2
 have hRd := readAll 178 #[.pointer (some ⟨w.heap.size + 1, 0, none⟩)] b W0 (by omega) (Go.Proofs.enters_of Tryz.func178 (by kernel_rfl) rfl) (dlP b).st (EKept b w w.heap.size (w.heap.size + 1) W0.heap.size)
  (fun W u h => h.grow (grow_set _ _ _ _) (by omega) (by omega) (by omega)) (fun W W' h _ hg => h.grow hg (by omega) (by omega) (by omega))
  (fun W hB hz hx => by
   have h2 := BS.below hB (by omega)
   have h3 := BR.below hB (by omega)
   refine Calls.mono (rdd1 (W0.heap.size + 1) (w.heap.size + 1) b W hx h2 (by omega)) ?_
   rintro e W' ⟨hT, hp⟩
   have hk : Below w.heap.size w W' := hT.below (hb3.trans (hB.mono hb3.size)) (by omega) (by omega)
   have hR := hT.blk h3 (by omega) (by omega)
   have hE := hT.block W0.heap.size (by omega) (by omega) (by omega)
   unfold EKept
   cases hst : dlP b with
   | bad x =>
    rw [hst] at hp
    exact ⟨hp.1, hE, hk, hR, hp.2⟩
   | ok st r =>
    rw [hst] at hp
    obtain ⟨p1, p2, x, p3, p4⟩ := hp
    exact ⟨⟨p1, p2⟩, hE, hk, hR, x, p3, p4.less (by omega)⟩)
 have hcs := endP_cases (dlP_good (b := b) (N := 6000) (by omega))
 have hszs := fun d r h => dlP_sizes (b := b) (d := d) (r := r) h
 have HRd := hid hRd
 have Hcs := hid hcs
 have Hsz := hid hszs
 have HW0 := hid hW0
 have HS0 := hid hsz
 clear hb1 hb2 hb3 hb hW0 hsz BR BS hcs hszs hRd
 go_enter Tryz.func101, Tryz.ntmps101
 have hmf : ∀ (fn : Fn) (first cap : Array Value) (w : World), (Instr.makeFunc fn first cap).run Tryz.prog w = .ok (.func fn first cap) w := fun _ _ _ _ => rfl
 go_wp2_with fail
 rw [← HW0.out]
 refine Calls.mono HRd.out ?_
 rintro e w2 ⟨rfl, hk⟩
 obtain ⟨hbA, hRb, hk3⟩ := hk
 have HRb := hid hRb
 have HKb := hid hbA
 have hRl := hRb.lt
 obtain ⟨u0, u1, u2, u3, u4, u5, u6, u7⟩ := Blk.z8 (hRb)
 obtain ⟨s0, s1, s2, s3, s4, s5, s6, s7⟩ := Blk.c8 (hRb)
 rcases Hcs.out with ⟨x, hx0, hxE, hres⟩ | ⟨d, r, hst, hE0, hres⟩
 · rw [hxE]
   have hne : ((x : Int) == 0) = false := by rw [beq_eq_false_iff_ne]; omega
   have hne2 : ((x : Int) != 0) = true := by rw [bne_iff_ne]; omega
   have hR4 := (Blk.eq ((Blk.eq ((Blk.eq ((Blk.eq ((Blk.eq ((Blk.eq ((Blk.eq ((Blk.eq (HRb.out.set 0 (.int .i64 0)) (show _ = zDel from rfl)).set 1 (.int .i64 0)) (show _ = zDel from rfl)).set 2 (.slice none 0 0)) (show _ = zDel from rfl)).set 3 (.slice none 0 0)) (show _ = zDel from rfl)).set 4 (.slice none 0 0)) (show _ = zDel from rfl)).set 5 (.slice none 0 0)) (show _ = zDel from rfl)).set 6 (.slice none 0 0)) (show _ = zDel from rfl)).set 7 (.slice none 0 0)) (show _ = zDel from rfl))
   have q0 := (show _ = (some (.int .i64 0) : Option Value) from hR4.cell 0)
   have q1 := (show _ = (some (.int .i64 0) : Option Value) from hR4.cell 1)
   have q2 := (show _ = (some (.slice none 0 0) : Option Value) from hR4.cell 2)
   have q3 := (show _ = (some (.slice none 0 0) : Option Value) from hR4.cell 3)
   have q4 := (show _ = (some (.slice none 0 0) : Option Value) from hR4.cell 4)
   have q5 := (show _ = (some (.slice none 0 0) : Option Value) from hR4.cell 5)
   have q6 := (show _ = (some (.slice none 0 0) : Option Value) from hR4.cell 6)
   have q7 := (show _ = (some (.slice none 0 0) : Option Value) from hR4.cell 7)
   have hK4 := hid (grow_keep (grow_keep (grow_keep (grow_keep (grow_keep (grow_keep (grow_keep (grow_keep HKb.out (grow_set _ w.heap.size 0 (.int .i64 0)) (by omega)) (grow_set _ w.heap.size 1 (.int .i64 0)) (by omega)) (grow_set _ w.heap.size 2 (.slice none 0 0)) (by omega)) (grow_set _ w.heap.size 3 (.slice none 0 0)) (by omega)) (grow_set _ w.heap.size 4 (.slice none 0 0)) (by omega)) (grow_set _ w.heap.size 5 (.slice none 0 0)) (by omega)) (grow_set _ w.heap.size 6 (.slice none 0 0)) (by omega)) (grow_set _ w.heap.size 7 (.slice none 0 0)) (by omega))
   have hG4 := hid (bes_set (bes_set (bes_set (bes_set (bes_set (bes_set (bes_set (bes_set (grow_refl w2 w.heap.size) 0 (.int .i64 0)) 1 (.int .i64 0)) 2 (.slice none 0 0)) 3 (.slice none 0 0)) 4 (.slice none 0 0)) 5 (.slice none 0 0)) 6 (.slice none 0 0)) 7 (.slice none 0 0))
   clear hR4
   have Hend := hid (Hbad.out x hres _ hK4.out)
   clear hres hxE hk3 hbA hRb
   go_wp2
   refine bodyPost_ret (v := .tuple #[.agg #[.int .i64 0, .int .i64 0, .slice none 0 0, .slice none 0 0, .slice none 0 0, .slice none 0 0, .slice none 0 0, .slice none 0 0], .int .i64 (x : Int)]) (by simp [results, Tryz.results101, go_sem, *]) rfl ?_
   exact Hend.out
 · rw [hE0]
   rw [hst] at hk3
   obtain ⟨x, hB, hO⟩ := hk3
   obtain ⟨hz, hf1, hf2⟩ := Hsz.out d r hst
   have HZ := hid hz
   have HO := hid (hO.less (show w.heap.size ≤ W0.heap.size by have := HS0.out; omega))
   have HC := hid (rdcheck_any d x w2 (hO.at_ hz))
   have hSl := hB.lt
   have HB := hid hB
   have Hchk' := hid (Hchk.out d r hres)
   have Hok' := hid (Hok.out d r hres)
   unfold DCPost at HC
   obtain ⟨v0, v1, v2, v3, v4, v5, v6, v7⟩ := Blk.c8 (hB)
   obtain ⟨E, hE⟩ : ∃ E, deltaE d = E := ⟨_, rfl⟩
   rw [hE] at HC Hchk' Hok'
   unfold dC at HC
   clear hE hst hres hE0 hbA hRb hB hO hz
   go_wp2_with fail
   refine Calls.mono HC.out ?_
   rintro e w9 ⟨rfl, hb9⟩
   have HR9 := hid (HRb.out.below hb9 hRl)
   have HS9 := HB.out.below hb9 hSl
   have HK9 := hid (HKb.out.trans (hb9.mono HKb.out.size))
   have Hb9 := hid hb9
   have hsz9 := hb9.size
   clear v0 v1 v2 v3 v4 v5 v6 v7
   obtain ⟨uu0, uu1, uu2, uu3, uu4, uu5, uu6, uu7⟩ := Blk.z8 (HR9.out)
   obtain ⟨ss0, ss1, ss2, ss3, ss4, ss5, ss6, ss7⟩ := Blk.c8 (HR9.out)
   obtain ⟨vv0, vv1, vv2, vv3, vv4, vv5, vv6, vv7⟩ := Blk.c8 (HS9)
   clear HS9 hb9
   by_cases h0 : E = 0
   · subst h0
     have Hres := hid (Hok'.out rfl)
     have hR4 := (Blk.eq ((Blk.eq ((Blk.eq ((Blk.eq ((Blk.eq ((Blk.eq ((Blk.eq ((Blk.eq (HR9.out.set 0 (.int .i64 d.from_)) (show _ = #[.int .i64 d.from_, .int .i64 0, .slice none 0 0, .slice none 0 0, .slice none 0 0, .slice none 0 0, .slice none 0 0, .slice none 0 0] from rfl)).set 1 (.int .i64 d.to_)) (show _ = #[.int .i64 d.from_, .int .i64 d.to_, .slice none 0 0, .slice none 0 0, .slice none 0 0, .slice none 0 0, .slice none 0 0, .slice none 0 0] from rfl)).set 2 (.slice x.aj x.nj x.cj)) (show _ = #[.int .i64 d.from_, .int .i64 d.to_, .slice x.aj x.nj x.cj, .slice none 0 0, .slice none 0 0, .slice none 0 0, .slice none 0 0, .slice none 0 0] from rfl)).set 3 (.slice x.an x.nn x.cn)) (show _ = #[.int .i64 d.from_, .int .i64 d.to_, .slice x.aj x.nj x.cj, .slice x.an x.nn x.cn, .slice none 0 0, .slice none 0 0, .slice none 0 0, .slice none 0 0] from rfl)).set 4 (.slice x.al x.nl x.cl)) (show _ = #[.int .i64 d.from_, .int .i64 d.to_, .slice x.aj x.nj x.cj, .slice x.an x.nn x.cn, .slice x.al x.nl x.cl, .slice none 0 0, .slice none 0 0, .slice none 0 0] from rfl)).set 5 (.slice x.agj x.ngj x.cgj)) (show _ = #[.int .i64 d.from_, .int .i64 d.to_, .slice x.aj x.nj x.cj, .slice x.an x.nn x.cn, .slice x.al x.nl x.cl, .slice x.agj x.ngj x.cgj, .slice none 0 0, .slice none 0 0] from rfl)).set 6 (.slice x.agn x.ngn x.cgn)) (show _ = #[.int .i64 d.from_, .int .i64 d.to_, .slice x.aj x.nj x.cj, .slice x.an x.nn x.cn, .slice x.al x.nl x.cl, .slice x.agj x.ngj x.cgj, .slice x.agn x.ngn x.cgn, .slice none 0 0] from rfl)).set 7 (.slice x.agl x.ngl x.cgl)) (show _ = #[.int .i64 d.from_, .int .i64 d.to_, .slice x.aj x.nj x.cj, .slice x.an x.nn x.cn, .slice x.al x.nl x.cl, .slice x.agj x.ngj x.cgj, .slice x.agn x.ngn x.cgn, .slice x.agl x.ngl x.cgl] from rfl))
     have q0 := (show _ = (some (.int .i64 d.from_) : Option Value) from hR4.cell 0)
     have q1 := (show _ = (some (.int .i64 d.to_) : Option Value) from hR4.cell 1)
     have q2 := (show _ = (some (.slice x.aj x.nj x.cj) : Option Value) from hR4.cell 2)
     have q3 := (show _ = (some (.slice x.an x.nn x.cn) : Option Value) from hR4.cell 3)
     have q4 := (show _ = (some (.slice x.al x.nl x.cl) : Option Value) from hR4.cell 4)
     have q5 := (show _ = (some (.slice x.agj x.ngj x.cgj) : Option Value) from hR4.cell 5)
     have q6 := (show _ = (some (.slice x.agn x.ngn x.cgn) : Option Value) from hR4.cell 6)
     have q7 := (show _ = (some (.slice x.agl x.ngl x.cgl) : Option Value) from hR4.cell 7)
     have hK4 := hid (grow_keep (grow_keep (grow_keep (grow_keep (grow_keep (grow_keep (grow_keep (grow_keep HK9.out (grow_set _ w.heap.size 0 (.int .i64 d.from_)) (by omega)) (grow_set _ w.heap.size 1 (.int .i64 d.to_)) (by omega)) (grow_set _ w.heap.size 2 (.slice x.aj x.nj x.cj)) (by omega)) (grow_set _ w.heap.size 3 (.slice x.an x.nn x.cn)) (by omega)) (grow_set _ w.heap.size 4 (.slice x.al x.nl x.cl)) (by omega)) (grow_set _ w.heap.size 5 (.slice x.agj x.ngj x.cgj)) (by omega)) (grow_set _ w.heap.size 6 (.slice x.agn x.ngn x.cgn)) (by omega)) (grow_set _ w.heap.size 7 (.slice x.agl x.ngl x.cgl)) (by omega))
     have hG4 := hid (bes_set (bes_set (bes_set (bes_set (bes_set (bes_set (bes_set (bes_set (grow_refl w9 w.heap.size) 0 (.int .i64 d.from_)) 1 (.int .i64 d.to_)) 2 (.slice x.aj x.nj x.cj)) 3 (.slice x.an x.nn x.cn)) 4 (.slice x.al x.nl x.cl)) 5 (.slice x.agj x.ngj x.cgj)) 6 (.slice x.agn x.ngn x.cgn)) 7 (.slice x.agl x.ngl x.cgl))
     clear hR4
     go_wp2
     refine bodyPost_ret (v := .tuple #[.agg #[.int .i64 d.from_, .int .i64 d.to_, .slice x.aj x.nj x.cj, .slice x.an x.nn x.cn, .slice x.al x.nl x.cl, .slice x.agj x.ngj x.cgj, .slice x.agn x.ngn x.cgn, .slice x.agl x.ngl x.cgl], .int .i64 0]) (by simp [results, Tryz.results101, go_sem, *]) rfl ?_
     exact ⟨d, x, 0, rfl, Hres.out, ((HO.out.grow (grow_below _ Hb9.out)).grow hG4.out).at_ HZ.out, hK4.out⟩
   · have hne : (E != 0) = true := bne_iff_ne.2 h0
     have hR4 := (Blk.eq ((Blk.eq ((Blk.eq ((Blk.eq ((Blk.eq ((Blk.eq ((Blk.eq ((Blk.eq (HR9.out.set 0 (.int .i64 0)) (show _ = zDel from rfl)).set 1 (.int .i64 0)) (show _ = zDel from rfl)).set 2 (.slice none 0 0)) (show _ = zDel from rfl)).set 3 (.slice none 0 0)) (show _ = zDel from rfl)).set 4 (.slice none 0 0)) (show _ = zDel from rfl)).set 5 (.slice none 0 0)) (show _ = zDel from rfl)).set 6 (.slice none 0 0)) (show _ = zDel from rfl)).set 7 (.slice none 0 0)) (show _ = zDel from rfl))
     have q0 := (show _ = (some (.int .i64 0) : Option Value) from hR4.cell 0)
     have q1 := (show _ = (some (.int .i64 0) : Option Value) from hR4.cell 1)
     have q2 := (show _ = (some (.slice none 0 0) : Option Value) from hR4.cell 2)
     have q3 := (show _ = (some (.slice none 0 0) : Option Value) from hR4.cell 3)
     have q4 := (show _ = (some (.slice none 0 0) : Option Value) from hR4.cell 4)
     have q5 := (show _ = (some (.slice none 0 0) : Option Value) from hR4.cell 5)
     have q6 := (show _ = (some (.slice none 0 0) : Option Value) from hR4.cell 6)
     have q7 := (show _ = (some (.slice none 0 0) : Option Value) from hR4.cell 7)
     have hK4 := hid (grow_keep (grow_keep (grow_keep (grow_keep (grow_keep (grow_keep (grow_keep (grow_keep HK9.out (grow_set _ w.heap.size 0 (.int .i64 0)) (by omega)) (grow_set _ w.heap.size 1 (.int .i64 0)) (by omega)) (grow_set _ w.heap.size 2 (.slice none 0 0)) (by omega)) (grow_set _ w.heap.size 3 (.slice none 0 0)) (by omega)) (grow_set _ w.heap.size 4 (.slice none 0 0)) (by omega)) (grow_set _ w.heap.size 5 (.slice none 0 0)) (by omega)) (grow_set _ w.heap.size 6 (.slice none 0 0)) (by omega)) (grow_set _ w.heap.size 7 (.slice none 0 0)) (by omega))
     have hG4 := hid (bes_set (bes_set (bes_set (bes_set (bes_set (bes_set (bes_set (bes_set (grow_refl w9 w.heap.size) 0 (.int .i64 0)) 1 (.int .i64 0)) 2 (.slice none 0 0)) 3 (.slice none 0 0)) 4 (.slice none 0 0)) 5 (.slice none 0 0)) 6 (.slice none 0 0)) 7 (.slice none 0 0))
     clear hR4
     have Hend := hid (Hchk'.out h0 _ hK4.out)
     go_wp2
     refine bodyPost_ret (v := .tuple #[.agg #[.int .i64 0, .int .i64 0, .slice none 0 0, .slice none 0 0, .slice none 0 0, .slice none 0 0, .slice none 0 0, .slice none 0 0], .int .i64 E]) (by simp [results, Tryz.results101, go_sem, *]) rfl ?_
     exact Hend.out
theorem rddecode_any (b : ByteArray) (w : World) (hb : b.size ≤ 9223372036854775807) : Calls Tryz.prog 101 #[.string b] w (DDPost b w) := by
 by_cases h : 6000 < b.size
 · exact rddecode_large b w h hb
 · exact rddecode_in b w h
end Go.Proofs.YtjgnnobccecpeaaGreatDoor
