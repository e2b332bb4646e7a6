/- The walk of the reference's rows: three tables, one after another. The walk of the reference's read: what a closure reads of a source, the panics caught. The walk of the closure in the reference's Decode. The walk of the reference's Decode. -/
import Derived.Test.YtbbagnfmoecdfaaGreatDoorOwn
import Derived.Test.YtbbagnfmoecdfaaGreatDoorSrcG
import Derived.Test.YtbbagnfmoecdfaaGreatDoorBase
import Derived.Recover
import Derived.Laws.Pointers
import Derived.Test.YtbbagnfmoecdfaaGreatDoorWDec
import Derived.Test.YtbbagnfmoecdfaaGreatDoorOutside
set_option linter.unusedVariables false
set_option linter.unusedSimpArgs false
namespace Go.Proofs.YtbbagnfmoecdfaaGreatDoor
open Go.RowKit
/-- What the rest of a table gives, from where the reading stands. -/
def SkRel {α : Type} (p : ByteArray → RR α) (tot : RR (List α)) (n k : Nat) (l : List α) (s : ByteArray) : Prop := tot = (repP p (n - k) s).bind fun l' r => .ok (l ++ l') r
theorem SkRel.start {α : Type} {p : ByteArray → RR α} {most n : Nat} {s r : ByteArray} (h : manyP most s = .ok n r) : SkRel p (takeP most p s) n 0 [] r := by
  unfold SkRel takeP
  rw [h, RR.bind_ok, Nat.sub_zero]
  cases repP p n r with
  | bad x => rfl
  | ok l' r' => simp [RR.bind_ok]
theorem SkRel.step {α : Type} {p : ByteArray → RR α} {tot : RR (List α)} {n k : Nat} {l : List α} {s r : ByteArray} {a : α} (h : SkRel p tot n k l s) (hk : k < n) (hp : p s = .ok a r) : SkRel p tot n (k + 1) (l ++ [a]) r := by
  unfold SkRel at *
  rw [show n - k = (n - (k + 1)) + 1 by omega, repP, hp, RR.bind_ok] at h
  rw [h]
  cases repP p (n - (k + 1)) r with
  | bad x => rfl
  | ok l' r' => simp [RR.bind_ok]
theorem SkRel.bad {α : Type} {p : ByteArray → RR α} {tot : RR (List α)} {n k x : Nat} {l : List α} {s : ByteArray} (h : SkRel p tot n k l s) (hk : k < n) (hp : p s = .bad x) : tot = .bad x := by
  unfold SkRel at *
  rw [show n - k = (n - (k + 1)) + 1 by omega, repP, hp, RR.bind_bad, RR.bind_bad] at h
  exact h
theorem SkRel.done {α : Type} {p : ByteArray → RR α} {tot : RR (List α)} {n : Nat} {l : List α} {s : ByteArray} (h : SkRel p tot n n l s) : tot = .ok l s := by
  unfold SkRel at h
  rw [Nat.sub_self, repP, RR.bind_ok, List.append_nil] at h
  exact h
theorem takeP_many {α : Type} {p : ByteArray → RR α} {most x : Nat} {s : ByteArray} (h : manyP most s = .bad x) : takeP most p s = .bad x := by unfold takeP; rw [h, RR.bind_bad]
def rowsP (v : Int) (s : ByteArray) : RR (List JobD × List NodeD × List LeaseD) :=
  (takeP 40 (jobP v) s).bind fun j s => (takeP 20 (nodeP v) s).bind fun n s => (takeP 40 leaseP s).bind fun l s => .ok (j, n, l) s
def SRowsPost (g : Nat) (v : Int) (s : ByteArray) (w : World) (e : Ending) (w' : World) : Prop :=
  w.grownBy w' (some g) ∧ match rowsP v s with
  | .ok (j, n, l) r => ∃ aj cj an cn al cl, e = .returned (.tuple #[.slice aj j.length cj, .slice an n.length cn, .slice al l.length cl]) ∧ SxAt w' g r ∧
      w'.ownsRow w.heap.size 41 5 (.slice aj j.length cj) j.length (rowsV jobV j) ∧ w'.ownsRow w.heap.size 43 3 (.slice an n.length cn) n.length (rowsV nodeV n) ∧ w'.ownsRow w.heap.size 45 3 (.slice al l.length cl) l.length (rowsV leaseV l)
  | .bad x => e = thrown x
theorem SRowsPost.bad {g x : Nat} {v : Int} {s : ByteArray} {w w' : World} (h : rowsP v s = .bad x) (hg : w.grownBy w' (some g)) : SRowsPost g v s w (thrown x) w' := ⟨hg, by rw [h]⟩
theorem manyP_le {most n : Nat} {s r : ByteArray} (h : manyP most s = .ok n r) : n ≤ most := by
  unfold manyP at h
  cases hn : numP s with
  | bad x => rw [hn] at h; cases h
  | ok a r1 =>
    rw [hn, RR.bind_ok] at h
    by_cases hb : most < a
    · rw [if_pos hb] at h; cases h
    · rw [if_neg hb] at h; injection h with h1 h2; omega
theorem SxAt.grewT {w w' : World} {g base : Nat} {s : ByteArray} {v v' : Value} (h : SxAt w g s) (hg : Grew w w' v v') (hv : ∀ k, v.ownBlock = some k → base ≤ k) (hgb : g < base) : SxAt w' g s := ⟨h.1.grewT hg hv hgb, h.2⟩
def SkInv {α : Type} (p : ByteArray → RR α) (tot : RR (List α)) (g n : Nat) (T : TypeId) (sz : Nat) (enc : α → List Value) (w : World) (out i : Value) (wr : World) : Prop :=
  ∃ (k : Nat) (A : Option Addr) (c : Nat) (l : List α) (s : ByteArray), k ≤ n ∧ i = .int .i64 k ∧ out = .slice A k c ∧ l.length = k ∧ SxAt wr g s ∧ w.grownBy wr (some g) ∧ wr.ownsRow w.heap.size T sz (.slice A k c) k (rowsV enc l) ∧ SkRel p tot n k l s
set_option maxRecDepth 100000 in
set_option maxHeartbeats 4000000 in
theorem sxrows (g : Nat) (s : ByteArray) (v : Int) (w : World) (h : SxAt w g s) :
    Calls Tryz.prog 135 #[.pointer (some ⟨g, 0, none⟩), .int .i64 v] w (SRowsPost g v s w) := by
  have hgl := h.1.lt
  have Hx := Lib.hid h
  have Kg := Lib.hid (grow_refl w g)
  have hsz : w.heap.size ≤ w.heap.size := Nat.le_refl _
  have Kb := Lib.hid (fun x (hb : rowsP v s = .bad x) w' (hg : w.grownBy w' (some g)) => SRowsPost.bad (v := v) (s := s) hb hg)
  clear h
  go_enter Tryz.func135, Tryz.ntmps135
  go_wp2_with fail
  refine Calls.mono (sxmany g 40 s _ Hx.out (by decide)) ?_
  intro e wj0 hp
  rcases hr : manyP 40 s with ⟨mj, sj0⟩ | x
  rotate_left
  · obtain ⟨rfl, hg⟩ := hp.bad hr
    have hr := Lib.hid (takeP_many (p := jobP v) hr)
    have hend := Lib.hid (Kb.out x (by unfold rowsP; rw [hr.out]; rw [RR.bind_bad]) _ (grow_trans Kg.out hg))
    clear hg hp
    unfold thrown
    go_wp2
    exact ⟨rfl, hend.out⟩
  obtain ⟨rfl, hs1, hg1⟩ := hp.ok hr
  have Sj := Lib.hid (SkRel.start (p := jobP v) hr)
  have hmj : mj ≤ 40 := manyP_le hr
  have Xj := Lib.hid hs1
  have hbj : g < wj0.heap.size := by have := hg1.size; omega
  have hwj : w.heap.size ≤ wj0.heap.size := by have := hg1.size; omega
  have Gj := Lib.hid (grow_trans Kg.out hg1)
  clear hr hp hs1 hg1 Kg Hx
  go_wp2
  go_loopw [4, 9] (fun out i wr => SkInv (jobP v) (takeP 40 (jobP v) s) g mj 41 5 jobV wj0 out i wr) (fun _ i _ => mj - (intOf i).toNat)
  case atStart => exact ⟨0, none, 0, [], sj0, Nat.zero_le _, rfl, rfl, rfl, Xj.out, grow_refl _ _, World.ownsRow_nil _ _ _ _, Sj.out⟩
  case round =>
    obtain ⟨k, aj, c_j, lj, zj, hk, rfl, rfl, hl, hok, hkp, ho, hrel⟩ := hrel
    have Hok := Lib.hid hok
    have Hkp := Lib.hid hkp
    have Ho := Lib.hid ho
    have Hrel := Lib.hid hrel
    have Hl := Lib.hid hl
    have hwr := hkp.size
    clear hok hkp ho hrel hl
    by_cases hlt : k < mj
    · go_wp2_with fail
      refine Calls.mono (sxjob g zj v _ Hok.out) ?_
      intro e w3 hp
      rcases hr : jobP v zj with ⟨⟨name, prio, need, tries, tag⟩, r3⟩ | x
      rotate_left
      · obtain ⟨rfl, hg⟩ := hp.bad hr
        have hr := Lib.hid (Hrel.out.bad hlt hr)
        have hend := Lib.hid (Kb.out x (by unfold rowsP; rw [hr.out]; rw [RR.bind_bad]) _ (grow_trans Gj.out (grow_trans Hkp.out hg)))
        clear hg hp
        unfold thrown
        go_wp2
        exact ⟨rfl, hend.out⟩
      obtain ⟨rfl, hs3, hg3⟩ := hp.ok hr
      have Hrel3 := Lib.hid (Hrel.out.step hlt hr)
      have ho3 := ownT_grow Ho.out hg3 hbj
      have hbr : wj0.heap.size ≤ w3.heap.size := by have := hg3.size; omega
      have Ok3 := Lib.hid hs3
      have Kp3 := Lib.hid (grow_trans Hkp.out hg3)
      have Hlt := Lib.hid ho3.lt
      clear hs3 hg3 hr hp
      dsimp only
      rw [show (Value.agg (jobV ⟨name, prio, need, tries, tag⟩).toArray) = .agg #[.string name, .int .i64 prio, .int .i64 need, .int .i64 tries, .string tag] from rfl]
      go_wp2_with (at_builtin; refine push_rec jobV rfl _ _ 26 41 (.agg #[.string ⟨#[]⟩, .int .i64 0, .int .i64 0, .int .i64 0, .string ⟨#[]⟩]) 5 56 rfl Tryz.underlying26 infoJobT rfl (by decide) jobV_len jobV_oneT wj0.heap.size _ _ _ lj rfl ho3 _ ⟨name, prio, need, tries, tag⟩ rfl _ (by simp) rfl (by omega) (by unfold maxLen; omega) hbr ?_; intro A2 c2 w4 ho4 hg4)
      have Ok4 := Lib.hid (Ok3.out.grewT hg4 (fun k hk => (Hlt.out k hk).1) hbj)
      have Kp4 := Lib.hid (bes_grew Kp3.out hg4 (fun k hk => (Hlt.out k hk).1))
      go_roundw
      case rel => exact ⟨k + 1, A2, c2, lj ++ [⟨name, prio, need, tries, tag⟩], _, by omega, by go_num, rfl, by simp [Hl.out], Ok4.out, Kp4.out, ho4, Hrel3.out⟩
      case measure => simp [intOf]; omega
    · obtain rfl : mj = k := by omega
      have Dj := Lib.hid Hrel.out.done
      have hlj := Hl.out
      have Kg := Lib.hid (grow_trans Gj.out Hkp.out)
      have Hx := Lib.hid Hok.out
      have Oj := Lib.hid Ho.out
      clear Hrel Hl Hok Hkp Ho Sj Xj Gj hlt hk
      go_wp2_with fail
      refine Calls.mono (sxmany g 20 zj _ Hx.out (by decide)) ?_
      intro e wn0 hp
      rcases hr : manyP 20 zj with ⟨mn, sn0⟩ | x
      rotate_left
      · obtain ⟨rfl, hg⟩ := hp.bad hr
        have hr := Lib.hid (takeP_many (p := nodeP v) hr)
        have hend := Lib.hid (Kb.out x (by unfold rowsP; rw [Dj.out]; rw [RR.bind_ok]; rw [hr.out]; rw [RR.bind_bad]) _ (grow_trans Kg.out hg))
        clear hg hp
        unfold thrown
        go_wp2
        exact ⟨rfl, hend.out⟩
      obtain ⟨rfl, hs1, hg1⟩ := hp.ok hr
      have Sn := Lib.hid (SkRel.start (p := nodeP v) hr)
      have hmn : mn ≤ 20 := manyP_le hr
      have Xn := Lib.hid hs1
      have hbn : g < wn0.heap.size := by have := hg1.size; omega
      have hwn : w.heap.size ≤ wn0.heap.size := by have := hg1.size; omega
      have Oj' := Lib.hid (ownT_grow Oj.out hg1 (by omega))
      have Gn := Lib.hid (grow_trans Kg.out hg1)
      clear hr hp hs1 hg1 Kg Hx Oj
      go_wp2
      go_loopw [5, 20] (fun out i wr => SkInv (nodeP v) (takeP 20 (nodeP v) zj) g mn 43 3 nodeV wn0 out i wr) (fun _ i _ => mn - (intOf i).toNat)
      case atStart => exact ⟨0, none, 0, [], sn0, Nat.zero_le _, rfl, rfl, rfl, Xn.out, grow_refl _ _, World.ownsRow_nil _ _ _ _, Sn.out⟩
      case round =>
        obtain ⟨k, an, c_n, ln, zn, hk, rfl, rfl, hl, hok, hkp, ho, hrel⟩ := hrel
        have Hok := Lib.hid hok
        have Hkp := Lib.hid hkp
        have Ho := Lib.hid ho
        have Hrel := Lib.hid hrel
        have Hl := Lib.hid hl
        have hwr := hkp.size
        clear hok hkp ho hrel hl
        by_cases hlt : k < mn
        · go_wp2_with fail
          refine Calls.mono (sxnode g zn v _ Hok.out) ?_
          intro e w3 hp
          rcases hr : nodeP v zn with ⟨⟨name, room, zone⟩, r3⟩ | x
          rotate_left
          · obtain ⟨rfl, hg⟩ := hp.bad hr
            have hr := Lib.hid (Hrel.out.bad hlt hr)
            have hend := Lib.hid (Kb.out x (by unfold rowsP; rw [Dj.out]; rw [RR.bind_ok]; rw [hr.out]; rw [RR.bind_bad]) _ (grow_trans Gn.out (grow_trans Hkp.out hg)))
            clear hg hp
            unfold thrown
            go_wp2
            exact ⟨rfl, hend.out⟩
          obtain ⟨rfl, hs3, hg3⟩ := hp.ok hr
          have Hrel3 := Lib.hid (Hrel.out.step hlt hr)
          have ho3 := ownT_grow Ho.out hg3 hbn
          have hbr : wn0.heap.size ≤ w3.heap.size := by have := hg3.size; omega
          have Ok3 := Lib.hid hs3
          have Kp3 := Lib.hid (grow_trans Hkp.out hg3)
          have Hlt := Lib.hid ho3.lt
          clear hs3 hg3 hr hp
          dsimp only
          rw [show (Value.agg (nodeV ⟨name, room, zone⟩).toArray) = .agg #[.string name, .int .i64 room, .string zone] from rfl]
          go_wp2_with (at_builtin; refine push_rec nodeV rfl _ _ 27 43 (.agg #[.string ⟨#[]⟩, .int .i64 0, .string ⟨#[]⟩]) 3 40 rfl Tryz.underlying27 infoNodeT rfl (by decide) nodeV_len nodeV_oneT wn0.heap.size _ _ _ ln rfl ho3 _ ⟨name, room, zone⟩ rfl _ (by simp) rfl (by omega) (by unfold maxLen; omega) hbr ?_; intro A2 c2 w4 ho4 hg4)
          have Ok4 := Lib.hid (Ok3.out.grewT hg4 (fun k hk => (Hlt.out k hk).1) hbn)
          have Kp4 := Lib.hid (bes_grew Kp3.out hg4 (fun k hk => (Hlt.out k hk).1))
          go_roundw
          case rel => exact ⟨k + 1, A2, c2, ln ++ [⟨name, room, zone⟩], _, by omega, by go_num, rfl, by simp [Hl.out], Ok4.out, Kp4.out, ho4, Hrel3.out⟩
          case measure => simp [intOf]; omega
        · obtain rfl : mn = k := by omega
          have Dn := Lib.hid Hrel.out.done
          have hln := Hl.out
          have Kg := Lib.hid (grow_trans Gn.out Hkp.out)
          have Hx := Lib.hid Hok.out
          have Oj := Lib.hid (ownT_grow Oj'.out Hkp.out (by omega))
          have On := Lib.hid Ho.out
          clear Hrel Hl Hok Hkp Ho Sn Xn Gn hlt hk Oj'
          go_wp2_with fail
          refine Calls.mono (sxmany g 40 zn _ Hx.out (by decide)) ?_
          intro e wl0 hp
          rcases hr : manyP 40 zn with ⟨ml, sl0⟩ | x
          rotate_left
          · obtain ⟨rfl, hg⟩ := hp.bad hr
            have hr := Lib.hid (takeP_many (p := leaseP) hr)
            have hend := Lib.hid (Kb.out x (by unfold rowsP; rw [Dj.out]; rw [RR.bind_ok]; rw [Dn.out]; rw [RR.bind_ok]; rw [hr.out]; rw [RR.bind_bad]) _ (grow_trans Kg.out hg))
            clear hg hp
            unfold thrown
            go_wp2
            exact ⟨rfl, hend.out⟩
          obtain ⟨rfl, hs1, hg1⟩ := hp.ok hr
          have Sl := Lib.hid (SkRel.start (p := leaseP) hr)
          have hml : ml ≤ 40 := manyP_le hr
          have Xl := Lib.hid hs1
          have hbl : g < wl0.heap.size := by have := hg1.size; omega
          have hwl : w.heap.size ≤ wl0.heap.size := by have := hg1.size; omega
          have Oj' := Lib.hid (ownT_grow Oj.out hg1 (by omega))
          have On' := Lib.hid (ownT_grow On.out hg1 (by omega))
          have Gl := Lib.hid (grow_trans Kg.out hg1)
          clear hr hp hs1 hg1 Kg Hx Oj On
          go_wp2
          go_loopw [6, 31] (fun out i wr => SkInv (leaseP) (takeP 40 (leaseP) zn) g ml 45 3 leaseV wl0 out i wr) (fun _ i _ => ml - (intOf i).toNat)
          case atStart => exact ⟨0, none, 0, [], sl0, Nat.zero_le _, rfl, rfl, rfl, Xl.out, grow_refl _ _, World.ownsRow_nil _ _ _ _, Sl.out⟩
          case round =>
            obtain ⟨k, al, c_l, ll, zl, hk, rfl, rfl, hl, hok, hkp, ho, hrel⟩ := hrel
            have Hok := Lib.hid hok
            have Hkp := Lib.hid hkp
            have Ho := Lib.hid ho
            have Hrel := Lib.hid hrel
            have Hl := Lib.hid hl
            have hwr := hkp.size
            clear hok hkp ho hrel hl
            by_cases hlt : k < ml
            · go_wp2_with fail
              refine Calls.mono (sxlease g zl _ Hok.out) ?_
              intro e w3 hp
              rcases hr : leaseP zl with ⟨⟨job, node, till⟩, r3⟩ | x
              rotate_left
              · obtain ⟨rfl, hg⟩ := hp.bad hr
                have hr := Lib.hid (Hrel.out.bad hlt hr)
                have hend := Lib.hid (Kb.out x (by unfold rowsP; rw [Dj.out]; rw [RR.bind_ok]; rw [Dn.out]; rw [RR.bind_ok]; rw [hr.out]; rw [RR.bind_bad]) _ (grow_trans Gl.out (grow_trans Hkp.out hg)))
                clear hg hp
                unfold thrown
                go_wp2
                exact ⟨rfl, hend.out⟩
              obtain ⟨rfl, hs3, hg3⟩ := hp.ok hr
              have Hrel3 := Lib.hid (Hrel.out.step hlt hr)
              have ho3 := ownT_grow Ho.out hg3 hbl
              have hbr : wl0.heap.size ≤ w3.heap.size := by have := hg3.size; omega
              have Ok3 := Lib.hid hs3
              have Kp3 := Lib.hid (grow_trans Hkp.out hg3)
              have Hlt := Lib.hid ho3.lt
              clear hs3 hg3 hr hp
              dsimp only
              rw [show (Value.agg (leaseV ⟨job, node, till⟩).toArray) = .agg #[.string job, .string node, .int .i64 till] from rfl]
              go_wp2_with (at_builtin; refine push_rec leaseV rfl _ _ 28 45 (.agg #[.string ⟨#[]⟩, .string ⟨#[]⟩, .int .i64 0]) 3 40 rfl Tryz.underlying28 infoLeaseT rfl (by decide) leaseV_len leaseV_oneT wl0.heap.size _ _ _ ll rfl ho3 _ ⟨job, node, till⟩ rfl _ (by simp) rfl (by omega) (by unfold maxLen; omega) hbr ?_; intro A2 c2 w4 ho4 hg4)
              have Ok4 := Lib.hid (Ok3.out.grewT hg4 (fun k hk => (Hlt.out k hk).1) hbl)
              have Kp4 := Lib.hid (bes_grew Kp3.out hg4 (fun k hk => (Hlt.out k hk).1))
              go_roundw
              case rel => exact ⟨k + 1, A2, c2, ll ++ [⟨job, node, till⟩], _, by omega, by go_num, rfl, by simp [Hl.out], Ok4.out, Kp4.out, ho4, Hrel3.out⟩
              case measure => simp [intOf]; omega
            · obtain rfl : ml = k := by omega
              have Dl := Lib.hid Hrel.out.done
              have hll := Hl.out
              have Kg := Lib.hid (grow_trans Gl.out Hkp.out)
              have Hx := Lib.hid Hok.out
              have Oj := Lib.hid (ownT_grow Oj'.out Hkp.out (by omega))
              have On := Lib.hid (ownT_grow On'.out Hkp.out (by omega))
              have Ol := Lib.hid Ho.out
              clear Hrel Hl Hok Hkp Ho Sl Xl Gl hlt hk Oj' On'
              go_wp2
              refine bodyPost_ret (v := .tuple #[.slice aj mj c_j, .slice an mn c_n, .slice al ml c_l]) (by simp [results, Tryz.results135, go_sem]) rfl ?_
              refine ⟨Kg.out, ?_⟩
              rw [show rowsP v s = .ok (lj, ln, ll) zl by unfold rowsP; rw [Dj.out, RR.bind_ok, Dn.out, RR.bind_ok, Dl.out, RR.bind_ok]]
              subst hlj; subst hln; subst hll
              exact ⟨aj, c_j, an, c_n, al, c_l, rfl, Hx.out, ownT_base Oj.out (by omega), ownT_base On.out (by omega), ownT_base Ol.out (by omega)⟩
end Go.Proofs.YtbbagnfmoecdfaaGreatDoor
namespace Go.Proofs.YtbbagnfmoecdfaaGreatDoor
open Go.RowKit
theorem assert_taken (W : World) (y : Int) : (Instr.typeAssert (.iface 261 (.agg #[.int .i64 y])) 20 261 true).run Tryz.prog W = .ok (.tuple #[.agg #[.int .i64 y], .bool true]) W := by kernel_rfl
set_option maxRecDepth 100000 in
set_option maxHeartbeats 1000000 in
theorem catch_thrown (E : Nat) (n : Int) (y : Nat) (w : World) (hE : Blk w E 22 #[.int .i64 n]) :
    CallsD Tryz.prog 203 #[.pointer (some ⟨E, 0, none⟩)] (.panicking [{ v := .iface 261 (.agg #[.int .i64 (y : Int)]), recovered := false }]) w fun e u' w' =>
      e = .returned (.tuple #[]) ∧ u' = .panicking [{ v := .iface 261 (.agg #[.int .i64 (y : Int)]), recovered := true }] ∧ w.grownBy w' (some E) ∧ Blk w' E 22 #[.int .i64 (y : Int)] := by
  have hc : w.cell? ⟨E, 0, none⟩ = some (.int .i64 n) := hE.cell 0
  have hz : w.frozen? ⟨E, 0, none⟩ = false := hE.thaw 0
  have hl := hE.lt
  have HE := Lib.hid hE
  have hta := assert_taken
  clear hE
  refine callsD_of_wpS Tryz.func203 rfl fun c₀ cs hu => ?_
  rw [show (#[Value.pointer (some ⟨E, 0, none⟩)] ++ Array.replicate (Tryz.f203.ntmps - (#[Value.pointer (some ⟨E, 0, none⟩)] : Array Value).size) undef) = #[.pointer (some ⟨E, 0, none⟩), undef, undef, undef, undef, undef, undef, undef, undef, undef, undef, undef, undef, undef, undef, undef, undef] from by rw [Tryz.ntmps203]; rfl]
  apply wpS_seq
  apply wpS_region
  simp [wpOpsS, go_sem, recoverD, hu, Tryz.ntmps203, Exit.thenS]
  refine wpS_of_wp ?_
  have HW := Lib.hid (show w.grownBy ((w.setCell ⟨E, 0, none⟩ (.int .i64 (y : Int))).alloc (.cells #[.int .i64 (y : Int)] 261)) (some E) ∧ Blk ((w.setCell ⟨E, 0, none⟩ (.int .i64 (y : Int))).alloc (.cells #[.int .i64 (y : Int)] 261)) E 22 #[.int .i64 (y : Int)] from
    ⟨bes_below (grow_set w E 0 _) ((Below.refl _ _).alloc (Nat.le_refl _) _), (Blk.eq (HE.out.set 0 _) rfl).alloc _⟩)
  go_wp2
  exact ⟨rfl, _, rfl, _, by simp [results, Tryz.results203, go_sem], rfl, rfl, HW.out⟩
set_option maxRecDepth 100000 in
set_option maxHeartbeats 1000000 in
theorem catch_none (E : Nat) (w : World) :
    CallsD Tryz.prog 203 #[.pointer (some ⟨E, 0, none⟩)] .returning w fun e u' w' => e = .returned (.tuple #[]) ∧ u' = .returning ∧ w' = w := by
  refine callsD_of_wpS Tryz.func203 rfl fun c₀ cs hu => ?_
  rw [show (#[Value.pointer (some ⟨E, 0, none⟩)] ++ Array.replicate (Tryz.f203.ntmps - (#[Value.pointer (some ⟨E, 0, none⟩)] : Array Value).size) undef) = #[.pointer (some ⟨E, 0, none⟩), undef, undef, undef, undef, undef, undef, undef, undef, undef, undef, undef, undef, undef, undef, undef, undef] from by rw [Tryz.ntmps203]; rfl]
  apply wpS_seq
  apply wpS_region
  simp [wpOpsS, go_sem, recoverD, hu, Tryz.ntmps203, Exit.thenS]
  refine wpS_of_wp ?_
  go_wp2
  exact ⟨rfl, .returning, by cases c₀; simp_all, _, by simp [results, Tryz.results203, go_sem], rfl, rfl, rfl⟩
/-- What a reading leaves: the error, or what the closure keeps. -/
def AllPost (R : RR Unit) (Kept : World → Prop) (e : Ending) (w' : World) : Prop := e = .returned (.int .i64 (endE R : Int)) ∧ Kept w'
set_option maxRecDepth 100000 in
set_option maxHeartbeats 1000000 in
theorem readAll (F : FuncId) (caps : Array Value) (b : ByteArray) (w : World) (hs : b.size ≤ 9223372036854775807) (hent : ∀ args w, (callFunc F args).run Tryz.prog w = .ok (.enter F args) w) (R : RR Unit) (Kept : World → Prop)
    (hK : ∀ W v, Kept W → Kept (W.setCell ⟨w.heap.size, 0, none⟩ v)) (hK2 : ∀ W W', Kept W → w.heap.size < W.heap.size → W.grownBy W' (some w.heap.size) → Kept W')
    (hf : ∀ W, Below w.heap.size w W → W.heap.size = w.heap.size + 2 → SxAt W (w.heap.size + 1) b → Calls Tryz.prog F (#[.pointer (some ⟨w.heap.size + 1, 0, none⟩)] ++ caps) W fun e W' =>
      (match R with | .ok _ s => e = .returned (.tuple #[]) ∧ SxAt W' (w.heap.size + 1) s | .bad x => e = thrown x) ∧ W'.heap[w.heap.size]? = W.heap[w.heap.size]? ∧ Kept W') :
    Calls Tryz.prog 95 #[.string b, .func (.func F) #[] caps] w (AllPost R Kept) := by
  have hmf : ∀ (fn : Fn) (first cap : Array Value) (w : World), (Instr.makeFunc fn first cap).run Tryz.prog w = .ok (.func fn first cap) w := fun _ _ _ _ => rfl
  have hb1 : Below w.heap.size w (w.alloc (.cells #[.int .i64 0] 22)) := (Below.refl _ _).alloc (Nat.le_refl _) _
  have hb2 := hb1.alloc hb1.size (.cells #[.string b] 264)
  have HB := Lib.hid (show Blk ((w.alloc (.cells #[.int .i64 0] 22)).alloc (.cells #[.string b] 264)) w.heap.size 22 #[.int .i64 0] from Blk.alloc (show Blk _ _ _ _ from heap_alloc_new w _) _)
  have h2 : ((w.alloc (.cells #[.int .i64 0] 22)).alloc (.cells #[.string b] 264)).heap.size = w.heap.size + 2 := by simp
  have HC := Lib.hid (hf _ hb2 h2 ⟨by
    have h := heap_alloc_new (w.alloc (.cells #[.int .i64 0] 22)) (.cells #[.string b] 264)
    rw [show (w.alloc (.cells #[.int .i64 0] 22)).heap.size = w.heap.size + 1 by simp] at h
    exact h, hs⟩)
  have HK2 := Lib.hid hK2
  have HK := Lib.hid hK
  have Hent := hent
  clear hf hb1 hb2 h2 hK hK2
  go_enter_defers Tryz.func95, Tryz.ntmps95
  go_wp2_with fail
  refine Calls.mono HC.out ?_
  rintro e w1 ⟨hp, hk, hkept⟩
  have hE : Blk w1 w.heap.size 22 #[.int .i64 0] := hk.trans HB.out
  have Hkept := Lib.hid hkept
  have x0 : w1.cell? ⟨w.heap.size, 0, none⟩ = some (.int .i64 0) := hE.cell 0
  have z0 : w1.frozen? ⟨w.heap.size, 0, none⟩ = false := hE.thaw 0
  have hEl := hE.lt
  have HE := Lib.hid hE
  clear hk hkept HC hE
  cases R with
  | bad x =>
    have hp : e = thrown x := hp
    subst hp
    unfold thrown
    go_wp2
    refine leaves_cons (f := 203) (args := #[.pointer (some ⟨w.heap.size, 0, none⟩)]) (by simp) (by simp [go_sem]) ?_
    refine (catch_thrown w.heap.size 0 x w1 HE.out).mono ?_
    rintro e u' w2 ⟨rfl, rfl, hg, hB⟩
    have hc := hB.cell 0
    have hfin : AllPost (.bad x) Kept (.returned (.int .i64 (x : Int))) w2 := ⟨rfl, HK2.out _ _ Hkept.out HE.out.lt hg⟩
    have hc' : w2.cell? ⟨w.heap.size, 0, none⟩ = some (.int .i64 (x : Int)) := hc
    simp [Leaves, settle, results, Tryz.results95, go_sem, hc', hfin]
  | ok u s =>
    obtain ⟨rfl, hs1⟩ : e = .returned (.tuple #[]) ∧ SxAt w1 (w.heap.size + 1) s := hp
    have y0 : w1.cell? ⟨w.heap.size + 1, 0, none⟩ = some (.string s) := hs1.1.cell 0
    have hlt := hs1.1.lt
    clear hs1
    by_cases hz : s.size = 0
    · obtain rfl := empty_of hz
      have hq := (show _ = (some (.int .i64 0) : Option Value) from (HE.out.set 0 (.int .i64 0)).cell 0)
      have hfin : AllPost (.ok u ⟨#[]⟩) Kept (.returned (.int .i64 0)) (w1.setCell ⟨w.heap.size, 0, none⟩ (.int .i64 0)) := ⟨rfl, HK.out _ _ Hkept.out⟩
      have Hfin := Lib.hid hfin
      clear hfin
      go_wp2
      refine leaves_cons (f := 203) (args := #[.pointer (some ⟨w.heap.size, 0, none⟩)]) (by simp) (by simp [go_sem]) ?_
      refine (catch_none w.heap.size _).mono ?_
      rintro e u' w2 ⟨rfl, rfl, rfl⟩
      simp [Leaves, settle, results, Tryz.results95, go_sem, hq, Hfin.out]
    · have e3 := isEmpty_no hz
      have hq := (show _ = (some (.int .i64 4) : Option Value) from (HE.out.set 0 (.int .i64 4)).cell 0)
      have hfin : AllPost (.ok u s) Kept (.returned (.int .i64 4)) (w1.setCell ⟨w.heap.size, 0, none⟩ (.int .i64 4)) := ⟨by rw [endE_ok4 hz]; rfl, HK.out _ _ Hkept.out⟩
      have Hfin := Lib.hid hfin
      clear hfin
      go_wp2
      refine leaves_cons (f := 203) (args := #[.pointer (some ⟨w.heap.size, 0, none⟩)]) (by simp) (by simp [go_sem]) ?_
      refine (catch_none w.heap.size _).mono ?_
      rintro e u' w2 ⟨rfl, rfl, rfl⟩
      simp [Leaves, settle, results, Tryz.results95, go_sem, hq, Hfin.out]
end Go.Proofs.YtbbagnfmoecdfaaGreatDoor
namespace Go.Proofs.YtbbagnfmoecdfaaGreatDoor
open Go.RowKit
theorem stP_rows (v : Int) (b : ByteArray) : stP v b = (revP v b).bind fun rev s => (rowsP v s).bind fun p s => .ok ⟨rev, p.1, p.2.1, p.2.2⟩ s := by
  unfold stP rowsP
  cases revP v b with
  | bad x => rfl
  | ok rev s =>
    simp only [RR.bind_ok]
    cases takeP 40 (jobP v) s with
    | bad x => rfl
    | ok j s =>
      simp only [RR.bind_ok]
      cases takeP 20 (nodeP v) s with
      | bad x => rfl
      | ok n s =>
        simp only [RR.bind_ok]
        cases takeP 40 leaseP s with
        | bad x => rfl
        | ok l s => rfl
def D1Post (g S : Nat) (v : Int) (b : ByteArray) (w : World) (e : Ending) (w' : World) : Prop :=
  Two w w' g S ∧ match stP v b with
  | .ok st r => e = .returned (.tuple #[]) ∧ SxAt w' g r ∧ ∃ x : StA, Blk w' S 30 (stC st x) ∧ StOwn w' w.heap.size st x
  | .bad x => e = thrown x ∧ ∃ cs, Blk w' S 30 cs
theorem D1Post.bad {g S x : Nat} {v : Int} {b : ByteArray} {w w' : World} {cs : Array Value} (h : stP v b = .bad x) (ht : Two w w' g S) (hb : Blk w' S 30 cs) : D1Post g S v b w (thrown x) w' := ⟨ht, by rw [h]; exact ⟨rfl, cs, hb⟩⟩
theorem D1Post.ok {g S : Nat} {v : Int} {b r : ByteArray} {st : StateD} {w w' : World} {x : StA} (h : stP v b = .ok st r) (ht : Two w w' g S) (hs : SxAt w' g r) (hb : Blk w' S 30 (stC st x)) (ho : StOwn w' w.heap.size st x) : D1Post g S v b w (.returned (.tuple #[])) w' := ⟨ht, by rw [h]; exact ⟨rfl, hs, x, hb, ho⟩⟩
def zeroC : Array Value := #[.int .i64 0, .slice none 0 0, .slice none 0 0, .slice none 0 0]
set_option maxRecDepth 100000 in
set_option maxHeartbeats 2000000 in
theorem rdec1_no (g V S : Nat) (v : Int) (b : ByteArray) (w : World) (hx : SxAt w g b) (hV : Blk w V 3 #[.int .i64 v]) (hS : Blk w S 30 #[.int .i64 0, .slice none 0 0, .slice none 0 0, .slice none 0 0]) (hVg : V < g) (hSg : S < g) (hVS : V ≠ S) (hv : ¬ 2 < v) :
    Calls Tryz.prog 133 #[.pointer (some ⟨g, 0, none⟩), .pointer (some ⟨V, 0, none⟩), .pointer (some ⟨S, 0, none⟩)] w (D1Post g S v b w) := by
  have d1 : decide (2 < v) = false := decide_eq_false hv
  have hP := Lib.hid (show stP v b = (rowsP v b).bind fun p s => .ok ⟨((0 : Nat) : Int), p.1, p.2.1, p.2.2⟩ s by rw [stP_rows]; unfold revP; rw [if_neg hv]; rfl)
  have yV : w.cell? ⟨V, 0, none⟩ = some (.int .i64 v) := hV.cell 0
  have HR := Lib.hid (sxrows g b v w hx)
  have HS := Lib.hid hS
  have hgl := hx.1.lt
  clear hV hS hv hx
  go_enter Tryz.func133, Tryz.ntmps133
  go_wp2_with fail
  refine Calls.mono HR.out ?_
  rintro e w1 ⟨hg, hp⟩
  have hSb := grow_blk hg HS.out (Nat.ne_of_lt hSg)
  rcases hr : rowsP v b with ⟨⟨j, n, l⟩, r⟩ | x
  rotate_left
  · rw [hr] at hp
    have hp : e = thrown x := hp
    subst hp
    have hend := Lib.hid (D1Post.bad (show stP v b = .bad x by rw [hP.out, hr]; rfl) ((Two.refl w g S).fst hg) hSb)
    clear hg hr hSb
    unfold thrown
    go_wp2
    exact ⟨rfl, hend.out⟩
  · rw [hr] at hp
    obtain ⟨aj, cj, an, cn, al, cl, rfl, hs, oj, on_, ol⟩ := hp
    have hq := Lib.hid (show stP v b = .ok ⟨((0 : Nat) : Int), j, n, l⟩ r by rw [hP.out, hr]; rfl)
    have HO := Lib.hid (show StOwn w1 w.heap.size ⟨((0 : Nat) : Int), j, n, l⟩ ⟨aj, j.length, cj, an, n.length, cn, al, l.length, cl⟩ from ⟨oj, on_, ol, rfl, rfl, rfl⟩)
    have hsl := hSb.lt
    have z1 := hSb.thaw 1
    have z2 := hSb.thaw 2
    have z3 := hSb.thaw 3
    have x1 := (show _ = (some (.slice none 0 0) : Option Value) from hSb.cell 1)
    have x2 := (show _ = (some (.slice none 0 0) : Option Value) from hSb.cell 2)
    have x3 := (show _ = (some (.slice none 0 0) : Option Value) from hSb.cell 3)
    have hG := bes_set (bes_set (bes_set (grow_refl w1 S) 1 (.slice aj j.length cj)) 2 (.slice an n.length cn)) 3 (.slice al l.length cl)
    have HT := Lib.hid (((Two.refl w g S).fst hg).snd hG)
    have HX := Lib.hid (hs.grow hG (Nat.ne_of_gt hSg))
    have HB := Lib.hid (Blk.eq (((hSb.set 1 (.slice aj j.length cj)).set 2 (.slice an n.length cn)).set 3 (.slice al l.length cl)) (show _ = stC ⟨((0 : Nat) : Int), j, n, l⟩ ⟨aj, j.length, cj, an, n.length, cn, al, l.length, cl⟩ from rfl))
    have HO2 := Lib.hid (HO.out.grow hG (Nat.lt_trans hSg hgl))
    clear hg hr hs oj on_ ol hG hSb
    go_wp2
    go_end0
    exact D1Post.ok hq.out HT.out HX.out HB.out HO2.out
set_option maxRecDepth 100000 in
set_option maxHeartbeats 2000000 in
theorem rdec1_yes (g V S : Nat) (v : Int) (b : ByteArray) (w : World) (hx : SxAt w g b) (hV : Blk w V 3 #[.int .i64 v]) (hS : Blk w S 30 #[.int .i64 0, .slice none 0 0, .slice none 0 0, .slice none 0 0]) (hVg : V < g) (hSg : S < g) (hVS : V ≠ S) (hv : 2 < v) :
    Calls Tryz.prog 133 #[.pointer (some ⟨g, 0, none⟩), .pointer (some ⟨V, 0, none⟩), .pointer (some ⟨S, 0, none⟩)] w (D1Post g S v b w) := by
  have d1 : decide (2 < v) = true := decide_eq_true hv
  have hP := Lib.hid (show stP v b = (numP b).bind fun rev s => (rowsP v s).bind fun p s => .ok ⟨((rev : Nat) : Int), p.1, p.2.1, p.2.2⟩ s by rw [stP_rows]; unfold revP; rw [if_pos hv])
  have yV : w.cell? ⟨V, 0, none⟩ = some (.int .i64 v) := hV.cell 0
  have HN := Lib.hid (sxnum g b w hx)
  have HS := Lib.hid hS
  have HV := Lib.hid hV
  have hgl := hx.1.lt
  clear hV hS hv hx
  go_enter Tryz.func133, Tryz.ntmps133
  go_wp2_with fail
  refine Calls.mono HN.out ?_
  intro e w1 hp
  rcases hr : numP b with ⟨rev, s1⟩ | x
  rotate_left
  · obtain ⟨rfl, hg⟩ := hp.bad hr
    have hend := Lib.hid (D1Post.bad (show stP v b = .bad x by rw [hP.out, hr]; rfl) ((Two.refl w g S).fst hg) (grow_blk hg HS.out (Nat.ne_of_lt hSg)))
    clear hg hr hp
    unfold thrown
    go_wp2
    exact ⟨rfl, hend.out⟩
  obtain ⟨rfl, hs1, hg1⟩ := hp.ok hr
  have E0 := Lib.hid hr
  have hSb := grow_blk hg1 HS.out (Nat.ne_of_lt hSg)
  have hVb := grow_blk hg1 HV.out (Nat.ne_of_lt hVg)
  have z0 : w1.frozen? ⟨S, 0, none⟩ = false := hSb.thaw 0
  have x0 : w1.cell? ⟨S, 0, none⟩ = some (.int .i64 0) := hSb.cell 0
  have yV1 : w1.cell? ⟨V, 0, none⟩ = some (.int .i64 v) := hVb.cell 0
  have hSl := hSb.lt
  have T1 := Lib.hid (((Two.refl w g S).fst hg1).snd (grow_set w1 S 0 (.int .i64 (rev : Int))))
  have B1 := Lib.hid (Blk.eq (hSb.set 0 (.int .i64 (rev : Int))) (show _ = #[.int .i64 (rev : Int), .slice none 0 0, .slice none 0 0, .slice none 0 0] from rfl))
  have HR := Lib.hid (sxrows g s1 v _ (hs1.grow (grow_set w1 S 0 (.int .i64 (rev : Int))) (Nat.ne_of_gt hSg)))
  clear hr hp hs1 hg1 hSb hVb HN yV
  go_wp2_with fail
  refine Calls.mono HR.out ?_
  rintro e w2 ⟨hg, hp⟩
  have hSb := grow_blk hg B1.out (Nat.ne_of_lt hSg)
  rcases hr : rowsP v s1 with ⟨⟨j, n, l⟩, r⟩ | x
  rotate_left
  · rw [hr] at hp
    have hp : e = thrown x := hp
    subst hp
    have hend := Lib.hid (D1Post.bad (show stP v b = .bad x by rw [hP.out, E0.out, RR.bind_ok, hr]; rfl) (T1.out.fst hg) hSb)
    clear hg hr hSb
    unfold thrown
    go_wp2
    exact ⟨rfl, hend.out⟩
  · rw [hr] at hp
    obtain ⟨aj, cj, an, cn, al, cl, rfl, hs, oj, on_, ol⟩ := hp
    have hq := Lib.hid (show stP v b = .ok ⟨((rev : Nat) : Int), j, n, l⟩ r by rw [hP.out, E0.out, RR.bind_ok, hr]; rfl)
    have HO := Lib.hid (show StOwn w2 w.heap.size ⟨((rev : Nat) : Int), j, n, l⟩ ⟨aj, j.length, cj, an, n.length, cn, al, l.length, cl⟩ from ⟨ownT_base oj T1.out.size, ownT_base on_ T1.out.size, ownT_base ol T1.out.size, rfl, rfl, rfl⟩)
    have hsl := hSb.lt
    have z1 := hSb.thaw 1
    have z2 := hSb.thaw 2
    have z3 := hSb.thaw 3
    have x1 := (show _ = (some (.slice none 0 0) : Option Value) from hSb.cell 1)
    have x2 := (show _ = (some (.slice none 0 0) : Option Value) from hSb.cell 2)
    have x3 := (show _ = (some (.slice none 0 0) : Option Value) from hSb.cell 3)
    have hG := bes_set (bes_set (bes_set (grow_refl w2 S) 1 (.slice aj j.length cj)) 2 (.slice an n.length cn)) 3 (.slice al l.length cl)
    have HT := Lib.hid ((T1.out.fst hg).snd hG)
    have HX := Lib.hid (hs.grow hG (Nat.ne_of_gt hSg))
    have HB := Lib.hid (Blk.eq (((hSb.set 1 (.slice aj j.length cj)).set 2 (.slice an n.length cn)).set 3 (.slice al l.length cl)) (show _ = stC ⟨((rev : Nat) : Int), j, n, l⟩ ⟨aj, j.length, cj, an, n.length, cn, al, l.length, cl⟩ from rfl))
    have HO2 := Lib.hid (HO.out.grow hG (Nat.lt_trans hSg hgl))
    clear hg hr hs oj on_ ol hG hSb
    go_wp2
    go_end0
    exact D1Post.ok hq.out HT.out HX.out HB.out HO2.out
theorem stP_good (v : Int) {b : ByteArray} {N : Nat} (h : b.size ≤ N) : (stP v b).Good N := by
  unfold stP revP
  refine RR.Good.bind ?_ fun _ r hr => (takeP_good (fun _ => jobP_good) hr).bind fun _ r hr => (takeP_good (fun _ => nodeP_good) hr).bind fun _ r hr => (takeP_good (fun _ => leaseP_good) hr).bind fun _ r hr => hr
  split
  · exact numP_good h
  · exact h
theorem endP_cases {α : Type} {N : Nat} {R : RR α} (h : R.Good N) : (∃ x : Nat, x ≠ 0 ∧ endE R.st = x ∧ endP R = .bad x) ∨ (∃ a r, R = .ok a r ∧ endE R.st = 0 ∧ endP R = .ok a r) := by
  cases R with
  | bad x => exact .inl ⟨x, h.1, rfl, rfl⟩
  | ok a r =>
    by_cases hz : r.size = 0
    · exact .inr ⟨a, r, rfl, endE_ok0 hz, by unfold endP; rw [RR.bind_ok, if_pos hz]⟩
    · exact .inl ⟨4, by decide, endE_ok4 hz, by unfold endP; rw [RR.bind_ok, if_neg hz]⟩
theorem stP_sizes {v : Int} {b r : ByteArray} {st : StateD} (h : stP v b = .ok st r) : st.jobs.length ≤ 40 ∧ st.nodes.length ≤ 20 ∧ st.leases.length ≤ 40 ∧ JobsOk st.jobs ∧ NodesOk st.nodes ∧ LeasesOk st.leases := by
  unfold stP at h
  cases h1 : revP v b with
  | bad x => rw [h1] at h; cases h
  | ok rev s1 =>
    rw [h1, RR.bind_ok] at h
    cases h2 : takeP 40 (jobP v) s1 with
    | bad x => rw [h2] at h; cases h
    | ok j s2 =>
      rw [h2, RR.bind_ok] at h
      cases h3 : takeP 20 (nodeP v) s2 with
      | bad x => rw [h3] at h; cases h
      | ok n s3 =>
        rw [h3, RR.bind_ok] at h
        cases h4 : takeP 40 leaseP s3 with
        | bad x => rw [h4] at h; cases h
        | ok l s4 =>
          rw [h4, RR.bind_ok] at h
          injection h with e1 e2
          subst e1
          obtain ⟨a1, a2⟩ := takeP_all h2
          obtain ⟨b1, b2⟩ := takeP_all h3
          obtain ⟨c1, c2⟩ := takeP_all h4
          exact ⟨a1, b1, c1, fun x hx => by obtain ⟨_, _, h⟩ := a2 x hx; have := jobP_size h; omega, fun x hx => by obtain ⟨_, _, h⟩ := b2 x hx; have := nodeP_size h; omega, fun x hx => by obtain ⟨_, _, h⟩ := c2 x hx; have := leaseP_size h; omega⟩
end Go.Proofs.YtbbagnfmoecdfaaGreatDoor
namespace Go.Proofs.YtbbagnfmoecdfaaGreatDoor
open Go.RowKit
set_option maxRecDepth 100000 in
set_option maxHeartbeats 4000000 in
theorem rdecode_arg (b : ByteArray) (v : Int) (w : World) (hv : v < 1 ∨ 3 < v) : Calls Tryz.prog 35 #[.string b, .int .i64 v] w (DecPost b v w) := by
  have Hend := Lib.hid (fun w' => DecPost.none_ (w := w) (w' := w') (decF_arg (b := b) hv))
  have hb1 : Below w.heap.size w (w.alloc (.cells #[.int .i64 v] 3)) := (Below.refl _ _).alloc (Nat.le_refl _) _
  have Hb2 := Lib.hid (hb1.alloc hb1.size (.cells #[.int .i64 0, .slice none 0 0, .slice none 0 0, .slice none 0 0] 30))
  have HO := Lib.hid (fun W => outside_yes v 1 3 hv W)
  clear hb1 hv
  go_enter Tryz.func35, Tryz.ntmps35
  go_wp2_with fail
  refine Calls.mono (HO.out _) ?_
  rintro e w1 ⟨rfl, rfl⟩
  go_wp2
  refine bodyPost_ret (v := .tuple #[.agg #[.int .i64 0, .slice none 0 0, .slice none 0 0, .slice none 0 0], .int .i64 1]) (by simp [results, Tryz.results35, go_sem]) rfl ?_
  exact Hend.out _ Hb2.out
/-- What the reading leaves for Decode. -/
def DKept (b : ByteArray) (v : Int) (w0 : World) (R S E : Nat) (W : World) : Prop :=
  Below w0.heap.size w0 W ∧ Blk W R 30 #[.int .i64 0, .slice none 0 0, .slice none 0 0, .slice none 0 0] ∧ match stP v b with
  | .ok st _ => ∃ x : StA, Blk W S 30 (stC st x) ∧ StOwn W (E + 1) st x
  | .bad _ => ∃ cs, Blk W S 30 cs
theorem DKept.grow {b : ByteArray} {v : Int} {w0 W W' : World} {R S E : Nat} (h : DKept b v w0 R S E W) (hg : W.grownBy W' (some E)) (h1 : w0.heap.size ≤ E) (hR : R ≠ E) (hS : S ≠ E) : DKept b v w0 R S E W' := by
  obtain ⟨a1, a2, a3⟩ := h
  refine ⟨grow_keep a1 hg h1, grow_blk hg a2 hR, ?_⟩
  revert a3
  cases stP v b with
  | bad x => exact fun ⟨cs, hb⟩ => ⟨cs, grow_blk hg hb hS⟩
  | ok st r => exact fun ⟨x, hb, ho⟩ => ⟨x, grow_blk hg hb hS, ho.grow hg (Nat.lt_succ_self _)⟩
set_option maxRecDepth 100000 in
set_option maxHeartbeats 4000000 in
theorem rdecode_in (b : ByteArray) (v : Int) (w : World) (hb : b.size ≤ 9223372036854775807) (hv : ¬ (v < 1 ∨ 3 < v)) : Calls Tryz.prog 35 #[.string b, .int .i64 v] w (DecPost b v w) := by
  have Hbad := Lib.hid (fun x h w' => DecPost.none_ (w := w) (w' := w') (decF_bad (b := b) (e := x) hv h))
  have Hchk := Lib.hid (fun st r h h3 w' => DecPost.none_ (w := w) (w' := w') (decF_check (b := b) (r := r) (st := st) hv h h3))
  have Hok := Lib.hid (fun st r h h3 => decF_ok (b := b) (v := v) (r := r) (st := st) hv h h3)
  have hb1 : Below w.heap.size w (w.alloc (.cells #[.int .i64 v] 3)) := (Below.refl _ _).alloc (Nat.le_refl _) _
  have hb2 := hb1.alloc hb1.size (.cells #[.int .i64 0, .slice none 0 0, .slice none 0 0, .slice none 0 0] 30)
  have hb3 := hb2.alloc hb2.size (.cells #[.int .i64 0, .slice none 0 0, .slice none 0 0, .slice none 0 0] 30)
  have HO := Lib.hid (fun W => outside_no v 1 3 (by omega) (by omega) W)
  obtain ⟨W0, hW0⟩ : ∃ W0, W0 = ((w.alloc (.cells #[.int .i64 v] 3)).alloc (.cells #[.int .i64 0, .slice none 0 0, .slice none 0 0, .slice none 0 0] 30)).alloc (.cells #[.int .i64 0, .slice none 0 0, .slice none 0 0, .slice none 0 0] 30) := ⟨_, rfl⟩
  have hsz : W0.heap.size = w.heap.size + 3 := by rw [hW0]; simp
  have BV : Blk W0 w.heap.size 3 #[.int .i64 v] := by rw [hW0]; exact Blk.alloc (Blk.alloc (show Blk _ _ _ _ from heap_alloc_new w _) _) _
  have BR : Blk W0 (w.heap.size + 1) 30 #[.int .i64 0, .slice none 0 0, .slice none 0 0, .slice none 0 0] := by
    have h := heap_alloc_new (w.alloc (.cells #[.int .i64 v] 3)) (.cells #[.int .i64 0, .slice none 0 0, .slice none 0 0, .slice none 0 0] 30)
    rw [show (w.alloc (.cells #[.int .i64 v] 3)).heap.size = w.heap.size + 1 by simp] at h
    rw [hW0]; exact Blk.alloc (show Blk _ _ _ _ from h) _
  have BS : Blk W0 (w.heap.size + 2) 30 #[.int .i64 0, .slice none 0 0, .slice none 0 0, .slice none 0 0] := by
    have h := heap_alloc_new ((w.alloc (.cells #[.int .i64 v] 3)).alloc (.cells #[.int .i64 0, .slice none 0 0, .slice none 0 0, .slice none 0 0] 30)) (.cells #[.int .i64 0, .slice none 0 0, .slice none 0 0, .slice none 0 0] 30)
    rw [show ((w.alloc (.cells #[.int .i64 v] 3)).alloc (.cells #[.int .i64 0, .slice none 0 0, .slice none 0 0, .slice none 0 0] 30)).heap.size = w.heap.size + 2 by simp] at h
    rw [hW0]; exact h
  have hb3 : Below w.heap.size w W0 := by rw [hW0]; exact hb3
  have hRd := readAll 133 #[.pointer (some ⟨w.heap.size, 0, none⟩), .pointer (some ⟨w.heap.size + 2, 0, none⟩)] b W0 hb (Go.Proofs.enters_of Tryz.func133 (by kernel_rfl) rfl) (stP v b).st (DKept b v w (w.heap.size + 1) (w.heap.size + 2) W0.heap.size)
    (fun W u h => h.grow (grow_set _ _ _ _) (by omega) (by omega) (by omega)) (fun W W' h _ hg => h.grow hg (by omega) (by omega) (by omega))
    (fun W hB hz hx => by
      have h1 := BV.below hB (by omega)
      have h2 := BS.below hB (by omega)
      have h3 := BR.below hB (by omega)
      have hd : Calls Tryz.prog 133 #[.pointer (some ⟨W0.heap.size + 1, 0, none⟩), .pointer (some ⟨w.heap.size, 0, none⟩), .pointer (some ⟨w.heap.size + 2, 0, none⟩)] W (D1Post (W0.heap.size + 1) (w.heap.size + 2) v b W) := by
        by_cases h2v : 2 < v
        · exact rdec1_yes _ _ _ v b W hx h1 h2 (by omega) (by omega) (by omega) h2v
        · exact rdec1_no _ _ _ v b W hx h1 h2 (by omega) (by omega) (by omega) h2v
      refine Calls.mono hd ?_
      rintro e W' ⟨hT, hp⟩
      have hk : Below w.heap.size w W' := hT.below (hb3.trans (hB.mono hb3.size)) (by omega) (by omega)
      have hR := hT.blk h3 (by omega) (by omega)
      have hE := hT.block W0.heap.size (by omega) (by omega) (by omega)
      unfold DKept
      cases hst : stP v b with
      | bad x =>
        rw [hst] at hp
        exact ⟨hp.1, hE, hk, hR, hp.2⟩
      | ok st r =>
        rw [hst] at hp
        obtain ⟨p1, p2, x, p3, p4⟩ := hp
        exact ⟨⟨p1, p2⟩, hE, hk, hR, x, p3, ⟨ownT_base p4.j (by omega), ownT_base p4.n (by omega), ownT_base p4.l (by omega), p4.lj, p4.ln, p4.ll⟩⟩)
  have hgd := stP_good v hb
  have hcs := endP_cases hgd
  have hszs := fun st r h => stP_sizes (v := v) (b := b) (st := st) (r := r) h
  have HRd := Lib.hid hRd
  clear hRd
  have Hcs := Lib.hid hcs
  have Hsz := Lib.hid hszs
  have HW0 := Lib.hid hW0
  have HS0 := Lib.hid hsz
  clear hb1 hb2 hb3 hv hb hW0 hsz BV BR BS hgd hcs hszs
  go_enter Tryz.func35, Tryz.ntmps35
  go_wp2_with fail
  refine Calls.mono (HO.out _) ?_
  rintro e w1 ⟨rfl, rfl⟩
  have hmf : ∀ (fn : Fn) (first cap : Array Value) (w : World), (Instr.makeFunc fn first cap).run Tryz.prog w = .ok (.func fn first cap) w := fun _ _ _ _ => rfl
  go_wp2_with fail
  rw [← HW0.out]
  refine Calls.mono HRd.out ?_
  rintro e w2 ⟨rfl, hk⟩
  obtain ⟨hbA, hRb, hk3⟩ := hk
  have HRb := Lib.hid hRb
  have HKb := Lib.hid hbA
  have hRl := hRb.lt
  have HS0' := HS0
  have u0 : w2.frozen? ⟨w.heap.size + 1, 0, none⟩ = false := hRb.thaw 0
  have s0 : w2.cell? ⟨w.heap.size + 1, 0, none⟩ = some (.int .i64 0) := hRb.cell 0
  have u1 : w2.frozen? ⟨w.heap.size + 1, 1, none⟩ = false := hRb.thaw 1
  have s1 : w2.cell? ⟨w.heap.size + 1, 1, none⟩ = some (.slice none 0 0) := hRb.cell 1
  have u2 : w2.frozen? ⟨w.heap.size + 1, 2, none⟩ = false := hRb.thaw 2
  have s2 : w2.cell? ⟨w.heap.size + 1, 2, none⟩ = some (.slice none 0 0) := hRb.cell 2
  have u3 : w2.frozen? ⟨w.heap.size + 1, 3, none⟩ = false := hRb.thaw 3
  have s3 : w2.cell? ⟨w.heap.size + 1, 3, none⟩ = some (.slice none 0 0) := hRb.cell 3
  rcases Hcs.out with ⟨x, hx0, hxE, hres⟩ | ⟨st, r, hst, hE0, hres⟩
  · rw [hxE]
    have hne : ((x : Int) == 0) = false := by rw [beq_eq_false_iff_ne]; omega
    have hne2 : ((x : Int) != 0) = true := by rw [bne_iff_ne]; omega
    have hR4 := ((((HRb.out.set 0 (.int .i64 0)).set 1 (.slice none 0 0)).set 2 (.slice none 0 0)).set 3 (.slice none 0 0))
    have q0 := (show _ = (some (.int .i64 0) : Option Value) from hR4.cell 0)
    have q1 := (show _ = (some (.slice none 0 0) : Option Value) from hR4.cell 1)
    have q2 := (show _ = (some (.slice none 0 0) : Option Value) from hR4.cell 2)
    have q3 := (show _ = (some (.slice none 0 0) : Option Value) from hR4.cell 3)
    have hK4 := Lib.hid (grow_keep (grow_keep (grow_keep (grow_keep HKb.out (grow_set _ (w.heap.size + 1) 0 (.int .i64 0)) (by omega)) (grow_set _ (w.heap.size + 1) 1 (.slice none 0 0)) (by omega)) (grow_set _ (w.heap.size + 1) 2 (.slice none 0 0)) (by omega)) (grow_set _ (w.heap.size + 1) 3 (.slice none 0 0)) (by omega))
    clear hR4
    have Hend := Lib.hid (Hbad.out x hres _ hK4.out)
    clear hres hxE hk3 hbA hRb
    go_wp2
    refine bodyPost_ret (v := .tuple #[.agg #[.int .i64 0, .slice none 0 0, .slice none 0 0, .slice none 0 0], .int .i64 (x : Int)]) (by simp [results, Tryz.results35, go_sem, *]) rfl ?_
    exact Hend.out
  · rw [hE0]
    rw [hst] at hk3
    obtain ⟨x, hB, hO⟩ := hk3
    obtain ⟨z1, z2, z3, z4, z5, z6⟩ := Hsz.out st r hst
    have hAt := hO.at_ (by have := hO.lj; omega) (by have := hO.ln; omega) (by have := hO.ll; omega) z4 z5 z6
    have HAt := Lib.hid hAt
    have HO2 := Lib.hid hO
    have HC := Lib.hid (rcheck_any st x w2 hAt)
    have hSl := hB.lt
    have HB := Lib.hid hB
    have Hchk' := Lib.hid (Hchk.out st r hres)
    have Hok' := Lib.hid (Hok.out st r hres)
    have v0 : w2.cell? ⟨w.heap.size + 1 + 1, 0, none⟩ = some (.int .i64 st.rev) := hB.cell 0
    have v1 : w2.cell? ⟨w.heap.size + 1 + 1, 1, none⟩ = some (.slice x.aj x.nj x.cj) := hB.cell 1
    have v2 : w2.cell? ⟨w.heap.size + 1 + 1, 2, none⟩ = some (.slice x.an x.nn x.cn) := hB.cell 2
    have v3 : w2.cell? ⟨w.heap.size + 1 + 1, 3, none⟩ = some (.slice x.al x.nl x.cl) := hB.cell 3
    obtain ⟨E, hE⟩ : ∃ E, checkE st = E := ⟨_, rfl⟩
    unfold RCPost at HC
    rw [hE] at HC Hchk' Hok'
    have Hst := Lib.hid hst
    unfold stC at HC
    clear hE hst hres hE0 hbA hRb hB hO hAt z1 z2 z3 z4 z5 z6
    go_wp2_with fail
    refine Calls.mono HC.out ?_
    rintro e w9 ⟨rfl, hb9⟩
    have HR9 := Lib.hid (HRb.out.below hb9 hRl)
    have HS9 := HB.out.below hb9 hSl
    have HK9 := Lib.hid (HKb.out.trans (hb9.mono HKb.out.size))
    have Hb9 := Lib.hid hb9
    have hsz9 := hb9.size
    clear v0 v1 v2 v3
    have uu0 : w9.frozen? ⟨w.heap.size + 1, 0, none⟩ = false := HR9.out.thaw 0
    have ss0 : w9.cell? ⟨w.heap.size + 1, 0, none⟩ = some (.int .i64 0) := HR9.out.cell 0
    have uu1 : w9.frozen? ⟨w.heap.size + 1, 1, none⟩ = false := HR9.out.thaw 1
    have ss1 : w9.cell? ⟨w.heap.size + 1, 1, none⟩ = some (.slice none 0 0) := HR9.out.cell 1
    have uu2 : w9.frozen? ⟨w.heap.size + 1, 2, none⟩ = false := HR9.out.thaw 2
    have ss2 : w9.cell? ⟨w.heap.size + 1, 2, none⟩ = some (.slice none 0 0) := HR9.out.cell 2
    have uu3 : w9.frozen? ⟨w.heap.size + 1, 3, none⟩ = false := HR9.out.thaw 3
    have ss3 : w9.cell? ⟨w.heap.size + 1, 3, none⟩ = some (.slice none 0 0) := HR9.out.cell 3
    have vv0 : w9.cell? ⟨w.heap.size + 1 + 1, 0, none⟩ = some (.int .i64 st.rev) := HS9.cell 0
    have vv1 : w9.cell? ⟨w.heap.size + 1 + 1, 1, none⟩ = some (.slice x.aj x.nj x.cj) := HS9.cell 1
    have vv2 : w9.cell? ⟨w.heap.size + 1 + 1, 2, none⟩ = some (.slice x.an x.nn x.cn) := HS9.cell 2
    have vv3 : w9.cell? ⟨w.heap.size + 1 + 1, 3, none⟩ = some (.slice x.al x.nl x.cl) := HS9.cell 3
    clear HS9 hb9
    by_cases h0 : E = 0
    · subst h0
      have Hres := Lib.hid (Hok'.out rfl)
      have hR4 := ((((HR9.out.set 0 (.int .i64 st.rev)).set 1 (.slice x.aj x.nj x.cj)).set 2 (.slice x.an x.nn x.cn)).set 3 (.slice x.al x.nl x.cl))
      have q0 := (show _ = (some (.int .i64 st.rev) : Option Value) from hR4.cell 0)
      have q1 := (show _ = (some (.slice x.aj x.nj x.cj) : Option Value) from hR4.cell 1)
      have q2 := (show _ = (some (.slice x.an x.nn x.cn) : Option Value) from hR4.cell 2)
      have q3 := (show _ = (some (.slice x.al x.nl x.cl) : Option Value) from hR4.cell 3)
      have hK4 := Lib.hid (grow_keep (grow_keep (grow_keep (grow_keep HK9.out (grow_set _ (w.heap.size + 1) 0 (.int .i64 st.rev)) (by omega)) (grow_set _ (w.heap.size + 1) 1 (.slice x.aj x.nj x.cj)) (by omega)) (grow_set _ (w.heap.size + 1) 2 (.slice x.an x.nn x.cn)) (by omega)) (grow_set _ (w.heap.size + 1) 3 (.slice x.al x.nl x.cl)) (by omega))
      clear hR4
      go_wp2
      refine bodyPost_ret (v := .tuple #[.agg #[.int .i64 st.rev, .slice x.aj x.nj x.cj, .slice x.an x.nn x.cn, .slice x.al x.nl x.cl], .int .i64 0]) (by simp [results, Tryz.results35, go_sem, *]) rfl ?_
      refine ⟨st, x, 0, rfl, Hres.out, ?_, hK4.out⟩
      exact stAt_sets HAt.out HO2.out.j HO2.out.n HO2.out.l (by have := HS0.out; omega) (by have := HS0.out; omega) (by have := HS0.out; omega) Hb9.out _ _ _ _
    · have hne : (E != 0) = true := bne_iff_ne.2 h0
      have hR4 := ((((HR9.out.set 0 (.int .i64 0)).set 1 (.slice none 0 0)).set 2 (.slice none 0 0)).set 3 (.slice none 0 0))
      have q0 := (show _ = (some (.int .i64 0) : Option Value) from hR4.cell 0)
      have q1 := (show _ = (some (.slice none 0 0) : Option Value) from hR4.cell 1)
      have q2 := (show _ = (some (.slice none 0 0) : Option Value) from hR4.cell 2)
      have q3 := (show _ = (some (.slice none 0 0) : Option Value) from hR4.cell 3)
      have hK4 := Lib.hid (grow_keep (grow_keep (grow_keep (grow_keep HK9.out (grow_set _ (w.heap.size + 1) 0 (.int .i64 0)) (by omega)) (grow_set _ (w.heap.size + 1) 1 (.slice none 0 0)) (by omega)) (grow_set _ (w.heap.size + 1) 2 (.slice none 0 0)) (by omega)) (grow_set _ (w.heap.size + 1) 3 (.slice none 0 0)) (by omega))
      clear hR4
      have Hend := Lib.hid (Hchk'.out h0 _ hK4.out)
      go_wp2
      refine bodyPost_ret (v := .tuple #[.agg #[.int .i64 0, .slice none 0 0, .slice none 0 0, .slice none 0 0], .int .i64 E]) (by simp [results, Tryz.results35, go_sem, *]) rfl ?_
      exact Hend.out
theorem rdecode_any (b : ByteArray) (v : Int) (w : World) (hb : b.size ≤ 9223372036854775807) : Calls Tryz.prog 35 #[.string b, .int .i64 v] w (DecPost b v w) := by
  by_cases hv : v < 1 ∨ 3 < v
  · exact rdecode_arg b v w hv
  · exact rdecode_in b v w hb hv
theorem wdecode_any (b : ByteArray) (v : Int) (w : World) (hb : b.size ≤ 9223372036854775807) (hT : Tabs w) : Calls Tryz.prog 31 #[.string b, .int .i64 v] w (DecPost b v w) := by
  by_cases hv : v < 1 ∨ 3 < v
  · exact wdecode_arg b v w hv
  · by_cases h2 : 2 < v
    · exact wdecode_1 b v w hb hT hv h2
    · exact wdecode_0 b v w hb hT hv h2
end Go.Proofs.YtbbagnfmoecdfaaGreatDoor
