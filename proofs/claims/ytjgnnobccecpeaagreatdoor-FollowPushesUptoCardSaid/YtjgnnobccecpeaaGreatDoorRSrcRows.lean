/- Of the proof of a statement: SrcRows. -/
import Derived.Test.YtjgnnobccecpeaaGreatDoorRSrcRow
set_option linter.unusedVariables false
set_option linter.unusedSimpArgs false
set_option maxRecDepth 100000
set_option maxHeartbeats 8000000
/- The walk of the reference's rows: three tables, one after another. -/
namespace Go.Proofs.YtjgnnobccecpeaaGreatDoor
open Go.Lib (hid)
open Go.RowKit
def SkRel {α : Type} (p : ByteArray → RR α) (tot : RR (List α)) (n k : Nat) (l : List α) (s : ByteArray) : Prop := tot = (repP p (n - k) s).bind fun l' r => .ok (l ++ l') r
theorem SkRel.start {α : Type} {p : ByteArray → RR α} {most n : Nat} {s r : ByteArray} (h : manyP most s = .ok n r) : SkRel p (takeP most p s) n 0 [] r := by
 unfold SkRel takeP
 rw [h, RR.bind_ok, Nat.sub_zero]
 cases repP p n r with
 | bad x => rfl
 | ok l' r' => simp [RR.bind_ok]
theorem SkRel.step {α : Type} {p : ByteArray → RR α} {tot : RR (List α)} {n k : Nat} {l : List α} {s r : ByteArray} {a : α} (h : SkRel p tot n k l s) (hk : k < n) (hp : p s = .ok a r) : SkRel p tot n (k + 1) (l ++ [a]) r := by
 unfold SkRel at *
 rw [show n - k = (n - (k + 1)) + 1 by omega, repP, hp, RR.bind_ok] at h
 rw [h]
 cases repP p (n - (k + 1)) r with
 | bad x => rfl
 | ok l' r' => simp [RR.bind_ok]
theorem SkRel.bad {α : Type} {p : ByteArray → RR α} {tot : RR (List α)} {n k x : Nat} {l : List α} {s : ByteArray} (h : SkRel p tot n k l s) (hk : k < n) (hp : p s = .bad x) : tot = .bad x := by
 unfold SkRel at *
 rw [show n - k = (n - (k + 1)) + 1 by omega, repP, hp, RR.bind_bad, RR.bind_bad] at h
 exact h
theorem SkRel.done {α : Type} {p : ByteArray → RR α} {tot : RR (List α)} {n : Nat} {l : List α} {s : ByteArray} (h : SkRel p tot n n l s) : tot = .ok l s := by
 unfold SkRel at h
 rw [Nat.sub_self, repP, RR.bind_ok, List.append_nil] at h
 exact h
theorem takeP_many {α : Type} {p : ByteArray → RR α} {most x : Nat} {s : ByteArray} (h : manyP most s = .bad x) : takeP most p s = .bad x := by unfold takeP; rw [h, RR.bind_bad]
def rowsP (v : Int) (s : ByteArray) : RR (List JobD × List NodeD × List LeaseD) :=
 (takeP 40 (jobP v) s).bind fun j s => (takeP 20 (nodeP v) s).bind fun n s => (takeP 40 leaseP s).bind fun l s => .ok (j, n, l) s
def SRowsPost (g : Nat) (v : Int) (s : ByteArray) (w : World) (e : Ending) (w' : World) : Prop :=
 w.grownBy w' (some g) ∧ match rowsP v s with
 | .ok (j, n, l) r => ∃ aj cj an cn al cl, e = .returned (.tuple #[.slice aj j.length cj, .slice an n.length cn, .slice al l.length cl]) ∧ SxAt w' g r ∧
  w'.ownsRow w.heap.size 38 5 (.slice aj j.length cj) j.length (rowsV jobV j) ∧ w'.ownsRow w.heap.size 40 3 (.slice an n.length cn) n.length (rowsV nodeV n) ∧ w'.ownsRow w.heap.size 42 3 (.slice al l.length cl) l.length (rowsV leaseV l)
 | .bad x => e = thrown x
theorem SRowsPost.bad {g x : Nat} {v : Int} {s : ByteArray} {w w' : World} (h : rowsP v s = .bad x) (hg : w.grownBy w' (some g)) : SRowsPost g v s w (thrown x) w' := ⟨hg, by rw [h]⟩
theorem manyP_le {most n : Nat} {s r : ByteArray} (h : manyP most s = .ok n r) : n ≤ most := by
 unfold manyP at h
 cases hn : numP s with
 | bad x => rw [hn] at h; cases h
 | ok a r1 =>
  rw [hn, RR.bind_ok] at h
  by_cases hb : most < a
  · rw [if_pos hb] at h; cases h
  · rw [if_neg hb] at h; injection h with h1 h2; omega
theorem SxAt.grewT {w w' : World} {g base : Nat} {s : ByteArray} {v v' : Value} (h : SxAt w g s) (hg : Grew w w' v v') (hv : ∀ k, v.ownBlock = some k → base ≤ k) (hgb : g < base) : SxAt w' g s := ⟨h.1.grewT hg hv hgb, h.2⟩
def SkInv {α : Type} (p : ByteArray → RR α) (tot : RR (List α)) (g n : Nat) (T : TypeId) (sz : Nat) (enc : α → List Value) (w : World) (out i : Value) (wr : World) : Prop :=
 ∃ (k : Nat) (A : Option Addr) (c : Nat) (l : List α) (s : ByteArray), k ≤ n ∧ i = .int .i64 k ∧ out = .slice A k c ∧ l.length = k ∧ SxAt wr g s ∧ w.grownBy wr (some g) ∧ wr.ownsRow w.heap.size T sz (.slice A k c) k (rowsV enc l) ∧ SkRel p tot n k l s
theorem sxrows (g : Nat) (s : ByteArray) (v : Int) (w : World) (h : SxAt w g s) :
 Calls Tryz.prog 177 #[.pointer (some ⟨g, 0, none⟩), .int .i64 v] w (SRowsPost g v s w) := by
 have hgl := h.1.lt
 have Hx := hid h
 have Kg := hid (grow_refl w g)
 have hsz : w.heap.size ≤ w.heap.size := Nat.le_refl _
 have Kb := hid (fun x (hb : rowsP v s = .bad x) w' (hg : w.grownBy w' (some g)) => SRowsPost.bad (v := v) (s := s) hb hg)
 clear h
 go_enter Tryz.func177, Tryz.ntmps177
 go_wp2_with fail
 refine Calls.mono (sxmany g 40 s _ Hx.out (by decide)) ?_
 intro e wj0 hp
 rcases hr : manyP 40 s with ⟨mj, sj0⟩ | x
 rotate_left
 · obtain ⟨rfl, hg⟩ := hp.bad hr
   have hr := hid (takeP_many (p := jobP v) hr)
   have hend := hid (Kb.out x (by unfold rowsP; rw [hr.out]; rw [RR.bind_bad]) _ (grow_trans Kg.out hg))
   clear hg hp
   unfold thrown
   go_wp2
   exact ⟨rfl, hend.out⟩
 obtain ⟨rfl, hs1, hg1⟩ := hp.ok hr
 have Sj := hid (SkRel.start (p := jobP v) hr)
 have hmj : mj ≤ 40 := manyP_le hr
 have Xj := hid hs1
 have hbj : g < wj0.heap.size := by have := hg1.size; omega
 have hwj : w.heap.size ≤ wj0.heap.size := by have := hg1.size; omega
 have Gj := hid (grow_trans Kg.out hg1)
 clear hr hp hs1 hg1 Kg Hx
 go_wp2
 go_loopw [4, 9] (fun out i wr => SkInv (jobP v) (takeP 40 (jobP v) s) g mj 38 5 jobV wj0 out i wr) (fun _ i _ => mj - (intOf i).toNat)
 case atStart => exact ⟨0, none, 0, [], sj0, Nat.zero_le _, rfl, rfl, rfl, Xj.out, grow_refl _ _, World.ownsRow_nil _ _ _ _, Sj.out⟩
 case round =>
  obtain ⟨k, aj, c_j, lj, zj, hk, rfl, rfl, hl, hok, hkp, ho, hrel⟩ := hrel
  have Hok := hid hok
  have Hkp := hid hkp
  have Ho := hid ho
  have Hrel := hid hrel
  have Hl := hid hl
  have hwr := hkp.size
  clear hok hkp ho hrel hl
  by_cases hlt : k < mj
  · go_wp2_with fail
    refine Calls.mono (sxjob g zj v _ Hok.out) ?_
    intro e w3 hp
    rcases hr : jobP v zj with ⟨⟨name, prio, need, tries, tag⟩, r3⟩ | x
    rotate_left
    · obtain ⟨rfl, hg⟩ := hp.bad hr
      have hr := hid (Hrel.out.bad hlt hr)
      have hend := hid (Kb.out x (by unfold rowsP; rw [hr.out]; rw [RR.bind_bad]) _ (grow_trans Gj.out (grow_trans Hkp.out hg)))
      clear hg hp
      unfold thrown
      go_wp2
      exact ⟨rfl, hend.out⟩
    obtain ⟨rfl, hs3, hg3⟩ := hp.ok hr
    have Hrel3 := hid (Hrel.out.step hlt hr)
    have ho3 := ownT_grow Ho.out hg3 hbj
    have hbr : wj0.heap.size ≤ w3.heap.size := by have := hg3.size; omega
    have Ok3 := hid hs3
    have Kp3 := hid (grow_trans Hkp.out hg3)
    have Hlt := hid ho3.lt
    clear hs3 hg3 hr hp
    dsimp only
    rw [show (Value.agg (jobV ⟨name, prio, need, tries, tag⟩).toArray) = .agg #[.string name, .int .i64 prio, .int .i64 need, .int .i64 tries, .string tag] from rfl]
    go_wp2_with (at_builtin; refine push_rec jobV rfl _ _ 22 38 (.agg #[.string ⟨#[]⟩, .int .i64 0, .int .i64 0, .int .i64 0, .string ⟨#[]⟩]) 5 56 rfl Tryz.underlying22 infoJobT rfl (by decide) jobV_len jobV_oneT wj0.heap.size _ _ _ lj rfl ho3 _ ⟨name, prio, need, tries, tag⟩ rfl _ (by simp) rfl (by omega) (by unfold maxLen; omega) hbr ?_; intro A2 c2 w4 ho4 hg4)
    have Ok4 := hid (Ok3.out.grewT hg4 (fun k hk => (Hlt.out k hk).1) hbj)
    have Kp4 := hid (bes_grew Kp3.out hg4 (fun k hk => (Hlt.out k hk).1))
    go_roundw
    case rel => exact ⟨k + 1, A2, c2, lj ++ [⟨name, prio, need, tries, tag⟩], _, by omega, by go_num, rfl, by simp [Hl.out], Ok4.out, Kp4.out, ho4, Hrel3.out⟩
    case measure => simp [intOf]; omega
  · obtain rfl : mj = k := by omega
    have Dj := hid Hrel.out.done
    have hlj := Hl.out
    have Kg := hid (grow_trans Gj.out Hkp.out)
    have Hx := hid Hok.out
    have Oj := hid Ho.out
    clear Hrel Hl Hok Hkp Ho Sj Xj Gj hlt hk
    go_wp2_with fail
    refine Calls.mono (sxmany g 20 zj _ Hx.out (by decide)) ?_
    intro e wn0 hp
    rcases hr : manyP 20 zj with ⟨mn, sn0⟩ | x
    rotate_left
    · obtain ⟨rfl, hg⟩ := hp.bad hr
      have hr := hid (takeP_many (p := nodeP v) hr)
      have hend := hid (Kb.out x (by unfold rowsP; rw [Dj.out]; rw [RR.bind_ok]; rw [hr.out]; rw [RR.bind_bad]) _ (grow_trans Kg.out hg))
      clear hg hp
      unfold thrown
      go_wp2
      exact ⟨rfl, hend.out⟩
    obtain ⟨rfl, hs1, hg1⟩ := hp.ok hr
    have Sn := hid (SkRel.start (p := nodeP v) hr)
    have hmn : mn ≤ 20 := manyP_le hr
    have Xn := hid hs1
    have hbn : g < wn0.heap.size := by have := hg1.size; omega
    have hwn : w.heap.size ≤ wn0.heap.size := by have := hg1.size; omega
    have Oj' := hid (ownT_grow Oj.out hg1 (by omega))
    have Gn := hid (grow_trans Kg.out hg1)
    clear hr hp hs1 hg1 Kg Hx Oj
    go_wp2
    go_loopw [5, 20] (fun out i wr => SkInv (nodeP v) (takeP 20 (nodeP v) zj) g mn 40 3 nodeV wn0 out i wr) (fun _ i _ => mn - (intOf i).toNat)
    case atStart => exact ⟨0, none, 0, [], sn0, Nat.zero_le _, rfl, rfl, rfl, Xn.out, grow_refl _ _, World.ownsRow_nil _ _ _ _, Sn.out⟩
    case round =>
     obtain ⟨k, an, c_n, ln, zn, hk, rfl, rfl, hl, hok, hkp, ho, hrel⟩ := hrel
     have Hok := hid hok
     have Hkp := hid hkp
     have Ho := hid ho
     have Hrel := hid hrel
     have Hl := hid hl
     have hwr := hkp.size
     clear hok hkp ho hrel hl
     by_cases hlt : k < mn
     · go_wp2_with fail
       refine Calls.mono (sxnode g zn v _ Hok.out) ?_
       intro e w3 hp
       rcases hr : nodeP v zn with ⟨⟨name, room, zone⟩, r3⟩ | x
       rotate_left
       · obtain ⟨rfl, hg⟩ := hp.bad hr
         have hr := hid (Hrel.out.bad hlt hr)
         have hend := hid (Kb.out x (by unfold rowsP; rw [Dj.out]; rw [RR.bind_ok]; rw [hr.out]; rw [RR.bind_bad]) _ (grow_trans Gn.out (grow_trans Hkp.out hg)))
         clear hg hp
         unfold thrown
         go_wp2
         exact ⟨rfl, hend.out⟩
       obtain ⟨rfl, hs3, hg3⟩ := hp.ok hr
       have Hrel3 := hid (Hrel.out.step hlt hr)
       have ho3 := ownT_grow Ho.out hg3 hbn
       have hbr : wn0.heap.size ≤ w3.heap.size := by have := hg3.size; omega
       have Ok3 := hid hs3
       have Kp3 := hid (grow_trans Hkp.out hg3)
       have Hlt := hid ho3.lt
       clear hs3 hg3 hr hp
       dsimp only
       rw [show (Value.agg (nodeV ⟨name, room, zone⟩).toArray) = .agg #[.string name, .int .i64 room, .string zone] from rfl]
       go_wp2_with (at_builtin; refine push_rec nodeV rfl _ _ 23 40 (.agg #[.string ⟨#[]⟩, .int .i64 0, .string ⟨#[]⟩]) 3 40 rfl Tryz.underlying23 infoNodeT rfl (by decide) nodeV_len nodeV_oneT wn0.heap.size _ _ _ ln rfl ho3 _ ⟨name, room, zone⟩ rfl _ (by simp) rfl (by omega) (by unfold maxLen; omega) hbr ?_; intro A2 c2 w4 ho4 hg4)
       have Ok4 := hid (Ok3.out.grewT hg4 (fun k hk => (Hlt.out k hk).1) hbn)
       have Kp4 := hid (bes_grew Kp3.out hg4 (fun k hk => (Hlt.out k hk).1))
       go_roundw
       case rel => exact ⟨k + 1, A2, c2, ln ++ [⟨name, room, zone⟩], _, by omega, by go_num, rfl, by simp [Hl.out], Ok4.out, Kp4.out, ho4, Hrel3.out⟩
       case measure => simp [intOf]; omega
     · obtain rfl : mn = k := by omega
       have Dn := hid Hrel.out.done
       have hln := Hl.out
       have Kg := hid (grow_trans Gn.out Hkp.out)
       have Hx := hid Hok.out
       have Oj := hid (ownT_grow Oj'.out Hkp.out (by omega))
       have On := hid Ho.out
       clear Hrel Hl Hok Hkp Ho Sn Xn Gn hlt hk Oj'
       go_wp2_with fail
       refine Calls.mono (sxmany g 40 zn _ Hx.out (by decide)) ?_
       intro e wl0 hp
       rcases hr : manyP 40 zn with ⟨ml, sl0⟩ | x
       rotate_left
       · obtain ⟨rfl, hg⟩ := hp.bad hr
         have hr := hid (takeP_many (p := leaseP) hr)
         have hend := hid (Kb.out x (by unfold rowsP; rw [Dj.out]; rw [RR.bind_ok]; rw [Dn.out]; rw [RR.bind_ok]; rw [hr.out]; rw [RR.bind_bad]) _ (grow_trans Kg.out hg))
         clear hg hp
         unfold thrown
         go_wp2
         exact ⟨rfl, hend.out⟩
       obtain ⟨rfl, hs1, hg1⟩ := hp.ok hr
       have Sl := hid (SkRel.start (p := leaseP) hr)
       have hml : ml ≤ 40 := manyP_le hr
       have Xl := hid hs1
       have hbl : g < wl0.heap.size := by have := hg1.size; omega
       have hwl : w.heap.size ≤ wl0.heap.size := by have := hg1.size; omega
       have Oj' := hid (ownT_grow Oj.out hg1 (by omega))
       have On' := hid (ownT_grow On.out hg1 (by omega))
       have Gl := hid (grow_trans Kg.out hg1)
       clear hr hp hs1 hg1 Kg Hx Oj On
       go_wp2
       go_loopw [6, 31] (fun out i wr => SkInv (leaseP) (takeP 40 (leaseP) zn) g ml 42 3 leaseV wl0 out i wr) (fun _ i _ => ml - (intOf i).toNat)
       case atStart => exact ⟨0, none, 0, [], sl0, Nat.zero_le _, rfl, rfl, rfl, Xl.out, grow_refl _ _, World.ownsRow_nil _ _ _ _, Sl.out⟩
       case round =>
        obtain ⟨k, al, c_l, ll, zl, hk, rfl, rfl, hl, hok, hkp, ho, hrel⟩ := hrel
        have Hok := hid hok
        have Hkp := hid hkp
        have Ho := hid ho
        have Hrel := hid hrel
        have Hl := hid hl
        have hwr := hkp.size
        clear hok hkp ho hrel hl
        by_cases hlt : k < ml
        · go_wp2_with fail
          refine Calls.mono (sxlease g zl _ Hok.out) ?_
          intro e w3 hp
          rcases hr : leaseP zl with ⟨⟨job, node, till⟩, r3⟩ | x
          rotate_left
          · obtain ⟨rfl, hg⟩ := hp.bad hr
            have hr := hid (Hrel.out.bad hlt hr)
            have hend := hid (Kb.out x (by unfold rowsP; rw [Dj.out]; rw [RR.bind_ok]; rw [Dn.out]; rw [RR.bind_ok]; rw [hr.out]; rw [RR.bind_bad]) _ (grow_trans Gl.out (grow_trans Hkp.out hg)))
            clear hg hp
            unfold thrown
            go_wp2
            exact ⟨rfl, hend.out⟩
          obtain ⟨rfl, hs3, hg3⟩ := hp.ok hr
          have Hrel3 := hid (Hrel.out.step hlt hr)
          have ho3 := ownT_grow Ho.out hg3 hbl
          have hbr : wl0.heap.size ≤ w3.heap.size := by have := hg3.size; omega
          have Ok3 := hid hs3
          have Kp3 := hid (grow_trans Hkp.out hg3)
          have Hlt := hid ho3.lt
          clear hs3 hg3 hr hp
          dsimp only
          rw [show (Value.agg (leaseV ⟨job, node, till⟩).toArray) = .agg #[.string job, .string node, .int .i64 till] from rfl]
          go_wp2_with (at_builtin; refine push_rec leaseV rfl _ _ 24 42 (.agg #[.string ⟨#[]⟩, .string ⟨#[]⟩, .int .i64 0]) 3 40 rfl Tryz.underlying24 infoLeaseT rfl (by decide) leaseV_len leaseV_oneT wl0.heap.size _ _ _ ll rfl ho3 _ ⟨job, node, till⟩ rfl _ (by simp) rfl (by omega) (by unfold maxLen; omega) hbr ?_; intro A2 c2 w4 ho4 hg4)
          have Ok4 := hid (Ok3.out.grewT hg4 (fun k hk => (Hlt.out k hk).1) hbl)
          have Kp4 := hid (bes_grew Kp3.out hg4 (fun k hk => (Hlt.out k hk).1))
          go_roundw
          case rel => exact ⟨k + 1, A2, c2, ll ++ [⟨job, node, till⟩], _, by omega, by go_num, rfl, by simp [Hl.out], Ok4.out, Kp4.out, ho4, Hrel3.out⟩
          case measure => simp [intOf]; omega
        · obtain rfl : ml = k := by omega
          have Dl := hid Hrel.out.done
          have hll := Hl.out
          have Kg := hid (grow_trans Gl.out Hkp.out)
          have Hx := hid Hok.out
          have Oj := hid (ownT_grow Oj'.out Hkp.out (by omega))
          have On := hid (ownT_grow On'.out Hkp.out (by omega))
          have Ol := hid Ho.out
          clear Hrel Hl Hok Hkp Ho Sl Xl Gl hlt hk Oj' On'
          go_wp2
          refine bodyPost_ret (v := .tuple #[.slice aj mj c_j, .slice an mn c_n, .slice al ml c_l]) (by simp [results, Tryz.results177, go_sem]) rfl ?_
          refine ⟨Kg.out, ?_⟩
          rw [show rowsP v s = .ok (lj, ln, ll) zl by unfold rowsP; rw [Dj.out, RR.bind_ok, Dn.out, RR.bind_ok, Dl.out, RR.bind_ok]]
          subst hlj; subst hln; subst hll
          exact ⟨aj, c_j, an, c_n, al, c_l, rfl, Hx.out, ownT_base Oj.out (by omega), ownT_base On.out (by omega), ownT_base Ol.out (by omega)⟩
end Go.Proofs.YtjgnnobccecpeaaGreatDoor
