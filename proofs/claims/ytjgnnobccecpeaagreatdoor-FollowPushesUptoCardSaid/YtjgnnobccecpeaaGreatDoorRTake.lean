/- Of the proof of a statement: Take. -/
import Derived.Test.YtjgnnobccecpeaaGreatDoorRRPhG
import Derived.Test.YtjgnnobccecpeaaGreatDoorRRdRow
import Derived.Test.YtjgnnobccecpeaaGreatDoorRRowsL
set_option linter.unusedVariables false
set_option linter.unusedSimpArgs false
set_option maxRecDepth 100000
set_option maxHeartbeats 8000000
/- The walks of Take: the rows of a table, read one by one. -/
namespace Go.Proofs.YtjgnnobccecpeaaGreatDoor
open Go.Lib (hid)
open Go.RowKit
theorem ryJob_any (g : Nat) (σ : RR Unit) (v : Int) (w : World) (h : RxOk w g σ) :
 Calls Tryz.prog 232 #[.pointer (some ⟨g, 0, none⟩), .int .i64 v] w (RyPost g (σ.bind fun _ s => jobP v s) (fun x : JobD => .agg (jobV x).toArray) (fun _ => True) w) := by
 by_cases h1 : 1 < v
 · by_cases h2 : 2 < v
   · exact ryJob_2 g σ v w h1 h2 h
   · exact ryJob_1 g σ v w h1 h2 h
 · exact ryJob_0 g σ v w h1 (by omega) h
theorem ryNode_any (g : Nat) (σ : RR Unit) (v : Int) (w : World) (h : RxOk w g σ) :
 Calls Tryz.prog 235 #[.pointer (some ⟨g, 0, none⟩), .int .i64 v] w (RyPost g (σ.bind fun _ s => nodeP v s) (fun x : NodeD => .agg (nodeV x).toArray) (fun _ => True) w) := by
 by_cases h1 : 1 < v
 · exact ryNode_1 g σ v w h1 h
 · exact ryNode_0 g σ v w h1 h
theorem infoJobT : (Tryz.prog.info? 38).map (fun i => (i.zero, i.size, i.bytes)) = some (some (.agg #[.string ⟨#[]⟩, .int .i64 0, .int .i64 0, .int .i64 0, .string ⟨#[]⟩]), 5, 56) := by kernel_rfl
theorem infoNodeT : (Tryz.prog.info? 40).map (fun i => (i.zero, i.size, i.bytes)) = some (some (.agg #[.string ⟨#[]⟩, .int .i64 0, .string ⟨#[]⟩]), 3, 40) := by kernel_rfl
theorem infoLeaseT : (Tryz.prog.info? 42).map (fun i => (i.zero, i.size, i.bytes)) = some (some (.agg #[.string ⟨#[]⟩, .string ⟨#[]⟩, .int .i64 0]), 3, 40) := by kernel_rfl
theorem infoStrT : (Tryz.prog.info? 9).map (fun i => (i.zero, i.size, i.bytes)) = some (some (.string ⟨#[]⟩), 1, 16) := by kernel_rfl
theorem jobV_oneT (x : JobD) : ∀ u ∈ jobV x, u.oneCell' = true := by intro u hu; simp [jobV] at hu; rcases hu with rfl | rfl | rfl | rfl | rfl <;> rfl
theorem nodeV_oneT (x : NodeD) : ∀ u ∈ nodeV x, u.oneCell' = true := by intro u hu; simp [nodeV] at hu; rcases hu with rfl | rfl | rfl <;> rfl
theorem leaseV_oneT (x : LeaseD) : ∀ u ∈ leaseV x, u.oneCell' = true := by intro u hu; simp [leaseV] at hu; rcases hu with rfl | rfl | rfl <;> rfl
theorem strV_oneT (x : ByteArray) : ∀ u ∈ strV x, u.oneCell' = true := by intro u hu; simp [strV] at hu; subst hu; rfl
theorem ownT_grow {w w' : World} {base g n sz : Nat} {e : TypeId} {v : Value} {xs : List Value} (ho : w.ownsRow base e sz v n xs) (hg : w.grownBy w' (some g)) (hgb : g < base) : w'.ownsRow base e sz v n xs := by
 rcases ho with ⟨h1, h | ⟨q, cap, cur, hv, hq, hgq, r⟩⟩
 · exact ⟨h1, .inl h⟩
 · have hlt : q < w.heap.size := (Array.getElem?_eq_some_iff.1 hgq).1
   exact ⟨h1, .inr ⟨q, cap, cur, hv, hq, (hg.block q hlt (by simp; omega)).trans hgq, r⟩⟩
theorem RxOk.grewT {w w' : World} {g base : Nat} {σ : RR Unit} {v v' : Value} (h : RxOk w g σ) (hg : Grew w w' v v') (hv : ∀ k, v.ownBlock = some k → base ≤ k) (hgb : g < base) : RxOk w' g σ := by
 have hgr := hg.grown
 cases hb : v.ownBlock with
 | none =>
  rw [hb] at hgr
  exact h.grow (b := w.heap.size) ⟨hgr.os, hgr.tape, hgr.output, hgr.size, fun k hk _ => hgr.block k hk (by simp)⟩ h.at_.lt
 | some b =>
  rw [hb] at hgr
  exact h.grow hgr (Nat.lt_of_lt_of_le hgb (hv b hb))
theorem Blk.grewT {w w' : World} {k base : Nat} {t : TypeId} {cs : Array Value} {v v' : Value} (h : Blk w k t cs) (hg : Grew w w' v v') (hv : ∀ q, v.ownBlock = some q → base ≤ q) (hkb : k < base) : Blk w' k t cs :=
 (hg.grown.block k h.lt (fun e => by have := hv k e.symm; omega)).trans h
def TkRel {α : Type} (p : ByteArray → RR α) (tot : RR (List α)) (n most k : Nat) (l : List α) (τ : RR Unit) : Prop := match τ with
 | .ok _ s => n ≤ most ∧ tot = (repP p (n - k) s).bind fun l' r => .ok (l ++ l') r
 | .bad x => tot = .bad x
def TkPost {α : Type} (g : Nat) (tot : RR (List α)) (T : TypeId) (sz : Nat) (enc : α → List Value) (w : World) (e : Ending) (w' : World) : Prop :=
 ∃ A n c, e = .returned (.slice A n c) ∧ RxOk w' g tot.st ∧ w.grownBy w' (some g) ∧ ∀ l r, tot = .ok l r → l.length = n ∧ w'.ownsRow w.heap.size T sz (.slice A n c) n (rowsV enc l)
def TkInv {α : Type} (p : ByteArray → RR α) (tot : RR (List α)) (g n most : Nat) (T : TypeId) (sz : Nat) (enc : α → List Value) (w : World) (out i : Value) (wr : World) : Prop :=
 ∃ (k : Nat) (A : Option Addr) (c : Nat) (l : List α) (τ : RR Unit), k ≤ n ∧ i = .int .i64 k ∧ out = .slice A k c ∧ l.length = k ∧ RxOk wr g τ ∧ w.grownBy wr (some g) ∧ wr.ownsRow w.heap.size T sz (.slice A k c) k (rowsV enc l) ∧ TkRel p tot n most k l τ
theorem TkRel.step {α : Type} {p : ByteArray → RR α} {tot : RR (List α)} {n most k : Nat} {l : List α} {u : Unit} {s : ByteArray} {a : α} {Z : α → Prop} (h : TkRel p tot n most k l (.ok u s)) (hk : k < n) (hv : RxVal ((RR.ok u s).bind fun _ s => p s) Z a) :
 TkRel p tot n most (k + 1) (l ++ [a]) ((RR.ok u s).bind fun _ s => p s).st := by
 obtain ⟨h1, h2⟩ := h
 rw [RR.bind_ok] at hv ⊢
 rw [show n - k = (n - (k + 1)) + 1 by omega, repP] at h2
 cases hp : p s with
 | bad x =>
  rw [hp] at h2
  exact h2
 | ok b r =>
  rw [hp] at h2 hv
  have hv : a = b := hv
  subst hv
  refine ⟨h1, ?_⟩
  rw [h2, RR.bind_ok]
  cases repP p (n - (k + 1)) r with
  | bad x => rfl
  | ok l' r' => simp [RR.bind_ok]
theorem TkRel.ended {α : Type} {p : ByteArray → RR α} {tot : RR (List α)} {n most : Nat} {l : List α} {τ : RR Unit} (h : TkRel p tot n most n l τ) : tot.st = τ ∧ ∀ l' r, tot = .ok l' r → l' = l := by
 cases τ with
 | bad x =>
  have h : tot = .bad x := h
  subst h
  exact ⟨rfl, fun _ _ he => by cases he⟩
 | ok u s =>
  obtain ⟨_, h2⟩ := h
  rw [Nat.sub_self, repP, RR.bind_ok, List.append_nil] at h2
  subst h2
  exact ⟨rfl, fun l' r he => by injection he with h1 h2; exact h1.symm⟩
theorem TkRel.dead {α : Type} {p : ByteArray → RR α} {tot : RR (List α)} {n most k x : Nat} {l : List α} (h : TkRel p tot n most k l (.bad x)) : tot.st = .bad x ∧ ∀ l' r, tot ≠ .ok l' r := by
 have h : tot = .bad x := h
 subst h
 exact ⟨rfl, fun _ _ he => by cases he⟩
theorem TkRel.start {α : Type} {p : ByteArray → RR α} {σ : RR Unit} {most n : Nat} (hv : RxVal (σ.bind fun _ s => numP s) (fun n => n = 0) n) :
 (n ≤ most → TkRel p (σ.bind fun _ s => takeP most p s) n most 0 [] (σ.bind fun _ s => numP s).st) ∧
 (most < n → ∃ s, (σ.bind fun _ s => numP s).st = .ok () s ∧ TkRel p (σ.bind fun _ s => takeP most p s) n most 0 [] (.bad 2)) := by
 cases σ with
 | bad x =>
  rw [RR.bind_bad] at hv
  have hv : n = 0 := hv
  exact ⟨fun _ => rfl, fun h => by omega⟩
 | ok u s =>
  rw [RR.bind_ok, RR.bind_ok] at *
  unfold takeP manyP
  cases hp : numP s with
  | bad x =>
   rw [hp] at hv
   have hv : n = 0 := hv
   exact ⟨fun _ => rfl, fun h => by omega⟩
  | ok b r =>
   rw [hp] at hv
   have hv : n = b := hv
   subst hv
   refine ⟨fun h => ⟨h, ?_⟩, fun h => ⟨r, rfl, ?_⟩⟩
   · rw [RR.bind_ok, if_neg (by omega), RR.bind_ok, Nat.sub_zero]
     cases repP p n r with
     | bad x => rfl
     | ok l' r' => simp [RR.bind_ok]
   · show _ = _
     rw [RR.bind_ok, if_pos h, RR.bind_bad]
theorem tk_dead_eq {x : Nat} (h : (RR.bad x : RR Unit).Good RxMax) : ((x : Int) != 0) = true := by rw [bne_iff_ne]; have := h.1; omega
theorem tcl_job (g p q : Nat) (σ : RR Unit) (v : Int) (w : World) (h : RxOk w g σ) (hp : Blk w p 294 #[.pointer (some ⟨g, 0, none⟩)]) (hpg : p ≠ g) (hq : Blk w q 3 #[.int .i64 v]) :
 Calls Tryz.prog 231 #[.pointer (some ⟨p, 0, none⟩), .pointer (some ⟨q, 0, none⟩)] w (RyPost g (σ.bind fun _ s => jobP v s) (fun x : JobD => .agg (jobV x).toArray) (fun _ => True) w) := by
 have H0 := hid (RGo.start h 38 #[.string ⟨#[]⟩, .int .i64 0, .int .i64 0, .int .i64 0, .string ⟨#[]⟩])
 have y0 : w.cell? ⟨p, 0, none⟩ = some (.pointer (some ⟨g, 0, none⟩)) := hp.cell 0
 have hpl := hp.lt
 have y1 : w.cell? ⟨q, 0, none⟩ = some (.int .i64 v) := hq.cell 0
 have hql := hq.lt
 clear h hp hq
 go_enter Tryz.func231, Tryz.ntmps231
 go_wp2_with fail
 refine Calls.mono (ryJob_any g _ v _ H0.out.ok) ?_
 rintro e w1 ⟨⟨name, prio, need, tries, tag⟩, rfl, hv, ok, kp⟩
 have V := hid hv
 have H1 := H0.out.next ok kp
 have u0 : w1.frozen? ⟨w.heap.size, 0, none⟩ = false := H1.blk.thaw 0
 have u1 : w1.frozen? ⟨w.heap.size, 1, none⟩ = false := H1.blk.thaw 1
 have u2 : w1.frozen? ⟨w.heap.size, 2, none⟩ = false := H1.blk.thaw 2
 have u3 : w1.frozen? ⟨w.heap.size, 3, none⟩ = false := H1.blk.thaw 3
 have u4 : w1.frozen? ⟨w.heap.size, 4, none⟩ = false := H1.blk.thaw 4
 obtain ⟨s0, s1, s2, s3, s4⟩ := Blk.c5 (H1.blk)
 have Q := (((((H1.set 0 (.string name)).set 1 (.int .i64 prio)).set 2 (.int .i64 need)).set 3 (.int .i64 tries)).set 4 (.string tag))
 have q0 := (show _ = (some (.string name) : Option Value) from Q.blk.cell 0)
 have q1 := (show _ = (some (.int .i64 prio) : Option Value) from Q.blk.cell 1)
 have q2 := (show _ = (some (.int .i64 need) : Option Value) from Q.blk.cell 2)
 have q3 := (show _ = (some (.int .i64 tries) : Option Value) from Q.blk.cell 3)
 have q4 := (show _ = (some (.string tag) : Option Value) from Q.blk.cell 4)
 have Hok := hid Q.ok
 have Hkp := hid Q.keep
 clear Q H1 hv ok kp H0
 unfold jobV
 dsimp only
 go_wp2
 refine bodyPost_ret (v := .agg #[.string name, .int .i64 prio, .int .i64 need, .int .i64 tries, .string tag]) (by simp [results, Tryz.results231, go_sem, *]) rfl ?_
 exact ⟨⟨name, prio, need, tries, tag⟩, rfl, V.out, Hok.out, Hkp.out⟩
theorem tcl_node (g p q : Nat) (σ : RR Unit) (v : Int) (w : World) (h : RxOk w g σ) (hp : Blk w p 294 #[.pointer (some ⟨g, 0, none⟩)]) (hpg : p ≠ g) (hq : Blk w q 3 #[.int .i64 v]) :
 Calls Tryz.prog 234 #[.pointer (some ⟨p, 0, none⟩), .pointer (some ⟨q, 0, none⟩)] w (RyPost g (σ.bind fun _ s => nodeP v s) (fun x : NodeD => .agg (nodeV x).toArray) (fun _ => True) w) := by
 have H0 := hid (RGo.start h 40 #[.string ⟨#[]⟩, .int .i64 0, .string ⟨#[]⟩])
 have y0 : w.cell? ⟨p, 0, none⟩ = some (.pointer (some ⟨g, 0, none⟩)) := hp.cell 0
 have hpl := hp.lt
 have y1 : w.cell? ⟨q, 0, none⟩ = some (.int .i64 v) := hq.cell 0
 have hql := hq.lt
 clear h hp hq
 go_enter Tryz.func234, Tryz.ntmps234
 go_wp2_with fail
 refine Calls.mono (ryNode_any g _ v _ H0.out.ok) ?_
 rintro e w1 ⟨⟨name, room, zone⟩, rfl, hv, ok, kp⟩
 have V := hid hv
 have H1 := H0.out.next ok kp
 have u0 : w1.frozen? ⟨w.heap.size, 0, none⟩ = false := H1.blk.thaw 0
 have u1 : w1.frozen? ⟨w.heap.size, 1, none⟩ = false := H1.blk.thaw 1
 have u2 : w1.frozen? ⟨w.heap.size, 2, none⟩ = false := H1.blk.thaw 2
 have s0 : w1.cell? ⟨w.heap.size, 0, none⟩ = some (.string ⟨#[]⟩) := H1.blk.cell 0
 have s1 : w1.cell? ⟨w.heap.size, 1, none⟩ = some (.int .i64 0) := H1.blk.cell 1
 have s2 : w1.cell? ⟨w.heap.size, 2, none⟩ = some (.string ⟨#[]⟩) := H1.blk.cell 2
 have Q := (((H1.set 0 (.string name)).set 1 (.int .i64 room)).set 2 (.string zone))
 have q0 := (show _ = (some (.string name) : Option Value) from Q.blk.cell 0)
 have q1 := (show _ = (some (.int .i64 room) : Option Value) from Q.blk.cell 1)
 have q2 := (show _ = (some (.string zone) : Option Value) from Q.blk.cell 2)
 have Hok := hid Q.ok
 have Hkp := hid Q.keep
 clear Q H1 hv ok kp H0
 unfold nodeV
 dsimp only
 go_wp2
 refine bodyPost_ret (v := .agg #[.string name, .int .i64 room, .string zone]) (by simp [results, Tryz.results234, go_sem, *]) rfl ?_
 exact ⟨⟨name, room, zone⟩, rfl, V.out, Hok.out, Hkp.out⟩
theorem take_job (g p q most : Nat) (σ : RR Unit) (v : Int) (w : World) (h : RxOk w g σ) (hm : most ≤ 1000) (hp : Blk w p 294 #[.pointer (some ⟨g, 0, none⟩)]) (hpg : p ≠ g) (hq : Blk w q 3 #[.int .i64 v]) (hqg : q ≠ g) :
 Calls Tryz.prog 230 #[.pointer (some ⟨g, 0, none⟩), .int .i64 (most : Int), .func (.func 231) #[] #[.pointer (some ⟨p, 0, none⟩), .pointer (some ⟨q, 0, none⟩)]] w (TkPost g (σ.bind fun _ s => takeP most (jobP v) s) 38 5 jobV w) := by
 have HN := hid (ryNumber g σ w h)
 have hgl := h.at_.lt
 have Hp := hid hp
 have Hq := hid hq
 clear h hp hq
 generalize htot : (σ.bind fun _ s => takeP most (jobP v) s) = tot
 have Htot := hid htot
 clear htot
 go_enter Tryz.func230, Tryz.ntmps230
 go_wp2_with fail
 refine Calls.mono HN.out ?_
 rintro e w1 ⟨n, rfl, hv, ok1, kp1⟩
 have hst := TkRel.start (p := jobP v) (most := most) hv
 rw [Htot.out] at hst
 have hle := rxval_le hv
 have Hst := hid hst
 have Ok1 := hid ok1
 have Kp1 := hid kp1
 clear hst hv ok1 kp1
 by_cases hbig : most < n
 · have dm : decide ((most : Int) < (n : Int)) = true := decide_eq_true (by omega)
   obtain ⟨s, hs, hrel0⟩ := Hst.out.2 hbig
   have hok1 := Ok1.out
   rw [hs] at hok1
   have Hok1 := hid hok1
   have Hrel0 := hid hrel0
   clear hs hrel0 hok1
   go_wp2_with fail
   refine Calls.mono (rxfail g s 2 0 w1 Hok1.out.at_) ?_
   rintro e w2 ⟨rfl, hA2, hg2⟩
   have Ok2 := hid (Hok1.out.next (σ' := .bad 2) ⟨s, Hok1.out.good, hA2⟩ ⟨by decide, by decide⟩ hg2)
   have Kp2 := hid (grow_trans Kp1.out hg2)
   clear hA2 hg2
   go_wp2
   go_loopw [8, 17] (fun out i wr => TkInv (jobP v) tot g n most 38 5 jobV w out i wr) (fun _ i _ => n - (intOf i).toNat)
   case atStart => exact ⟨0, none, 0, [], _, Nat.zero_le _, rfl, rfl, rfl, Ok2.out, Kp2.out, World.ownsRow_nil _ _ _ _, Hrel0.out⟩
   case round =>
    obtain ⟨k, A, c, l, τ, hk, rfl, rfl, hl, hok, hkp, ho, hrel⟩ := hrel
    have Hok := hid hok
    have Hkp := hid hkp
    have Ho := hid ho
    have Hrel := hid hrel
    have Hl := hid hl
    have hwr := hkp.size
    clear hok hkp ho hrel hl
    by_cases hlt : k < n
    · cases τ with
      | bad x =>
       obtain ⟨s, _, hA⟩ := Hok.out.at_
       have y1 : wr.cell? ⟨g, 1, none⟩ = some (.int .i64 (x : Int)) := Blk.cell hA 1
       have hne := tk_dead_eq Hok.out.good
       clear hA
       go_wp2
       go_ret
       exact ⟨none, 0, 0, rfl, by rw [Hrel.out.dead.1]; exact Hok.out, Hkp.out, fun l r he => absurd he (Hrel.out.dead.2 l r)⟩
      | ok u s =>
       exact absurd Hrel.out.1 (by omega)
    · obtain rfl : n = k := by omega
      go_wp2
      go_ret
      exact ⟨A, n, c, rfl, by rw [Hrel.out.ended.1]; exact Hok.out, Hkp.out, fun l' r he => by rw [Hrel.out.ended.2 l' r he]; exact ⟨Hl.out, Ho.out⟩⟩
 · have dm : decide ((most : Int) < (n : Int)) = false := decide_eq_false (by omega)
   go_wp2
   go_loopw [8, 17] (fun out i wr => TkInv (jobP v) tot g n most 38 5 jobV w out i wr) (fun _ i _ => n - (intOf i).toNat)
   case atStart => exact ⟨0, none, 0, [], _, Nat.zero_le _, rfl, rfl, rfl, Ok1.out, Kp1.out, World.ownsRow_nil _ _ _ _, Hst.out.1 (by omega)⟩
   case round =>
    obtain ⟨k, A, c, l, τ, hk, rfl, rfl, hl, hok, hkp, ho, hrel⟩ := hrel
    have Hok := hid hok
    have Hkp := hid hkp
    have Ho := hid ho
    have Hrel := hid hrel
    have Hl := hid hl
    have hwr := hkp.size
    clear hok hkp ho hrel hl
    by_cases hlt : k < n
    · cases τ with
      | bad x =>
       obtain ⟨s, _, hA⟩ := Hok.out.at_
       have y1 : wr.cell? ⟨g, 1, none⟩ = some (.int .i64 (x : Int)) := Blk.cell hA 1
       have hne := tk_dead_eq Hok.out.good
       clear hA
       go_wp2
       go_ret
       exact ⟨none, 0, 0, rfl, by rw [Hrel.out.dead.1]; exact Hok.out, Hkp.out, fun l r he => absurd he (Hrel.out.dead.2 l r)⟩
      | ok u s =>
       have hA : RxAt wr g s 0 := Hok.out.at_
       have y1 : wr.cell? ⟨g, 1, none⟩ = some (.int .i64 0) := Blk.cell hA 1
       have hnm := Hrel.out.1
       have HPr := hid (grow_blk Hkp.out Hp.out hpg)
       have HQr := hid (grow_blk Hkp.out Hq.out hqg)
       clear hA
       go_wp2_with fail
       refine Calls.mono (tcl_job g p q _ v _ Hok.out HPr.out hpg HQr.out) ?_
       rintro e w3 ⟨⟨name, prio, need, tries, tag⟩, rfl, hv3, ok3, kp3⟩
       have Hrel3 := hid (Hrel.out.step hlt hv3)
       have ho3 := ownT_grow Ho.out kp3 hgl
       have hbr : w.heap.size ≤ w3.heap.size := by have := kp3.size; omega
       have Ok3 := hid ok3
       have Kp3 := hid (grow_trans Hkp.out kp3)
       have Hlt := hid ho3.lt
       clear hv3 ok3 kp3 y1
       dsimp only
       rw [show (Value.agg (jobV ⟨name, prio, need, tries, tag⟩).toArray) = .agg #[.string name, .int .i64 prio, .int .i64 need, .int .i64 tries, .string tag] from rfl]
       go_wp2_with (at_builtin; refine push_rec jobV rfl _ _ 22 38 (.agg #[.string ⟨#[]⟩, .int .i64 0, .int .i64 0, .int .i64 0, .string ⟨#[]⟩]) 5 56 rfl Tryz.underlying22 infoJobT rfl (by decide) jobV_len jobV_oneT w.heap.size _ _ _ l rfl ho3 _ ⟨name, prio, need, tries, tag⟩ rfl _ (by simp) rfl (by omega) (by unfold maxLen; omega) hbr ?_; intro A2 c2 w4 ho4 hg4)
       have Ok4 := hid (Ok3.out.grewT hg4 (fun k hk => (Hlt.out k hk).1) hgl)
       have Kp4 := hid (bes_grew Kp3.out hg4 (fun k hk => (Hlt.out k hk).1))
       go_roundw
       case rel => exact ⟨k + 1, A2, c2, l ++ [⟨name, prio, need, tries, tag⟩], _, by omega, by go_num, rfl, by simp [Hl.out], Ok4.out, Kp4.out, ho4, Hrel3.out⟩
       case measure => simp [intOf]; omega
    · obtain rfl : n = k := by omega
      go_wp2
      go_ret
      exact ⟨A, n, c, rfl, by rw [Hrel.out.ended.1]; exact Hok.out, Hkp.out, fun l' r he => by rw [Hrel.out.ended.2 l' r he]; exact ⟨Hl.out, Ho.out⟩⟩
theorem take_node (g p q most : Nat) (σ : RR Unit) (v : Int) (w : World) (h : RxOk w g σ) (hm : most ≤ 1000) (hp : Blk w p 294 #[.pointer (some ⟨g, 0, none⟩)]) (hpg : p ≠ g) (hq : Blk w q 3 #[.int .i64 v]) (hqg : q ≠ g) :
 Calls Tryz.prog 233 #[.pointer (some ⟨g, 0, none⟩), .int .i64 (most : Int), .func (.func 234) #[] #[.pointer (some ⟨p, 0, none⟩), .pointer (some ⟨q, 0, none⟩)]] w (TkPost g (σ.bind fun _ s => takeP most (nodeP v) s) 40 3 nodeV w) := by
 have HN := hid (ryNumber g σ w h)
 have hgl := h.at_.lt
 have Hp := hid hp
 have Hq := hid hq
 clear h hp hq
 generalize htot : (σ.bind fun _ s => takeP most (nodeP v) s) = tot
 have Htot := hid htot
 clear htot
 go_enter Tryz.func233, Tryz.ntmps233
 go_wp2_with fail
 refine Calls.mono HN.out ?_
 rintro e w1 ⟨n, rfl, hv, ok1, kp1⟩
 have hst := TkRel.start (p := nodeP v) (most := most) hv
 rw [Htot.out] at hst
 have hle := rxval_le hv
 have Hst := hid hst
 have Ok1 := hid ok1
 have Kp1 := hid kp1
 clear hst hv ok1 kp1
 by_cases hbig : most < n
 · have dm : decide ((most : Int) < (n : Int)) = true := decide_eq_true (by omega)
   obtain ⟨s, hs, hrel0⟩ := Hst.out.2 hbig
   have hok1 := Ok1.out
   rw [hs] at hok1
   have Hok1 := hid hok1
   have Hrel0 := hid hrel0
   clear hs hrel0 hok1
   go_wp2_with fail
   refine Calls.mono (rxfail g s 2 0 w1 Hok1.out.at_) ?_
   rintro e w2 ⟨rfl, hA2, hg2⟩
   have Ok2 := hid (Hok1.out.next (σ' := .bad 2) ⟨s, Hok1.out.good, hA2⟩ ⟨by decide, by decide⟩ hg2)
   have Kp2 := hid (grow_trans Kp1.out hg2)
   clear hA2 hg2
   go_wp2
   go_loopw [8, 17] (fun out i wr => TkInv (nodeP v) tot g n most 40 3 nodeV w out i wr) (fun _ i _ => n - (intOf i).toNat)
   case atStart => exact ⟨0, none, 0, [], _, Nat.zero_le _, rfl, rfl, rfl, Ok2.out, Kp2.out, World.ownsRow_nil _ _ _ _, Hrel0.out⟩
   case round =>
    obtain ⟨k, A, c, l, τ, hk, rfl, rfl, hl, hok, hkp, ho, hrel⟩ := hrel
    have Hok := hid hok
    have Hkp := hid hkp
    have Ho := hid ho
    have Hrel := hid hrel
    have Hl := hid hl
    have hwr := hkp.size
    clear hok hkp ho hrel hl
    by_cases hlt : k < n
    · cases τ with
      | bad x =>
       obtain ⟨s, _, hA⟩ := Hok.out.at_
       have y1 : wr.cell? ⟨g, 1, none⟩ = some (.int .i64 (x : Int)) := Blk.cell hA 1
       have hne := tk_dead_eq Hok.out.good
       clear hA
       go_wp2
       go_ret
       exact ⟨none, 0, 0, rfl, by rw [Hrel.out.dead.1]; exact Hok.out, Hkp.out, fun l r he => absurd he (Hrel.out.dead.2 l r)⟩
      | ok u s =>
       exact absurd Hrel.out.1 (by omega)
    · obtain rfl : n = k := by omega
      go_wp2
      go_ret
      exact ⟨A, n, c, rfl, by rw [Hrel.out.ended.1]; exact Hok.out, Hkp.out, fun l' r he => by rw [Hrel.out.ended.2 l' r he]; exact ⟨Hl.out, Ho.out⟩⟩
 · have dm : decide ((most : Int) < (n : Int)) = false := decide_eq_false (by omega)
   go_wp2
   go_loopw [8, 17] (fun out i wr => TkInv (nodeP v) tot g n most 40 3 nodeV w out i wr) (fun _ i _ => n - (intOf i).toNat)
   case atStart => exact ⟨0, none, 0, [], _, Nat.zero_le _, rfl, rfl, rfl, Ok1.out, Kp1.out, World.ownsRow_nil _ _ _ _, Hst.out.1 (by omega)⟩
   case round =>
    obtain ⟨k, A, c, l, τ, hk, rfl, rfl, hl, hok, hkp, ho, hrel⟩ := hrel
    have Hok := hid hok
    have Hkp := hid hkp
    have Ho := hid ho
    have Hrel := hid hrel
    have Hl := hid hl
    have hwr := hkp.size
    clear hok hkp ho hrel hl
    by_cases hlt : k < n
    · cases τ with
      | bad x =>
       obtain ⟨s, _, hA⟩ := Hok.out.at_
       have y1 : wr.cell? ⟨g, 1, none⟩ = some (.int .i64 (x : Int)) := Blk.cell hA 1
       have hne := tk_dead_eq Hok.out.good
       clear hA
       go_wp2
       go_ret
       exact ⟨none, 0, 0, rfl, by rw [Hrel.out.dead.1]; exact Hok.out, Hkp.out, fun l r he => absurd he (Hrel.out.dead.2 l r)⟩
      | ok u s =>
       have hA : RxAt wr g s 0 := Hok.out.at_
       have y1 : wr.cell? ⟨g, 1, none⟩ = some (.int .i64 0) := Blk.cell hA 1
       have hnm := Hrel.out.1
       have HPr := hid (grow_blk Hkp.out Hp.out hpg)
       have HQr := hid (grow_blk Hkp.out Hq.out hqg)
       clear hA
       go_wp2_with fail
       refine Calls.mono (tcl_node g p q _ v _ Hok.out HPr.out hpg HQr.out) ?_
       rintro e w3 ⟨⟨name, room, zone⟩, rfl, hv3, ok3, kp3⟩
       have Hrel3 := hid (Hrel.out.step hlt hv3)
       have ho3 := ownT_grow Ho.out kp3 hgl
       have hbr : w.heap.size ≤ w3.heap.size := by have := kp3.size; omega
       have Ok3 := hid ok3
       have Kp3 := hid (grow_trans Hkp.out kp3)
       have Hlt := hid ho3.lt
       clear hv3 ok3 kp3 y1
       dsimp only
       rw [show (Value.agg (nodeV ⟨name, room, zone⟩).toArray) = .agg #[.string name, .int .i64 room, .string zone] from rfl]
       go_wp2_with (at_builtin; refine push_rec nodeV rfl _ _ 23 40 (.agg #[.string ⟨#[]⟩, .int .i64 0, .string ⟨#[]⟩]) 3 40 rfl Tryz.underlying23 infoNodeT rfl (by decide) nodeV_len nodeV_oneT w.heap.size _ _ _ l rfl ho3 _ ⟨name, room, zone⟩ rfl _ (by simp) rfl (by omega) (by unfold maxLen; omega) hbr ?_; intro A2 c2 w4 ho4 hg4)
       have Ok4 := hid (Ok3.out.grewT hg4 (fun k hk => (Hlt.out k hk).1) hgl)
       have Kp4 := hid (bes_grew Kp3.out hg4 (fun k hk => (Hlt.out k hk).1))
       go_roundw
       case rel => exact ⟨k + 1, A2, c2, l ++ [⟨name, room, zone⟩], _, by omega, by go_num, rfl, by simp [Hl.out], Ok4.out, Kp4.out, ho4, Hrel3.out⟩
       case measure => simp [intOf]; omega
    · obtain rfl : n = k := by omega
      go_wp2
      go_ret
      exact ⟨A, n, c, rfl, by rw [Hrel.out.ended.1]; exact Hok.out, Hkp.out, fun l' r he => by rw [Hrel.out.ended.2 l' r he]; exact ⟨Hl.out, Ho.out⟩⟩
theorem take_lease (g most : Nat) (σ : RR Unit) (w : World) (h : RxOk w g σ) (hm : most ≤ 1000) :
 Calls Tryz.prog 236 #[.pointer (some ⟨g, 0, none⟩), .int .i64 (most : Int), .func (.func 237) #[.pointer (some ⟨g, 0, none⟩)] #[]] w (TkPost g (σ.bind fun _ s => takeP most (leaseP) s) 42 3 leaseV w) := by
 have HN := hid (ryNumber g σ w h)
 have hgl := h.at_.lt
 clear h
 generalize htot : (σ.bind fun _ s => takeP most (leaseP) s) = tot
 have Htot := hid htot
 clear htot
 go_enter Tryz.func236, Tryz.ntmps236
 go_wp2_with fail
 refine Calls.mono HN.out ?_
 rintro e w1 ⟨n, rfl, hv, ok1, kp1⟩
 have hst := TkRel.start (p := leaseP) (most := most) hv
 rw [Htot.out] at hst
 have hle := rxval_le hv
 have Hst := hid hst
 have Ok1 := hid ok1
 have Kp1 := hid kp1
 clear hst hv ok1 kp1
 by_cases hbig : most < n
 · have dm : decide ((most : Int) < (n : Int)) = true := decide_eq_true (by omega)
   obtain ⟨s, hs, hrel0⟩ := Hst.out.2 hbig
   have hok1 := Ok1.out
   rw [hs] at hok1
   have Hok1 := hid hok1
   have Hrel0 := hid hrel0
   clear hs hrel0 hok1
   go_wp2_with fail
   refine Calls.mono (rxfail g s 2 0 w1 Hok1.out.at_) ?_
   rintro e w2 ⟨rfl, hA2, hg2⟩
   have Ok2 := hid (Hok1.out.next (σ' := .bad 2) ⟨s, Hok1.out.good, hA2⟩ ⟨by decide, by decide⟩ hg2)
   have Kp2 := hid (grow_trans Kp1.out hg2)
   clear hA2 hg2
   go_wp2
   go_loopw [8, 17] (fun out i wr => TkInv (leaseP) tot g n most 42 3 leaseV w out i wr) (fun _ i _ => n - (intOf i).toNat)
   case atStart => exact ⟨0, none, 0, [], _, Nat.zero_le _, rfl, rfl, rfl, Ok2.out, Kp2.out, World.ownsRow_nil _ _ _ _, Hrel0.out⟩
   case round =>
    obtain ⟨k, A, c, l, τ, hk, rfl, rfl, hl, hok, hkp, ho, hrel⟩ := hrel
    have Hok := hid hok
    have Hkp := hid hkp
    have Ho := hid ho
    have Hrel := hid hrel
    have Hl := hid hl
    have hwr := hkp.size
    clear hok hkp ho hrel hl
    by_cases hlt : k < n
    · cases τ with
      | bad x =>
       obtain ⟨s, _, hA⟩ := Hok.out.at_
       have y1 : wr.cell? ⟨g, 1, none⟩ = some (.int .i64 (x : Int)) := Blk.cell hA 1
       have hne := tk_dead_eq Hok.out.good
       clear hA
       go_wp2
       go_ret
       exact ⟨none, 0, 0, rfl, by rw [Hrel.out.dead.1]; exact Hok.out, Hkp.out, fun l r he => absurd he (Hrel.out.dead.2 l r)⟩
      | ok u s =>
       exact absurd Hrel.out.1 (by omega)
    · obtain rfl : n = k := by omega
      go_wp2
      go_ret
      exact ⟨A, n, c, rfl, by rw [Hrel.out.ended.1]; exact Hok.out, Hkp.out, fun l' r he => by rw [Hrel.out.ended.2 l' r he]; exact ⟨Hl.out, Ho.out⟩⟩
 · have dm : decide ((most : Int) < (n : Int)) = false := decide_eq_false (by omega)
   go_wp2
   go_loopw [8, 17] (fun out i wr => TkInv (leaseP) tot g n most 42 3 leaseV w out i wr) (fun _ i _ => n - (intOf i).toNat)
   case atStart => exact ⟨0, none, 0, [], _, Nat.zero_le _, rfl, rfl, rfl, Ok1.out, Kp1.out, World.ownsRow_nil _ _ _ _, Hst.out.1 (by omega)⟩
   case round =>
    obtain ⟨k, A, c, l, τ, hk, rfl, rfl, hl, hok, hkp, ho, hrel⟩ := hrel
    have Hok := hid hok
    have Hkp := hid hkp
    have Ho := hid ho
    have Hrel := hid hrel
    have Hl := hid hl
    have hwr := hkp.size
    clear hok hkp ho hrel hl
    by_cases hlt : k < n
    · cases τ with
      | bad x =>
       obtain ⟨s, _, hA⟩ := Hok.out.at_
       have y1 : wr.cell? ⟨g, 1, none⟩ = some (.int .i64 (x : Int)) := Blk.cell hA 1
       have hne := tk_dead_eq Hok.out.good
       clear hA
       go_wp2
       go_ret
       exact ⟨none, 0, 0, rfl, by rw [Hrel.out.dead.1]; exact Hok.out, Hkp.out, fun l r he => absurd he (Hrel.out.dead.2 l r)⟩
      | ok u s =>
       have hA : RxAt wr g s 0 := Hok.out.at_
       have y1 : wr.cell? ⟨g, 1, none⟩ = some (.int .i64 0) := Blk.cell hA 1
       have hnm := Hrel.out.1
       clear hA
       go_wp2_with fail
       refine Calls.mono (ryLease g _ _ Hok.out) ?_
       rintro e w3 ⟨⟨job, node, till⟩, rfl, hv3, ok3, kp3⟩
       have Hrel3 := hid (Hrel.out.step hlt hv3)
       have ho3 := ownT_grow Ho.out kp3 hgl
       have hbr : w.heap.size ≤ w3.heap.size := by have := kp3.size; omega
       have Ok3 := hid ok3
       have Kp3 := hid (grow_trans Hkp.out kp3)
       have Hlt := hid ho3.lt
       clear hv3 ok3 kp3 y1
       dsimp only
       rw [show (Value.agg (leaseV ⟨job, node, till⟩).toArray) = .agg #[.string job, .string node, .int .i64 till] from rfl]
       go_wp2_with (at_builtin; refine push_rec leaseV rfl _ _ 24 42 (.agg #[.string ⟨#[]⟩, .string ⟨#[]⟩, .int .i64 0]) 3 40 rfl Tryz.underlying24 infoLeaseT rfl (by decide) leaseV_len leaseV_oneT w.heap.size _ _ _ l rfl ho3 _ ⟨job, node, till⟩ rfl _ (by simp) rfl (by omega) (by unfold maxLen; omega) hbr ?_; intro A2 c2 w4 ho4 hg4)
       have Ok4 := hid (Ok3.out.grewT hg4 (fun k hk => (Hlt.out k hk).1) hgl)
       have Kp4 := hid (bes_grew Kp3.out hg4 (fun k hk => (Hlt.out k hk).1))
       go_roundw
       case rel => exact ⟨k + 1, A2, c2, l ++ [⟨job, node, till⟩], _, by omega, by go_num, rfl, by simp [Hl.out], Ok4.out, Kp4.out, ho4, Hrel3.out⟩
       case measure => simp [intOf]; omega
    · obtain rfl : n = k := by omega
      go_wp2
      go_ret
      exact ⟨A, n, c, rfl, by rw [Hrel.out.ended.1]; exact Hok.out, Hkp.out, fun l' r he => by rw [Hrel.out.ended.2 l' r he]; exact ⟨Hl.out, Ho.out⟩⟩
end Go.Proofs.YtjgnnobccecpeaaGreatDoor
