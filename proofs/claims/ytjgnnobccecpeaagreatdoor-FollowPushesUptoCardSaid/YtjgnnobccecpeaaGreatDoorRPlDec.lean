/- Of the proof of a statement: PlDec, PlFrs, ReadR, TabM, RowsDef, ZagR. -/
import Derived.Maps.OwnSet
import Derived.StringKeys
import Derived.Test.YtjgnnobccecpeaaGreatDoorRPk
import Derived.Test.YtjgnnobccecpeaaGreatDoorRSortK
set_option linter.unusedVariables false
set_option linter.unusedSimpArgs false
set_option maxRecDepth 100000
set_option maxHeartbeats 8000000
/- Reading a frame: plain. -/
namespace Go.Proofs.YtjgnnobccecpeaaGreatDoor
open Go.Lib (hid)
def byteAt (s : ByteArray) (i : Nat) : Nat := (s.data.toList.getD i 0).toNat
theorem byteAt_eq {s : ByteArray} {i : Nat} (h : i < s.size) : byteAt s i = s[i].toNat := by
 unfold byteAt
 rw [List.getD_eq_getElem?_getD, List.getElem?_eq_getElem (by simpa using h)]
 rfl
theorem byteAt_lt (s : ByteArray) (i : Nat) : byteAt s i < 256 := (s.data.toList.getD i 0).toNat_lt
def decH (s : ByteArray) : Nat :=
 if 0 < s.size ∧ byteAt s 0 ≠ 66 then 4
 else if 1 < s.size ∧ byteAt s 1 ≠ 75 then 4
 else if 2 < s.size ∧ (byteAt s 2 < 1 ∨ 3 < byteAt s 2) then 1
 else if 3 < s.size ∧ (byteAt s 3 < 1 ∨ 4 < byteAt s 3) then 1
 else if s.size < 4 then 3 else 0
structure HeadTo (s : ByteArray) (k : Nat) : Prop where
 h0 : 0 < k → 0 < s.size ∧ byteAt s 0 = 66
 h1 : 1 < k → 1 < s.size ∧ byteAt s 1 = 75
 h2 : 2 < k → 2 < s.size ∧ 1 ≤ byteAt s 2 ∧ byteAt s 2 ≤ 3
 h3 : 3 < k → 3 < s.size ∧ 1 ≤ byteAt s 3 ∧ byteAt s 3 ≤ 4
theorem HeadTo.zero (s : ByteArray) : HeadTo s 0 := ⟨fun h => absurd h (by omega), fun h => absurd h (by omega), fun h => absurd h (by omega), fun h => absurd h (by omega)⟩
section
variable {s : ByteArray}
theorem decH_0 (h : 0 < s.size) (hb : byteAt s 0 ≠ 66) : decH s = 4 := by unfold decH; rw [if_pos ⟨h, hb⟩]
theorem decH_1 (ht : HeadTo s 1) (h : 1 < s.size) (hb : byteAt s 1 ≠ 75) : decH s = 4 := by
 have := ht.h0 (by omega)
 unfold decH; rw [if_neg (by omega), if_pos ⟨h, hb⟩]
theorem decH_2 (ht : HeadTo s 2) (h : 2 < s.size) (hb : byteAt s 2 < 1 ∨ 3 < byteAt s 2) : decH s = 1 := by
 have := ht.h0 (by omega)
 have := ht.h1 (by omega)
 unfold decH; rw [if_neg (by omega), if_neg (by omega), if_pos ⟨h, hb⟩]
theorem decH_3 (ht : HeadTo s 3) (h : 3 < s.size) (hb : byteAt s 3 < 1 ∨ 4 < byteAt s 3) : decH s = 1 := by
 have := ht.h0 (by omega)
 have := ht.h1 (by omega)
 have := ht.h2 (by omega)
 unfold decH; rw [if_neg (by omega), if_neg (by omega), if_neg (by omega), if_pos ⟨h, hb⟩]
theorem decH_short {k : Nat} (ht : HeadTo s k) (hk : s.size ≤ k) (h : s.size < 4) : decH s = 3 := by
 have a0 := ht.h0
 have a1 := ht.h1
 have a2 := ht.h2
 have a3 := ht.h3
 unfold decH
 rw [if_neg (by omega), if_neg (by omega), if_neg (by omega), if_neg (by omega), if_pos h]
theorem decH_ok (ht : HeadTo s 4) : decH s = 0 ∧ 4 ≤ s.size := by
 have a0 := ht.h0 (by omega)
 have a1 := ht.h1 (by omega)
 have a2 := ht.h2 (by omega)
 have a3 := ht.h3 (by omega)
 unfold decH
 rw [if_neg (by omega), if_neg (by omega), if_neg (by omega), if_neg (by omega), if_neg (by omega)]
 exact ⟨rfl, by omega⟩
theorem headTo_of (h : decH s = 0) : HeadTo s 4 := by
 unfold decH at h
 by_cases c0 : 0 < s.size ∧ byteAt s 0 ≠ 66
 · rw [if_pos c0] at h; omega
 rw [if_neg c0] at h
 by_cases c1 : 1 < s.size ∧ byteAt s 1 ≠ 75
 · rw [if_pos c1] at h; omega
 rw [if_neg c1] at h
 by_cases c2 : 2 < s.size ∧ (byteAt s 2 < 1 ∨ 3 < byteAt s 2)
 · rw [if_pos c2] at h; omega
 rw [if_neg c2] at h
 by_cases c3 : 3 < s.size ∧ (byteAt s 3 < 1 ∨ 4 < byteAt s 3)
 · rw [if_pos c3] at h; omega
 rw [if_neg c3] at h
 by_cases c4 : s.size < 4
 · rw [if_pos c4] at h; omega
 exact ⟨fun _ => by omega, fun _ => by omega, fun _ => by omega, fun _ => by omega⟩
end
structure FrameM where
 ver : Nat
 kind : Nat
 pay : ByteArray
def FrameM.zero : FrameM := ⟨0, 0, ⟨#[]⟩⟩
def fdecF (s : ByteArray) : FrameM × Nat × Nat :=
 if decH s = 0 then
  match rdNum (s.extract 4 s.size) with
  | (n, k, e) =>
   if e = 0 then
    if 6000 < n then (.zero, 0, 2)
    else if s.size < 8 + k + n then (.zero, 0, 3)
    else if (s.extract (4 + k + n) (8 + k + n)).data.toList = sum4 (s.extract 0 (4 + k + n)).data.toList then (⟨byteAt s 2, byteAt s 3, s.extract (4 + k) (4 + k + n)⟩, 8 + k + n, 0)
    else (.zero, 0, 5)
   else (.zero, 0, e)
 else (.zero, 0, decH s)
section
variable {s : ByteArray} {n k e : Nat}
theorem decF_head {c : Nat} (h : decH s = c) (hc : c ≠ 0) : fdecF s = (.zero, 0, c) := by subst h; unfold fdecF; rw [if_neg hc]
theorem decF_num (h : decH s = 0) (hr : rdNum (s.extract 4 s.size) = (n, k, e)) (he : e ≠ 0) : fdecF s = (.zero, 0, e) := by unfold fdecF; rw [if_pos h, hr]; simp only; rw [if_neg he]
theorem decF_large (h : decH s = 0) (hr : rdNum (s.extract 4 s.size) = (n, k, 0)) (hn : 6000 < n) : fdecF s = (.zero, 0, 2) := by unfold fdecF; rw [if_pos h, hr]; simp only; rw [if_pos trivial, if_pos hn]
theorem decF_short (h : decH s = 0) (hr : rdNum (s.extract 4 s.size) = (n, k, 0)) (hn : ¬ 6000 < n) (hs : s.size < 8 + k + n) : fdecF s = (.zero, 0, 3) := by unfold fdecF; rw [if_pos h, hr]; simp only; rw [if_pos trivial, if_neg hn, if_pos hs]
theorem decF_sum (h : decH s = 0) (hr : rdNum (s.extract 4 s.size) = (n, k, 0)) (hn : ¬ 6000 < n) (hs : ¬ s.size < 8 + k + n) (hm : ¬ (s.extract (4 + k + n) (8 + k + n)).data.toList = sum4 (s.extract 0 (4 + k + n)).data.toList) : fdecF s = (.zero, 0, 5) := by unfold fdecF; rw [if_pos h, hr]; simp only; rw [if_pos trivial, if_neg hn, if_neg hs, if_neg hm]
theorem fdecF_ok (h : decH s = 0) (hr : rdNum (s.extract 4 s.size) = (n, k, 0)) (hn : ¬ 6000 < n) (hs : ¬ s.size < 8 + k + n) (hm : (s.extract (4 + k + n) (8 + k + n)).data.toList = sum4 (s.extract 0 (4 + k + n)).data.toList) : fdecF s = (⟨byteAt s 2, byteAt s 3, s.extract (4 + k) (4 + k + n)⟩, 8 + k + n, 0) := by unfold fdecF; rw [if_pos h, hr]; simp only; rw [if_pos trivial, if_neg hn, if_neg hs, if_pos hm]
end
end Go.Proofs.YtjgnnobccecpeaaGreatDoor
/- Frames, one behind the other: plain. -/
namespace Go.Proofs.YtjgnnobccecpeaaGreatDoor
open Go.Lib (hid)
theorem decF_facts {s : ByteArray} {f : FrameM} {n e : Nat} (h : fdecF s = (f, n, e)) : (e ≠ 0 → f = .zero ∧ n = 0) ∧ (e = 0 → 9 ≤ n ∧ n ≤ s.size) := by
 unfold fdecF at h
 by_cases hd : decH s = 0
 · rw [if_pos hd] at h
   obtain ⟨n', k, x, hr⟩ : ∃ n k x, rdNum (s.extract 4 s.size) = (n, k, x) := ⟨_, _, _, rfl⟩
   have hf := rdNum_facts hr
   rw [hr] at h
   dsimp only at h
   by_cases hx : x = 0
   · rw [if_pos hx] at h
     have h1 := (hf.2.2.2 hx).1
     by_cases hn : 6000 < n'
     · rw [if_pos hn] at h; cases h; exact ⟨fun _ => ⟨rfl, rfl⟩, fun h => absurd h (by omega)⟩
     · rw [if_neg hn] at h
       by_cases hl : s.size < 8 + k + n'
       · rw [if_pos hl] at h; cases h; exact ⟨fun _ => ⟨rfl, rfl⟩, fun h => absurd h (by omega)⟩
       · rw [if_neg hl] at h
         split at h
         · cases h; exact ⟨fun h => absurd rfl h, fun _ => ⟨by omega, by omega⟩⟩
         · cases h; exact ⟨fun _ => ⟨rfl, rfl⟩, fun h => absurd h (by omega)⟩
   · rw [if_neg hx] at h; cases h; exact ⟨fun _ => ⟨rfl, rfl⟩, fun h => absurd h hx⟩
 · rw [if_neg hd] at h; cases h; exact ⟨fun _ => ⟨rfl, rfl⟩, fun h => absurd h hd⟩
inductive Frs : ByteArray → List FrameM → Nat → Nat → Prop
 | stop {s : ByteArray} {e : Nat} : fdecF s = (.zero, 0, e) → e ≠ 0 → Frs s [] 0 e
 | step {s : ByteArray} {f : FrameM} {n : Nat} {fs : List FrameM} {m e : Nat} : fdecF s = (f, n, 0) → 1 ≤ n → n ≤ s.size → Frs (s.extract n s.size) fs m e → Frs s (f :: fs) (n + m) e
theorem Frs.all_ : ∀ (k : Nat) (s : ByteArray), s.size ≤ k → ∃ fs m e, Frs s fs m e
 | k, s, hk => by
  obtain ⟨f, n, e, h⟩ : ∃ f n e, fdecF s = (f, n, e) := ⟨_, _, _, rfl⟩
  obtain ⟨h1, h2⟩ := decF_facts h
  by_cases he : e = 0
  · subst he
    obtain ⟨h3, h4⟩ := h2 rfl
    match k, hk with
    | 0, hk => omega
    | k + 1, hk =>
     obtain ⟨fs, m, e, hr⟩ := Frs.all_ k (s.extract n s.size) (by rw [ByteArray.size_extract]; omega)
     exact ⟨_, _, _, .step h (by omega) h4 hr⟩
  · obtain ⟨rfl, rfl⟩ := h1 he
    exact ⟨_, _, _, .stop h he⟩
theorem Frs.all (s : ByteArray) : ∃ fs m e, Frs s fs m e := Frs.all_ s.size s (Nat.le_refl _)
theorem Frs.facts {s : ByteArray} {fs : List FrameM} {m e : Nat} (h : Frs s fs m e) : m ≤ s.size ∧ e ≠ 0 ∧ fs.length ≤ m := by
 induction h with
 | stop _ he => exact ⟨Nat.zero_le _, he, Nat.le_refl _⟩
 | step _ h1 h2 _ ih =>
  rw [ByteArray.size_extract] at ih
  refine ⟨by omega, ih.2.1, ?_⟩
  rw [List.length_cons]; omega
end Go.Proofs.YtjgnnobccecpeaaGreatDoor
/- The walk of the reference's NumberRead. -/
namespace Go.Proofs.YtjgnnobccecpeaaGreatDoor
open Go.Lib (hid)
open Go.RowKit
def RrInv (s : ByteArray) (n u i : Value) : Prop := ∃ (k acc p : Nat), k ≤ 9 ∧ k ≤ s.size ∧ acc < 128 ^ k ∧ p = 128 ^ k ∧ p ≤ 9223372036854775808 ∧ acc < p ∧ i = .int .i64 k ∧ n = .int .u64 acc ∧ u = .int .u64 p ∧ rdNum s = rdB s (10 - k) k acc
theorem rread_any (s : ByteArray) (w : World) (hs : s.size ≤ 9223372036854775807) :
 Calls Tryz.prog 244 #[.string s] w (RdPost s w) := by
 go_enter Tryz.func244, Tryz.ntmps244
 go_wp2
 go_loop [2, 3, 4, 5, 6, 7, 8] (fun _ _ _ n u i _ => RrInv s n u i) (fun _ _ _ _ _ i _ => 10 - (intOf i).toNat)
 case atStart => exact ⟨0, 0, 1, by omega, by omega, by decide, rfl, by omega, by omega, rfl, rfl, rfl, rfl⟩
 case round =>
  obtain ⟨k, acc, p, hk, hks, ha, hp, hp2, hap, rfl, rfl, rfl, hr⟩ := hrel
  have Hr := hid hr
  have Ha := hid ha
  have Hp := hid hp
  clear hr ha hp
  by_cases hsz : k < s.size
  · have e3 : ((k : Int) == s.size) = false := by simp; omega
    obtain ⟨c, hc⟩ : ∃ c : Nat, s[k].toNat = c := ⟨_, rfl⟩
    have hc2 : c < 256 := by rw [← hc]; exact s[k].toNat_lt
    have Hi := idx_str hsz hc
    have Hc := hid hc
    clear hc
    have form := fun (hb : (k = 9 ∧ 1 < c) ∨ (0 < k ∧ c = 0)) => RdPost.mk' (w := w) (Hr.out.trans (rdB_form (by omega) hsz Hc.out hb))
    have last := fun (hb : ¬ ((k = 9 ∧ 1 < c) ∨ (0 < k ∧ c = 0))) (h1 : c < 128) => RdPost.mk' (w := w) (Hr.out.trans (rdB_last (by omega) hsz Hc.out hb h1))
    have more := fun (hb : ¬ ((k = 9 ∧ 1 < c) ∨ (0 < k ∧ c = 0))) (h1 : ¬ c < 128) => Hr.out.trans (rdB_more (by omega) hsz Hc.out hb h1)
    have step := fun (h9 : k = 9 → c ≤ 1) => add_step (k := k) (by omega) hc2 h9 Ha.out Hp.out
    have step2 := fun (h9 : k = 9 → c ≤ 1) => (or_step (k := k) (by omega) hc2 h9 Ha.out).2
    have pst := fun (h9 : k < 9) => pow_step h9
    have Step := hid step
    have Step2 := hid step2
    have Pst := hid pst
    have Form := hid form
    have Last := hid last
    have More := hid more
    clear form last more step step2 pst
    by_cases k0 : k = 0
    · subst k0
      have Hi0 : ∀ W : World, (Instr.index 9 (.string s) (.int .i64 0)).run Tryz.prog W = .ok (.int .u8 (c : Int)) W := Hi
      clear Hi
      by_cases b0 : 1 ≤ c
      all_goals first | (have e2 : ((c : Int) == 0) = true := by simp; omega) | (have e2 : ((c : Int) == 0) = false := by simp; omega)
      all_goals go_wp2
      all_goals first
       | (have st := Step.out (by omega); go_ret3; rw [st]; exact Last.out (by omega) (by omega))
       | (have st := Step.out (by omega); have st2 := Step2.out (by omega); have sp := Pst.out (by omega); exact ⟨⟨1, _, _, by omega, by omega, st2.1, rfl, sp.2, st2.1, rfl, congrArg (Value.int .u64) st, congrArg (Value.int .u64) (by rw [Hp.out]; exact sp.1), More.out (by omega) (by omega)⟩, by simp only [intOf]; omega⟩)
    have k1 : 1 ≤ k := by omega
    clear k0
    by_cases b9 : 9 ≤ k <;> by_cases b0 : 1 ≤ c
    all_goals first | (have e1 : ((k : Int) == 9) = true := by simp; omega) | (have e1 : ((k : Int) == 9) = false := by simp; omega)
    all_goals first | (have e2 : ((c : Int) == 0) = true := by simp; omega) | (have e2 : ((c : Int) == 0) = false := by simp; omega)
    all_goals go_wp2
    all_goals first
     | (go_ret3; exact Form.out (by omega))
     | (have st := Step.out (by omega); go_ret3; rw [st]; exact Last.out (by omega) (by omega))
     | (have st := Step.out (by omega); have st2 := Step2.out (by omega); have sp := Pst.out (by omega); exact ⟨⟨k + 1, _, _, by omega, by omega, st2.1, rfl, sp.2, st2.1, by go_num, congrArg (Value.int .u64) st, congrArg (Value.int .u64) (by rw [Hp.out]; exact sp.1), More.out (by omega) (by omega)⟩, by simp only [intOf]; omega⟩)
  · have e3 : ((k : Int) == s.size) = true := by simp; omega
    have fin := hid (RdPost.mk' (w := w) (Hr.out.trans (rdB_short (by omega) (by omega))))
    go_wp2
    go_ret3
    exact fin.out
theorem rread_eq {s : ByteArray} {a k e : Nat} (h : rdNum s = (a, k, e)) (w : World) (hs : s.size ≤ 9223372036854775807) :
 Calls Tryz.prog 244 #[.string s] w fun x w' => x = .returned (.tuple #[.int .u64 (a : Int), .int .i64 (k : Int), .int .i64 (e : Int)]) ∧ w = w' :=
 (rread_any s w hs).mono fun _ _ ⟨h1, h2⟩ => ⟨by rw [h1, rdV_of h], h2⟩
end Go.Proofs.YtjgnnobccecpeaaGreatDoor
/- Maps keyed by texts that the call itself has made: what they hold, as a function. -/
namespace Go.Proofs.YtjgnnobccecpeaaGreatDoor
open Go.Lib (hid)
open Go.RowKit Go.Maps
def heldR : Value → Option (DataW Value × List MemPlace) := fun v => some (.held v, [])
def MapIs (w : World) (b n : Nat) (g : ByteArray → Option Value) : Prop :=
 ∃ D : DataW Value, w.ownsMap Tryz.prog 9 heldR b n D ∧ ∀ (s : ByteArray) (z : DataW Value), D.atKey (.string s.data.toList) z = match g s with
  | none => z
  | some v => .held v
theorem lawS : Keyed Tryz.prog 9 := string_keyed Tryz.underlying9
section
variable {w w' : World} {b n : Nat} {g : ByteArray → Option Value}
theorem MapIs.made (w : World) : MapIs (w.alloc (.map #[] 0)) w.heap.size 0 (fun _ => none) := ⟨.map [], World.ownsMap_made w _ _ _, fun _ _ => rfl⟩
theorem MapIs.lt (h : MapIs w b n g) : b < w.heap.size := h.choose_spec.1.lt
theorem MapIs.same (h : MapIs w b n g) (e : w'.heap[b]? = w.heap[b]?) : MapIs w' b n g := by
 obtain ⟨D, ⟨es, clock, hb, r⟩, hD⟩ := h
 exact ⟨D, ⟨es, clock, e.trans hb, r⟩, hD⟩
theorem MapIs.below {B : Nat} (h : MapIs w b n g) (hb : Below B w w') (hB : b < B) : MapIs w' b n g := h.same (hb.block b hB)
theorem MapIs.but {c : Nat} (h : MapIs w b n g) (hg : w.grownBy w' (some c)) (hne : b ≠ c) : MapIs w' b n g := h.same (hg.block b h.lt (by simp [hne]))
theorem MapIs.congr {g' : ByteArray → Option Value} (h : MapIs w b n g) (e : ∀ s, g s = g' s) : MapIs w b n g' := by
 obtain ⟨D, ho, hD⟩ := h
 exact ⟨D, ho, fun s z => by rw [hD, e]⟩
theorem MapIs.mono {m : Nat} (h : MapIs w b n g) (hm : n ≤ m) : MapIs w b m g := by
 obtain ⟨D, ho, hD⟩ := h
 exact ⟨D, ho.mono hm, hD⟩
theorem data_inj {s t : ByteArray} (h : (Lit.string s.data.toList) = .string t.data.toList) : s = t := by
 injection h with h
 exact ByteArray.ext (Array.toList_inj.1 h)
theorem MapIs.put {t e : TypeId} (h : MapIs w b n g) (ht : Tryz.prog.underlying t = some (.map 9 e)) (hn : n < maxLen) (s : ByteArray) (hs : s.size ≤ maxLen) (v : Value) :
 ∃ w', (Instr.mapUpdate t (.map (some b)) (.string s) v).run Tryz.prog w = .ok () w' ∧ MapIs w' b (n + 1) (fun x => if x = s then some v else g x) ∧ w.grownBy w' (some b) := by
 obtain ⟨D, ho, hD⟩ := h
 obtain ⟨w', hr, ho', hg⟩ := ho.update lawS ht hn (Go.WideMaps.keyOf_string_mk Tryz.underlying9 hs) (val := v) (d := .held v) (ps := []) rfl
 refine ⟨w', hr, ⟨_, ho', fun x z => ?_⟩, hg⟩
 by_cases hx : x = s
 · subst hx
   rw [atKey_put_same ho.isMap (by simp [WideAt.IsKeyLit])]
   simp
 · rw [atKey_put_other (fun e => hx (data_inj e)), hD x z]
   simp [hx]
theorem MapIs.look {t e : TypeId} (h : MapIs w b n g) (ht : Tryz.prog.underlying t = some (.map 9 e)) {z : Value} (hz : (zeroValue e).run Tryz.prog w = .ok z w) (s : ByteArray) (hs : s.size ≤ maxLen) :
 (Instr.lookup t (.map (some b)) (.string s) false).run Tryz.prog w = .ok ((g s).getD z) w := by
 obtain ⟨D, ho, hD⟩ := h
 obtain ⟨v, ps, hr, hv⟩ := ho.lookup lawS ht hz (zd := .held z) (zp := []) rfl (Go.WideMaps.keyOf_string_mk Tryz.underlying9 hs)
 rw [hD] at hv
 have hv1 : (DataW.held v : DataW Value) = match g s with | none => .held z | some v => .held v := by
  have := congrArg (fun o => o.map Prod.fst) hv
  simpa [heldR] using this
 have e : v = (g s).getD z := by
  cases hg : g s with
  | none => rw [hg] at hv1; injection hv1
  | some u => rw [hg] at hv1; injection hv1
 rw [hr, e]
theorem MapIs.look_ok {t e : TypeId} (h : MapIs w b n g) (ht : Tryz.prog.underlying t = some (.map 9 e)) {z : Value} (hz : (zeroValue e).run Tryz.prog w = .ok z w) (s : ByteArray) (hs : s.size ≤ maxLen) :
 (Instr.lookup t (.map (some b)) (.string s) true).run Tryz.prog w = .ok (.tuple #[(g s).getD z, .bool (g s).isSome]) w := by
 obtain ⟨D, ho, hD⟩ := h
 obtain ⟨v, ps, hr, hv⟩ := ho.look_ok lawS ht hz (zd := .held z) (zp := []) rfl (Go.WideMaps.keyOf_string_mk Tryz.underlying9 hs)
 rw [hD] at hv
 have hv1 : (DataW.held v : DataW Value) = match g s with | none => .held z | some v => .held v := by
  have := congrArg (fun o => o.map Prod.fst) hv
  simpa [heldR] using this
 cases hg : g s with
 | none =>
  rw [hg] at hv1
  have e : v = z := by injection hv1
  have hh : Maps.has D (.string s.data.toList) = false := Maps.has_false_of_atKey (fun x => by rw [hD, hg])
  rw [hr, e, hh]; rfl
 | some u =>
  rw [hg] at hv1
  have e : v = u := by injection hv1
  have hh : Maps.has D (.string s.data.toList) = true := Maps.has_true_of_atKey (y := .held u) (fun x => by rw [hD, hg])
  rw [hr, e, hh]; rfl
end
end Go.Proofs.YtjgnnobccecpeaaGreatDoor
/- What the loops over rows hold. -/
namespace Go.Proofs.YtjgnnobccecpeaaGreatDoor
open Go.Lib (hid)
open Go.RowKit
def JobsOk (xs : List JobD) : Prop := ∀ x ∈ xs, x.name.size ≤ 9223372036854775807 ∧ x.tag.size ≤ 9223372036854775807
def JobInv (xs : List JobD) (n : Nat) (R : Int) (w : World) (i : Value) (wr : World) : Prop := ∃ k : Nat, k ≤ n ∧ i = .int .i64 k ∧ rowsFrom jobE JobD.name (prevK JobD.name xs k) (xs.drop k) = R ∧ Below w.heap.size w wr
def NodesOk (xs : List NodeD) : Prop := ∀ x ∈ xs, x.name.size ≤ 9223372036854775807 ∧ x.zone.size ≤ 9223372036854775807
def NodeInv (xs : List NodeD) (n : Nat) (R : Int) (w : World) (i : Value) (wr : World) : Prop := ∃ k : Nat, k ≤ n ∧ i = .int .i64 k ∧ rowsFrom nodeE NodeD.name (prevK NodeD.name xs k) (xs.drop k) = R ∧ Below w.heap.size w wr
end Go.Proofs.YtjgnnobccecpeaaGreatDoor
/- The walk of the reference's Zag. -/
namespace Go.Proofs.YtjgnnobccecpeaaGreatDoor
open Go.Lib (hid)
open Go.RowKit
theorem rzag_any (n : Int) (h : 0 ≤ n) (h' : n < 18446744073709551616) (w : World) :
 Calls Tryz.prog 291 #[.int .u64 n] w fun e w' => e = .returned (.int .i64 (zagZ n)) ∧ w = w' := by
 by_cases e : n % 2 = 0
 · have hx := hid (show zagZ n = n / 2 from by unfold zagZ; rw [if_pos e])
   have e1 : (n % 2 == 0) = true := by rw [e]; rfl
   clear e
   go_enter Tryz.func291, Tryz.ntmps291
   go_wp2
   go_ret
   exact ⟨ret_int hx.out.symm, rfl⟩
 · have hx := hid (show zagZ n = -(n / 2) - 1 from by unfold zagZ; rw [if_neg e])
   have e1 : (n % 2 == 0) = false := by rw [beq_eq_false_iff_ne]; exact e
   clear e
   go_enter Tryz.func291, Tryz.ntmps291
   go_wp2
   go_ret
   exact ⟨ret_int hx.out.symm, rfl⟩
end Go.Proofs.YtjgnnobccecpeaaGreatDoor
