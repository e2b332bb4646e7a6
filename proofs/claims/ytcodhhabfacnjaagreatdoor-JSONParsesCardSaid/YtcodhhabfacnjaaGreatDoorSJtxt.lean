/- Of the proof of a statement: Jtxt. -/
import Derived.Test.YtcodhhabfacnjaaGreatDoorSJnum
import Derived.Test.YtcodhhabfacnjaaGreatDoorSPu16
import Derived.Test.YtcodhhabfacnjaaGreatDoorSRPhQ
import Derived.Test.YtcodhhabfacnjaaGreatDoorSRPrint
set_option linter.unusedVariables false
set_option linter.unusedSimpArgs false
/- The walk of the program's reader of JSON: text. -/
namespace Go.Proofs.YtcodhhabfacnjaaGreatDoor
open Go.RowKit
open Go.Lib (hasPrefix trimPrefix)
theorem rows_u8 : ∀ l : List UInt8, rowsV (fun b : UInt8 => [Value.int .u8 (b.toNat : Int)]) l = bytesV l
  | [] => rfl
  | b :: l => by
    have ih := rows_u8 l
    unfold rowsV at ih ⊢
    rw [List.flatMap_cons, ih]; rfl
/-- One byte pushed, at an operation. -/
theorem wp_push_u8 {w : World} {o : Oper} {a : Act} {Q : Exit → Act → World → Prop} {K : Act → World → Prop} (s x : Operand) (ho : o.op = .call { callee := .builtin .append, args := #[s, x], argTypes := #[78, 78] })
    (base : Nat) (A : Option Addr) (m c : Nat) (l : List UInt8) (hs : a.eval s = .slice A m c) (hown : w.ownsRow base 5 1 (.slice A m c) m (bytesV l)) (g : Nat) (b : UInt8) (hr : Blk w g 5 #[.int .u8 (b.toNat : Int)]) (hx : a.eval x = .slice (some ⟨g, 0, none⟩) 1 1) (hm : m + 1 ≤ 140737488355328) (hbase : base ≤ w.heap.size)
    (h : ∀ A' c' w', w'.ownsRow base 5 1 (.slice A' (m + 1) c') (m + 1) (bytesV (l ++ [b])) → Grew w w' (.slice A m c) (.slice A' (m + 1) c') → K (a.put o.dst (.slice A' (m + 1) c')) w') : o.wp Tryz.prog a w K Q := by
  refine wp_push_rec (fun b : UInt8 => [Value.int .u8 (b.toNat : Int)]) s x 78 5 (.int .u8 0) 1 1 ho Tryz.underlying78 Tryz.infoU8 rfl (by decide) (fun _ => rfl) (fun b u hu => by rw [List.mem_singleton] at hu; subst hu; rfl) base A m c l hs (by rw [rows_u8]; exact hown) b g 1
    (fun j v hj => by rw [Nat.zero_add, hr.cell j, List.getElem?_toArray]; exact hj) hx (by omega) (by unfold maxLen; omega) hbase fun A' c' w' h1 h2 => h A' c' w' (by rw [← rows_u8]; exact h1) h2
/-- strconv.ParseUint at two bytes, base 16, eight bits. -/
def PuPost (l : List UInt8) (w : World) (e : Ending) (w' : World) : Prop :=
  Below w.heap.size w w' ∧ ((∃ n : Nat, n ≤ 255 ∧ hxN 0 l = some n ∧ e = .returned (.tuple #[.int .u64 (n : Int), .nilIface])) ∨ (hxN 0 l = none ∧ ∃ t p, e = .returned (.tuple #[.int .u64 0, .iface t p])))
set_option maxRecDepth 100000 in
set_option maxHeartbeats 2000000 in
theorem pu_any (l : List UInt8) (h2 : l.length = 2) (g : Nat) (w : World) (h : ErrVars w g) :
    Calls Tryz.prog 75 #[.string (BA l), .int .i64 16, .int .i64 8] w (PuPost l w) := by
  have HI := Lib.hid (pu16_in layPU (BA l) (by rw [BA_size]; exact h2) w)
  have hb : Below w.heap.size w (Lib.bytesWorld w (layPU_ren.t 5) (BA l)) := Lib.bytesWorld_below _ _ _
  obtain ⟨tv, pv, hc⟩ := h.s
  have hG : 0 < w.heap.size := Lib.lt_of_cell hc
  have hc1 := (hb.cell (show (⟨0, 0, none⟩ : Addr).block < w.heap.size from hG)).trans hc
  obtain ⟨W1, hW1⟩ : ∃ W1, W1 = Lib.bytesWorld w (layPU_ren.t 5) (BA l) := ⟨_, rfl⟩
  rw [← hW1] at HI hb hc1
  have HT := Lib.hid (Any.strconv_toError_syntax layTE ⟨#[80, 97, 114, 115, 101, 85, 105, 110, 116]⟩ (BA l) 16 8 _ W1 (by rw [BA_size, h2]; decide) hc1 (.inr ⟨tv, pv, rfl⟩))
  have Hb := Lib.hid hb
  rw [show (BA l).data.toList = l from rfl] at HI
  have hlt : ∀ n, hxN 0 l = some n → n ≤ 255 := by
    intro n hn
    match l, h2 with
    | [a, b], _ =>
      simp only [hxN] at hn
      split at hn
      · rename_i d hd
        have := hexV_lt hd
        split at hn
        · rename_i d2 hd2
          have := hexV_lt hd2
          injection hn with hn
          omega
        · cases hn
      · cases hn
  clear hW1 hb hc hc1 h
  cases hx : hxN 0 l with
  | some n =>
    have hl := hlt n hx
    have Hx := Lib.hid hx
    rw [hx] at HI
    clear hlt hx
    go_enter Tryz.func75, Tryz.ntmps75
    go_wp2_with fail
    refine Calls.mono HI.out ?_
    rintro e w1 ⟨rfl, rfl⟩
    unfold hxV
    go_wp2
    go_ret2
    exact ⟨Hb.out, .inl ⟨n, hl, Hx.out, rfl⟩⟩
  | none =>
    have Hx := Lib.hid hx
    rw [hx] at HI
    clear hlt hx
    go_enter Tryz.func75, Tryz.ntmps75
    go_wp2_with fail
    refine Calls.mono HI.out ?_
    rintro e w1 ⟨rfl, rfl⟩
    unfold hxV
    go_wp2_with fail
    refine Calls.mono HT.out ?_
    rintro e w2 ⟨N, rfl, -, -, hb2⟩
    go_wp2
    go_ret2
    exact ⟨Hb.out.trans (hb2.mono Hb.out.size), .inr ⟨Hx.out, _, _, rfl⟩⟩
theorem hx_hex (a b : UInt8) (r : List UInt8) : hex2 (a :: b :: r) = (hxN 0 [a, b]).map UInt8.ofNat := by
  simp only [hex2, hxN]
  cases hexV a with
  | none => rfl
  | some x =>
    simp only [Option.bind_some, Nat.mul_zero, Nat.zero_add]
    cases hexV b <;> rfl
/-- How the reader stands, as a number that falls. -/
def jrM (g : Nat) (w : World) : Nat := match w.cell? ⟨g, 1, none⟩ with
  | some (.bool true) => 0
  | _ => match w.cell? ⟨g, 0, none⟩ with
    | some (.string s) => s.size + 1
    | _ => 0
theorem jrM_at {w : World} {g : Nat} {l : List UInt8} {b : Bool} (h : JrAt w g (l, b)) : jrM g w = if b = true then 0 else l.length + 1 := by
  have h0 : w.cell? ⟨g, 0, none⟩ = some (.string (BA l)) := Blk.cell h 0
  have h1 : w.cell? ⟨g, 1, none⟩ = some (.bool b) := Blk.cell h 1
  unfold jrM
  rw [h0, h1]
  cases b with
  | true => rfl
  | false => simp [BA_size]
/-! One round. -/
section
variable {acc l r : List UInt8} {d : UInt8}
theorem tx_short {q : List UInt8} (h : hasPrefix l [92, 117, 48, 48] = true) (hl : l ≠ []) (hq : l.drop 4 = q) (hs : q.length < 2) : txStep acc l = (acc, q, true) := by subst hq; unfold txStep; rw [if_neg hl, if_pos h, if_pos hs]
theorem tx_some {q : List UInt8} (h : hasPrefix l [92, 117, 48, 48] = true) (hl : l ≠ []) (hq : l.drop 4 = q) (hs : ¬ q.length < 2) (hx : hex2 q = some d) : txStep acc l = (acc ++ [d], q.drop 2, false) := by subst hq; unfold txStep; rw [if_neg hl, if_pos h, if_neg hs, hx, List.drop_drop]
theorem tx_none {q : List UInt8} (h : hasPrefix l [92, 117, 48, 48] = true) (hl : l ≠ []) (hq : l.drop 4 = q) (hs : ¬ q.length < 2) (hx : hex2 q = none) : txStep acc l = (acc ++ [0], q.drop 2, true) := by subst hq; unfold txStep; rw [if_neg hl, if_pos h, if_neg hs, hx, List.drop_drop]
theorem tx_end (h : hasPrefix l [92, 117, 48, 48] = false) (hl : l ≠ []) (h2 : hasPrefix l [92] = true) (hr : l.drop 1 = []) : txStep acc l = (acc, [], true) := by unfold txStep; rw [if_neg hl, if_neg (by rw [h]; simp), if_pos h2, hr]
theorem tx_esc (h : hasPrefix l [92, 117, 48, 48] = false) (hl : l ≠ []) (h2 : hasPrefix l [92] = true) (hr : l.drop 1 = d :: r) : txStep acc l = (acc ++ [d], r, false) := by unfold txStep; rw [if_neg hl, if_neg (by rw [h]; simp), if_pos h2, hr]
theorem tx_plain (h : hasPrefix (d :: r) [92, 117, 48, 48] = false) (h2 : hasPrefix (d :: r) [92] = false) : txStep acc (d :: r) = (acc ++ [d], r, false) := by unfold txStep; rw [if_neg (by simp), if_neg (by rw [h]; simp), if_neg (by rw [h2]; simp)]; rfl
theorem trim_yes {p : List UInt8} (h : hasPrefix l p = true) : trimPrefix l p = l.drop p.length := by unfold trimPrefix; rw [if_pos h]
theorem trim_no {p : List UInt8} (h : hasPrefix l p = false) : trimPrefix l p = l := by unfold trimPrefix; rw [if_neg (by rw [h]; simp)]
end
theorem ba_ne {d : UInt8} {r : List UInt8} : (BA (d :: r)).size ≠ 0 := by rw [BA_size]; simp
def TxInv (W0 : World) (g : Nat) (R : List UInt8 × JS) (v : Value) (wr : World) : Prop :=
  ∃ (A : Option Addr) (m c : Nat) (acc l : List UInt8) (b : Bool) (n : Nat), v = .slice A m c ∧ wr.ownsRow W0.heap.size 5 1 (.slice A m c) m (bytesV acc) ∧ JrOk wr g (l, b) ∧ W0.grownBy wr (some g) ∧ txRun n (acc, l, b) = R ∧ (b = false → l.length < n) ∧ acc.length + l.length ≤ 60000
/-- What the appending regions leave: the literal's block, the row. -/
structure TxG where
  g : Nat
  q : Option (Option Addr × Nat)
structure TxAt (W0 : World) (g : Nat) (c0 : Nat → ByteArray) (c1 : Nat → Bool) (acc : List UInt8) (d : UInt8) (A : Option Addr) (m cp : Nat) (p : Nat) (γ : TxG) (w : World) : Prop where
  grown : W0.grownBy w (some g)
  lt : g < W0.heap.size
  rd : Blk w g 34 #[.string (c0 p), .bool (c1 p)]
  row : p < 2 → w.ownsRow W0.heap.size 5 1 (.slice A m cp) m (bytesV acc)
  lit : p = 1 → Blk w γ.g 5 #[.int .u8 (d.toNat : Int)]
  none_ : p < 2 → γ.q = none
  new : 2 ≤ p → ∃ A' c', γ.q = some (A', c') ∧ w.ownsRow W0.heap.size 5 1 (.slice A' (m + 1) c') (m + 1) (bytesV (acc ++ [d]))
def rd14 (s s' : ByteArray) (p : Nat) : ByteArray := if p < 4 then s else s'
def wr11 (b : Bool) (p : Nat) : Bool := if p < 5 then false else b
def t14 (g : Nat) (s s2 : ByteArray) (d : UInt8) (A : Option Addr) (m cp : Nat) (γ : TxG) : Nat → Value → Prop
  | 0, u => u = .pointer (some ⟨g, 0, none⟩)
  | 1, u => u = .slice A m cp
  | 2, u => u = .pointer (some ⟨g, 0, none⟩)
  | 3, u => u = .pointer (some ⟨g, 0, none⟩)
  | 4, u => u = .pointer (some ⟨g, 0, none⟩)
  | 5, u => u = .string s
  | 6, u => u = .int .u8 (d.toNat : Int)
  | 7, u => u = .slice (some ⟨γ.g, 0, none⟩) 1 1
  | 8, u => ∃ A' c', γ.q = some (A', c') ∧ u = .slice A' (m + 1) c'
  | 9, u => u = .pointer (some ⟨g, 0, none⟩)
  | 10, u => u = .pointer (some ⟨g, 0, none⟩)
  | 11, u => u = .pointer (some ⟨g, 0, none⟩)
  | 12, u => u = .string s
  | 13, u => u = .string s2
  | 14, u => ∃ A' c', γ.q = some (A', c') ∧ u = .slice A' (m + 1) c'
  | 15, u => u = .pointer (some ⟨g, 0, none⟩)
  | 16, u => u = .pointer (some ⟨g, 0, none⟩)
  | 17, u => True
  | _, _ => False
theorem t14_tr {g : Nat} {s s2 : ByteArray} {d : UInt8} {A : Option Addr} {m cp : Nat} {γ : TxG} {q : Nat} {j : Nat} {v : Value} (hj : j ≠ 7) (h : t14 g s s2 d A m cp γ j v) : t14 g s s2 d A m cp ⟨q, γ.q⟩ j v := by
  unfold t14 at *
  split at h
  all_goals first | exact h | exact absurd rfl hj
theorem t14_tr2 {g : Nat} {s s2 : ByteArray} {d : UInt8} {A : Option Addr} {m cp : Nat} {γ : TxG} {q : Option (Option Addr × Nat)} {j : Nat} {v : Value} (hn : γ.q = none) (h : t14 g s s2 d A m cp γ j v) : t14 g s s2 d A m cp ⟨γ.g, q⟩ j v := by
  unfold t14 at *
  split at h
  all_goals first | exact h | (obtain ⟨A', c', e, _⟩ := h; rw [hn] at e; cases e)
def t11 (g : Nat) (s s2 : ByteArray) (d : UInt8) (A : Option Addr) (m cp : Nat) (nn : Int) (E : Value) (bb : Bool) (γ : TxG) : Nat → Value → Prop
  | 0, u => u = .pointer (some ⟨g, 0, none⟩)
  | 1, u => u = .pointer (some ⟨g, 0, none⟩)
  | 2, u => u = .slice A m cp
  | 3, u => u = .int .u64 nn
  | 4, u => u = .int .u8 (d.toNat : Int)
  | 5, u => u = .slice (some ⟨γ.g, 0, none⟩) 1 1
  | 6, u => ∃ A' c', γ.q = some (A', c') ∧ u = .slice A' (m + 1) c'
  | 7, u => u = .pointer (some ⟨g, 0, none⟩)
  | 8, u => u = .pointer (some ⟨g, 0, none⟩)
  | 9, u => u = .pointer (some ⟨g, 0, none⟩)
  | 10, u => u = .string s
  | 11, u => u = .string s2
  | 12, u => u = E
  | 13, u => u = .bool bb
  | 14, u => ∃ A' c', γ.q = some (A', c') ∧ u = .slice A' (m + 1) c'
  | 15, u => u = .pointer (some ⟨g, 0, none⟩)
  | 16, u => u = .pointer (some ⟨g, 0, none⟩)
  | 17, u => True
  | 18, u => u = .pointer (some ⟨g, 0, none⟩)
  | 19, u => u = .pointer (some ⟨g, 1, none⟩)
  | 20, u => True
  | _, _ => False
theorem t11_tr {g : Nat} {s s2 : ByteArray} {d : UInt8} {A : Option Addr} {m cp : Nat} {nn : Int} {E : Value} {bb : Bool} {γ : TxG} {q : Nat} {j : Nat} {v : Value} (hj : j ≠ 5) (h : t11 g s s2 d A m cp nn E bb γ j v) : t11 g s s2 d A m cp nn E bb ⟨q, γ.q⟩ j v := by
  unfold t11 at *
  split at h
  all_goals first | exact h | exact absurd rfl hj
theorem t11_tr2 {g : Nat} {s s2 : ByteArray} {d : UInt8} {A : Option Addr} {m cp : Nat} {nn : Int} {E : Value} {bb : Bool} {γ : TxG} {q : Option (Option Addr × Nat)} {j : Nat} {v : Value} (hn : γ.q = none) (h : t11 g s s2 d A m cp nn E bb γ j v) : t11 g s s2 d A m cp nn E bb ⟨γ.g, q⟩ j v := by
  unfold t11 at *
  split at h
  all_goals first | exact h | (obtain ⟨A', c', e, _⟩ := h; rw [hn] at e; cases e)
set_option maxRecDepth 100000 in
set_option maxHeartbeats 8000000 in
theorem jtext_any (g : Nat) (σ : JS) (w : World) (h : JrOk w g σ) :
    Calls Tryz.prog 47 #[.pointer (some ⟨g, 0, none⟩)] w (JoPost g (textJ σ).2 (.string (BA (textJ σ).1)) w) := by
  have HM := Lib.hid (jmust_any g σ ⟨#[34]⟩ w h)
  have hgl := Blk.lt h.at_
  have HL := Lib.hid h.len
  obtain ⟨σ1, hσ⟩ : ∃ σ1, mustJ [34] σ = σ1 := ⟨_, rfl⟩
  rw [show mustJ (⟨#[34]⟩ : ByteArray).data.toList σ = σ1 from hσ] at HM
  obtain ⟨R, hR⟩ : ∃ R, textJ σ = R := ⟨_, rfl⟩
  have HR := Lib.hid (show txRun (σ1.1.length + 1) ([], σ1) = R from by rw [← hR]; unfold textJ; rw [hσ])
  rw [hR]
  have HS1 := Lib.hid (show σ1.1.length ≤ 60000 from by rw [← hσ]; exact Nat.le_trans (must_len _ _) h.len)
  obtain ⟨W0, hW0⟩ : ∃ W0, W0 = w := ⟨_, rfl⟩
  have HW0 := Lib.hid hW0
  have HE0 := Lib.hid (show ErrVars W0 g from by rw [hW0]; exact h.err)
  clear h hσ hR hW0
  go_enter Tryz.func47, Tryz.ntmps47
  go_wp2_with fail
  refine Calls.mono HM.out ?_
  rintro e w1 ⟨rfl, hJ1, hg1⟩
  have HJ1 := Lib.hid hJ1
  have Hg1 := Lib.hid hg1
  clear hJ1 hg1
  go_wp2_with fail
  go_loopw [3] (fun v wr => TxInv W0 g R v wr) (fun _ wr => jrM g wr)
  case atStart => exact ⟨none, 0, 0, [], σ1.1, σ1.2, _, rfl, World.ownsRow_nil _ _ _ _, HJ1.out, by rw [HW0.out]; exact Hg1.out, HR.out, fun _ => Nat.lt_succ_self _, by have := HS1.out; simpa using this⟩
  case round =>
    clear HJ1 Hg1 HM HR HS1
    obtain ⟨A, m, cp, acc, l, b, n, rfl, ho, hJ, hg, hn, hln, hal⟩ := hrel
    have hgl0 : g < W0.heap.size := by rw [HW0.out]; exact hgl
    have hm : acc.length = m := by have := ho.1; simpa [bytesV_length] using this
    have Hm0 := Lib.hid (jrM_at hJ.at_)
    obtain ⟨M0, hM0⟩ : ∃ M0, jrM g wr = M0 := ⟨_, rfl⟩
    rw [hM0] at Hm0 ⊢
    have Ho := Lib.hid ho
    have HJ := Lib.hid hJ
    have Hg := Lib.hid hg
    have x1 : wr.cell? ⟨g, 1, none⟩ = some (.bool b) := Blk.cell hJ.at_ 1
    have hglr := Blk.lt hJ.at_
    clear ho hJ hg hM0
    cases b with
    | true =>
      have hE : R = (acc, l, true) := by rw [← hn, txRun_bad n rfl]
      have HE := Lib.hid hE
      have hcv := run_string_own (P := Tryz.prog) Tryz.underlying78 Tryz.underlying5 Tryz.underlying9 Ho.out
      clear hE hn
      go_wp2
      go_ret
      rw [HE.out]
      exact ⟨rfl, HJ.out, by rw [← HW0.out]; exact Hg.out⟩
    | false =>
      replace hln := hln rfl
      obtain ⟨n', rfl⟩ : ∃ n', n = n' + 1 := ⟨n - 1, by omega⟩
      have HI := Lib.hid (jis_any g (l, false) ⟨#[34]⟩ wr HJ.out)
      rw [show hasPrefix (l, false).1 (⟨#[34]⟩ : ByteArray).data.toList = hasPrefix l [34] from rfl, show trimPrefix (l, false).1 (⟨#[34]⟩ : ByteArray).data.toList = trimPrefix l [34] from rfl] at HI
      rw [txRun] at hn
      simp only [Bool.false_eq_true, if_false] at hn
      cases h34 : hasPrefix l [34] with
      | true =>
        rw [h34, if_pos rfl] at hn
        have ht : trimPrefix l [34] = l.drop 1 := by unfold trimPrefix; rw [if_pos h34]; rfl
        rw [h34, ht] at HI
        have HE := Lib.hid hn.symm
        clear hn h34 ht
        go_wp2_with fail
        refine Calls.mono HI.out ?_
        rintro e w2 ⟨rfl, hJ2, hg2⟩
        have hcv := run_string_own (P := Tryz.prog) Tryz.underlying78 Tryz.underlying5 Tryz.underlying9 (ownT_grow Ho.out hg2 hgl0)
        have HJ2 := Lib.hid hJ2
        have Hg2 := Lib.hid (grow_trans Hg.out hg2)
        clear hJ2 hg2
        go_wp2
        go_ret
        rw [HE.out]
        exact ⟨rfl, HJ2.out, by rw [← HW0.out]; exact Hg2.out⟩
      | false =>
        rw [h34, if_neg (by simp)] at hn
        have ht : trimPrefix l [34] = l := by unfold trimPrefix; rw [if_neg (by rw [h34]; simp)]
        rw [h34, ht] at HI
        have HN := Lib.hid hn
        clear hn h34 ht
        go_wp2_with fail
        refine Calls.mono HI.out ?_
        rintro e w2 ⟨rfl, hJ2, hg2⟩
        have Ho2 := Lib.hid (ownT_grow Ho.out hg2 hgl0)
        have HJ2 := Lib.hid hJ2
        have Hg2 := Lib.hid (grow_trans Hg.out hg2)
        have y0 : w2.cell? ⟨g, 0, none⟩ = some (.string (BA l)) := Blk.cell hJ2.at_ 0
        have y1 : w2.cell? ⟨g, 1, none⟩ = some (.bool false) := Blk.cell hJ2.at_ 1
        have z1 : w2.frozen? ⟨g, 1, none⟩ = false := Blk.thaw hJ2.at_ 1
        have hgl2 := Blk.lt hJ2.at_
        clear hJ2 hg2 HI Ho HJ Hg x1
        cases l with
        | nil =>
          have HX := Lib.hid (show JrOk (w2.setCell ⟨g, 1, none⟩ (.bool true)) g ([], true) ∧ W0.grownBy (w2.setCell ⟨g, 1, none⟩ (.bool true)) (some g) ∧ (w2.setCell ⟨g, 1, none⟩ (.bool true)).ownsRow W0.heap.size 5 1 (.slice A m cp) m (bytesV acc) from
            ⟨⟨Blk.eq (Blk.set HJ2.out.at_ 1 _) (by simp), HJ2.out.err.grow (grow_set _ _ _ _), HJ2.out.len⟩, bes_set Hg2.out _ _, ownT_grow Ho2.out (grow_set _ _ _ _) hgl0⟩)
          have hq := jrM_at HX.out.1.at_
          rw [show BA ([] : List UInt8) = ⟨#[]⟩ from rfl] at y0
          have HQ := Lib.hid hq
          clear hq
          go_wp2_with fail
          go_roundw
          case rel => exact ⟨A, m, cp, acc, [], true, n', rfl, HX.out.2.2, HX.out.1, HX.out.2.1, by rw [← HN.out, txStep_nil], (fun h => by cases h), hal⟩
          case measure => rw [HQ.out, Hm0.out]; simp
        | cons d0 r0 =>
          obtain ⟨l, hl⟩ : ∃ l, d0 :: r0 = l := ⟨_, rfl⟩
          have Hl := Lib.hid hl
          have hne := isEmpty_no (ba_ne (d := d0) (r := r0))
          have hne2 := beq_nil (ba_ne (d := d0) (r := r0))
          rw [hl] at hne hne2 HN HJ2 y0 hln hal Hm0
          have hlne : l ≠ [] := by rw [← hl]; simp
          have Hlne := Lib.hid hlne
          have HI2 := Lib.hid (jis_any g (l, false) ⟨#[92, 117, 48, 48]⟩ w2 HJ2.out)
          rw [show hasPrefix (l, false).1 (⟨#[92, 117, 48, 48]⟩ : ByteArray).data.toList = hasPrefix l [92, 117, 48, 48] from rfl, show trimPrefix (l, false).1 (⟨#[92, 117, 48, 48]⟩ : ByteArray).data.toList = trimPrefix l [92, 117, 48, 48] from rfl] at HI2
          clear hl hlne
          cases hu : hasPrefix l [92, 117, 48, 48] with
          | true =>
            obtain ⟨l4, h4⟩ : ∃ l4, l.drop 4 = l4 := ⟨_, rfl⟩
            rw [hu, show trimPrefix l [92, 117, 48, 48] = l4 from (trim_yes hu).trans h4] at HI2
            have H4 := Lib.hid h4
            have Hd4 := Lib.hid (show l4.length = l.length - 4 from by rw [← h4]; exact List.length_drop)
            clear h4
            have Hu := Lib.hid hu
            clear hu
            go_wp2_with fail
            refine Calls.mono HI2.out ?_
            rintro e w3 ⟨rfl, hJ3, hg3⟩
            have Ho3 := Lib.hid (ownT_grow Ho2.out hg3 hgl0)
            have HJ3 := Lib.hid hJ3
            have Hg3 := Lib.hid (grow_trans Hg2.out hg3)
            have y03 : w3.cell? ⟨g, 0, none⟩ = some (.string (BA l4)) := Blk.cell hJ3.at_ 0
            have z13 : w3.frozen? ⟨g, 1, none⟩ = false := Blk.thaw hJ3.at_ 1
            have y13 : w3.cell? ⟨g, 1, none⟩ = some (.bool false) := Blk.cell hJ3.at_ 1
            have hgl3 := Blk.lt hJ3.at_
            have hsz : (BA l4).size = l4.length := BA_size _
            clear hJ3 hg3 HI2 y0 y1 z1 hne hne2
            by_cases hs : l4.length < 2
            · have HX := Lib.hid (show JrOk (w3.setCell ⟨g, 1, none⟩ (.bool true)) g (l4, true) ∧ W0.grownBy (w3.setCell ⟨g, 1, none⟩ (.bool true)) (some g) ∧ (w3.setCell ⟨g, 1, none⟩ (.bool true)).ownsRow W0.heap.size 5 1 (.slice A m cp) m (bytesV acc) from
                ⟨⟨Blk.eq (Blk.set HJ3.out.at_ 1 _) (by simp), HJ3.out.err.grow (grow_set _ _ _ _), HJ3.out.len⟩, bes_set Hg3.out _ _, ownT_grow Ho3.out (grow_set _ _ _ _) hgl0⟩)
              have HQ := Lib.hid (jrM_at HX.out.1.at_)
              go_wp2_with fail
              go_roundw
              case rel => exact ⟨A, m, cp, acc, l4, true, n', rfl, HX.out.2.2, HX.out.1, HX.out.2.1, by rw [← HN.out, tx_short Hu.out Hlne.out H4.out hs], (fun h => by cases h), by have := Hd4.out; omega⟩
              case measure => rw [HQ.out, Hm0.out]; simp
            · have h2 : (l4.take 2).length = 2 := by rw [List.length_take]; omega
              have hx1 : (BA l4).extract 0 2 = BA (l4.take 2) := BA_take _ 2 (by omega)
              have HP := Lib.hid (pu_any (l4.take 2) h2 g w3 HJ3.out.err)
              have Hx1 := Lib.hid hx1
              have Hs := Lib.hid hs
              clear hx1 h2
              go_wp2_with fail
              rw [Hx1.out]
              refine Calls.mono HP.out ?_
              rintro e w4 ⟨hb4, hP4⟩
              have hJ4 : JrAt w4 g (l4, false) := Blk.below HJ3.out.at_ hb4 hgl3
              have hg4 := grow_trans Hg3.out (grow_below g hb4)
              have ho4 := ownT_grow Ho3.out (grow_below g hb4) hgl0
              have he4 := HJ3.out.err.grow (grow_below g hb4)
              have Hhx : hex2 l4 = (hxN 0 (l4.take 2)).map UInt8.ofNat := by
                obtain ⟨a, b, q, hq⟩ : ∃ a b q, l4 = a :: b :: q := by
                  clear HP Hx1 Hs hP4 HJ3 Hd4 H4 hJ4
                  cases l4 with
                  | nil => simp at hs
                  | cons a t =>
                    cases t with
                    | nil => simp at hs
                    | cons b q => exact ⟨a, b, q, rfl⟩
                rw [hq]; exact hx_hex a b q
              obtain ⟨d, bb, E, nn, he, hst, hbb, hnn⟩ : ∃ (d : UInt8) (bb : Bool) (E : Value) (nn : Int), e = .returned (.tuple #[.int .u64 nn, E]) ∧ txStep acc l = (acc ++ [d], l4.drop 2, bb) ∧ ((E = .nilIface ∧ bb = false) ∨ (∃ t p, E = .iface t p) ∧ bb = true) ∧ nn = (d.toNat : Int) := by
                rcases hP4 with ⟨n, hn255, hxn, rfl⟩ | ⟨hxn, t, p, rfl⟩
                · exact ⟨UInt8.ofNat n, false, .nilIface, n, rfl, tx_some Hu.out Hlne.out H4.out hs (by rw [Hhx, hxn]; rfl), .inl ⟨rfl, rfl⟩, by rw [UInt8.toNat_ofNat']; omega⟩
                · exact ⟨0, true, .iface t p, 0, rfl, tx_none Hu.out Hlne.out H4.out hs (by rw [Hhx, hxn]; rfl), .inr ⟨⟨t, p, rfl⟩, rfl⟩, rfl⟩
              subst he
              have Hst := Lib.hid hst
              obtain ⟨s, hs0⟩ : ∃ s, BA l4 = s := ⟨_, rfl⟩
              obtain ⟨s2, hs2⟩ : ∃ s2, BA (l4.drop 2) = s2 := ⟨_, rfl⟩
              have hcut : s.extract 2 s.size = s2 := by rw [← hs0, cut_BA, hs2]
              have hss : 2 ≤ s.size := by rw [← hs0, BA_size]; omega
              have hssI : (2 : Int) ≤ (s.size : Int) := by omega
              have HS := Lib.hid (show TxAt W0 g (rd14 s s2) (wr11 bb) acc d A m cp 0 ⟨0, none⟩ w4.drew from ⟨⟨hg4.os, hg4.tape, hg4.output, hg4.size, hg4.block⟩, hgl0, (by rw [← hs0]; exact hJ4), fun _ => ho4.drew, fun h => absurd h (by decide), fun _ => rfl, fun h => absurd h (by decide)⟩)
              have Hs2 := Lib.hid hs2
              have Hd6 := Lib.hid (show (l4.drop 2).length + 6 ≤ l.length from by rw [List.length_drop]; have := Hd4.out; omega)
              have hmm : m + 1 ≤ 140737488355328 := by omega
              have hd256 : d.toNat < 256 := d.toNat_lt
              have hwr : IntKind.u8.wrap (d.toNat : Int) = (d.toNat : Int) := by rw [IntKind.wrap_u8]; omega
              clear hJ4 hg4 ho4 hb4 hP4 Hhx hst hs0 he4 hs2 y03 y13 z13 hsz hs
              subst hnn
              rcases hbb with ⟨rfl, rfl⟩ | ⟨⟨tt, tp, rfl⟩, rfl⟩
              · go_wp2_with fail
                refine wp_region_phasesQ (n := 102) (by kernel_rfl) (t11 g s s2 d A m cp (d.toNat : Int) .nilIface false) [5, 6, 14, 17, 20] (TxAt W0 g (rd14 s s2) (wr11 false) acc d A m cp) ⟨0, none⟩ (by decide +kernel) (by decide +kernel) rfl HS.out ?_ ?_
                · refine ⟨?_, ?_, ?_, ?_, ?_, ?_, ?_, ?_, ?_, ?_, ?_, ?_, ?_, ?_, ?_, ?_, ?_, ?_, ?_, ?_, ?_, trivial⟩
                  · refine .inr ⟨by decide, 0, 5, by decide +kernel, by decide +kernel, fun p γ a wx hpl hph hp hk => wantWp_free rfl ?_⟩
                    have h1 := hk.1 0 _ rfl (by decide +kernel)
                    simp [go_sem, Oper.wp, execOp, Act.eval, h1]
                    exact ⟨_, rfl, γ, fun _ _ _ h => h, rfl, hp⟩
                  · refine .inr ⟨by decide, 0, 5, by decide +kernel, by decide +kernel, fun p γ a wx hpl hph hp hk => wantWp_free rfl ?_⟩
                    have h1 := hk.1 0 _ rfl (by decide +kernel)
                    simp [go_sem, Oper.wp, execOp, Act.eval, h1]
                    exact ⟨_, rfl, γ, fun _ _ _ h => h, rfl, hp⟩
                  · refine .inr ⟨by decide, 0, 5, by decide +kernel, by decide +kernel, fun p γ a wx hpl hph hp hk => wantWp_free rfl ?_⟩
                    have h1 := hk.1 3 _ rfl (by decide +kernel)
                    simp [go_sem, Oper.wp, execOp, Act.eval, h1]
                    exact ⟨_, rfl, γ, fun _ _ _ h => h, rfl, hp⟩
                  · refine .inr ⟨by decide, 0, 5, by decide +kernel, by decide +kernel, fun p γ a wx hpl hph hp hk => wantWp_free rfl ?_⟩
                    have h1 := hk.1 4 _ rfl (by decide +kernel)
                    simp [go_sem, Oper.wp, execOp, Act.eval, h1]
                    exact ⟨_, rfl, γ, fun _ _ _ h => h, rfl, hp⟩
                  · refine .inr ⟨by decide, 0, 5, by decide +kernel, by decide +kernel, fun p γ a wx hpl hph hp hk => wantWp_free rfl ?_⟩
                    obtain ⟨u1, h1, r1⟩ := hk.2.1 3 _ 54 rfl rfl (by decide +kernel)
                    replace r1 : u1 = _ := r1
                    subst r1
                    simp [go_sem, Oper.wp, execOp, Act.eval, h1, hwr]
                    exact ⟨_, rfl, γ, fun _ _ _ h => h, rfl, hp⟩
                  · refine .inl ⟨0, rfl, fun γ a wx hp hk => wantWp_free rfl ?_⟩
                    obtain ⟨u1, h1, r1⟩ := hk.2.1 4 _ 55 rfl rfl (by decide +kernel)
                    replace r1 : u1 = _ := r1
                    subst r1
                    simp [go_sem, Oper.wp, execOp, Act.eval, h1]
                    refine ⟨_, rfl, ⟨wx.heap.size, γ.q⟩, fun j v hj h => ?_, rfl, ?_⟩
                    · exact t11_tr hj h
                    · exact ⟨bes_below hp.grown ((Below.refl _ _).alloc (Nat.le_refl _) _), hp.lt, hp.rd.alloc _, fun _ => (hp.row (by decide)).alloc _, fun _ => heap_alloc_new wx _, fun _ => hp.none_ (by decide), fun h => absurd h (by decide)⟩
                  · refine .inl ⟨1, rfl, fun γ a wx hp hk => wantWp_free rfl ?_⟩
                    obtain ⟨u1, h1, r1⟩ := hk.2.1 2 _ 53 rfl rfl (by decide +kernel)
                    replace r1 : u1 = _ := r1
                    subst r1
                    obtain ⟨u2, h2, r2⟩ := hk.2.1 5 _ 56 rfl rfl (by decide +kernel)
                    replace r2 : u2 = _ := r2
                    subst r2
                    refine wp_push_u8 _ _ rfl W0.heap.size A m cp acc ?_ (hp.row (by decide)) γ.g d (hp.lit rfl) ?_ (by omega) hp.grown.size ?_
                    · simp only [Act.eval, Array.getD_eq_getD_getElem?, h1, Option.getD_some]
                    · simp only [Act.eval, Array.getD_eq_getD_getElem?, h2, Option.getD_some]
                    · intro A' c' w' ho hg
                      have hv : ∀ k, (Value.slice A m cp).ownBlock = some k → W0.heap.size ≤ k := fun k hk => ((hp.row (by decide)).lt k hk).1
                      exact ⟨_, ⟨γ.g, some (A', c')⟩, rfl, fun j v hj h => t11_tr2 (hp.none_ (by decide)) h, ⟨A', c', rfl, rfl⟩, ⟨bes_grew hp.grown hg hv, hp.lt, hp.rd.grewT hg hv hp.lt, fun h => absurd h (by decide), fun h => absurd h (by decide), fun h => absurd h (by decide), fun _ => ⟨A', c', rfl, ho⟩⟩⟩
                  · refine .inr ⟨by decide, 0, 5, by decide +kernel, by decide +kernel, fun p γ a wx hpl hph hp hk => wantWp_free rfl ?_⟩
                    have h1 := hk.1 0 _ rfl (by decide +kernel)
                    simp [go_sem, Oper.wp, execOp, Act.eval, h1]
                    exact ⟨_, rfl, γ, fun _ _ _ h => h, rfl, hp⟩
                  · refine .inr ⟨by decide, 0, 5, by decide +kernel, by decide +kernel, fun p γ a wx hpl hph hp hk => wantWp_free rfl ?_⟩
                    obtain ⟨u1, h1, r1⟩ := hk.2.1 7 _ 58 rfl rfl (by decide +kernel)
                    replace r1 : u1 = _ := r1
                    subst r1
                    simp [go_sem, Oper.wp, execOp, Act.eval, h1]
                    exact ⟨_, rfl, γ, fun _ _ _ h => h, rfl, hp⟩
                  · refine .inr ⟨by decide, 0, 5, by decide +kernel, by decide +kernel, fun p γ a wx hpl hph hp hk => wantWp_free rfl ?_⟩
                    obtain ⟨u1, h1, r1⟩ := hk.2.1 8 _ 59 rfl rfl (by decide +kernel)
                    replace r1 : u1 = _ := r1
                    subst r1
                    simp [go_sem, Oper.wp, execOp, Act.eval, h1]
                    exact ⟨_, rfl, γ, fun _ _ _ h => h, rfl, hp⟩
                  · refine .inr ⟨by decide, 0, 3, by decide +kernel, by decide +kernel, fun p γ a wx hpl hph hp hk => wantWp_free rfl ?_⟩
                    obtain ⟨u1, h1, r1⟩ := hk.2.1 9 _ 60 rfl rfl (by decide +kernel)
                    replace r1 : u1 = _ := r1
                    subst r1
                    have hc : wx.cell? ⟨g, 0, none⟩ = some (.string s) := by have := hp.rd.cell 0; rw [show rd14 s s2 p = s from if_pos (by omega)] at this; exact this
                    simp [go_sem, Oper.wp, execOp, Act.eval, h1, hc]
                    exact ⟨_, rfl, γ, fun _ _ _ h => h, rfl, hp⟩
                  · refine .inr ⟨by decide, 0, 5, by decide +kernel, by decide +kernel, fun p γ a wx hpl hph hp hk => wantWp_free rfl ?_⟩
                    obtain ⟨u1, h1, r1⟩ := hk.2.1 10 _ 61 rfl rfl (by decide +kernel)
                    replace r1 : u1 = _ := r1
                    subst r1
                    simp [go_sem, Oper.wp, execOp, Act.eval, h1, hss, hcut, hssI]
                    exact ⟨_, rfl, γ, fun _ _ _ h => h, rfl, hp⟩
                  · refine .inr ⟨by decide, 0, 5, by decide +kernel, by decide +kernel, fun p γ a wx hpl hph hp hk => wantWp_free rfl ?_⟩
                    have h1 := hk.1 5 _ rfl (by decide +kernel)
                    simp [go_sem, Oper.wp, execOp, Act.eval, h1]
                    exact ⟨_, rfl, γ, fun _ _ _ h => h, rfl, hp⟩
                  · refine .inr ⟨by decide, 0, 5, by decide +kernel, by decide +kernel, fun p γ a wx hpl hph hp hk => wantWp_free rfl ?_⟩
                    obtain ⟨u1, h1, r1⟩ := hk.2.1 12 _ 63 rfl rfl (by decide +kernel)
                    replace r1 : u1 = _ := r1
                    subst r1
                    simp [go_sem, Oper.wp, execOp, Act.eval, h1]
                    exact ⟨_, rfl, γ, fun _ _ _ h => h, rfl, hp⟩
                  · refine .inl ⟨2, rfl, fun γ a wx hp hk => wantWp_free rfl ?_⟩
                    obtain ⟨u1, h1, A', c', e1, rfl⟩ := hk.2.1 6 _ 57 rfl rfl (by decide +kernel)
                    simp [go_sem, Oper.wp, execOp, Act.eval, h1]
                    exact ⟨_, rfl, γ, fun _ _ _ h => h, ⟨A', c', e1, rfl⟩, ⟨hp.grown, hp.lt, hp.rd, fun h => absurd h (by decide), fun h => absurd h (by decide), fun h => absurd h (by decide), fun _ => hp.new (by decide)⟩⟩
                  · refine .inr ⟨by decide, 0, 5, by decide +kernel, by decide +kernel, fun p γ a wx hpl hph hp hk => wantWp_free rfl ?_⟩
                    obtain ⟨u1, h1, r1⟩ := hk.2.1 0 _ 51 rfl rfl (by decide +kernel)
                    replace r1 : u1 = _ := r1
                    subst r1
                    simp [go_sem, Oper.wp, execOp, Act.eval, h1]
                    exact ⟨_, rfl, γ, fun _ _ _ h => h, rfl, hp⟩
                  · refine .inr ⟨by decide, 0, 5, by decide +kernel, by decide +kernel, fun p γ a wx hpl hph hp hk => wantWp_free rfl ?_⟩
                    obtain ⟨u1, h1, r1⟩ := hk.2.1 15 _ 65 rfl rfl (by decide +kernel)
                    replace r1 : u1 = _ := r1
                    subst r1
                    simp [go_sem, Oper.wp, execOp, Act.eval, h1]
                    exact ⟨_, rfl, γ, fun _ _ _ h => h, rfl, hp⟩
                  · refine .inl ⟨3, rfl, fun γ a wx hp hk => wantWp_free rfl ?_⟩
                    obtain ⟨u1, h1, r1⟩ := hk.2.1 16 _ 66 rfl rfl (by decide +kernel)
                    replace r1 : u1 = _ := r1
                    subst r1
                    obtain ⟨u2, h2, r2⟩ := hk.2.1 11 _ 62 rfl rfl (by decide +kernel)
                    replace r2 : u2 = _ := r2
                    subst r2
                    have hc : wx.cell? ⟨g, 0, none⟩ = some (.string s) := hp.rd.cell 0
                    have hz : wx.frozen? ⟨g, 0, none⟩ = false := hp.rd.thaw 0
                    have HG := grow_set wx g 0 (.string s2)
                    obtain ⟨A', c', e9, ho⟩ := hp.new (by decide)
                    have HN : TxAt W0 g (rd14 s s2) (wr11 false) acc d A m cp 4 γ (wx.setCell ⟨g, 0, none⟩ (.string s2)) := ⟨bes_set hp.grown _ _, hp.lt, Blk.eq (hp.rd.set 0 _) rfl, fun h => absurd h (by decide), fun h => absurd h (by decide), fun h => absurd h (by decide), fun _ => ⟨A', c', e9, ownT_grow ho HG hp.lt⟩⟩
                    simp [go_sem, Oper.wp, execOp, Act.eval, h1, h2, hc, hz]
                    exact ⟨.tuple #[], γ, fun _ _ _ h => h, trivial, HN⟩
                  · refine .inr ⟨by decide, 0, 5, by decide +kernel, by decide +kernel, fun p γ a wx hpl hph hp hk => wantWp_free rfl ?_⟩
                    obtain ⟨u1, h1, r1⟩ := hk.2.1 1 _ 52 rfl rfl (by decide +kernel)
                    replace r1 : u1 = _ := r1
                    subst r1
                    simp [go_sem, Oper.wp, execOp, Act.eval, h1]
                    exact ⟨_, rfl, γ, fun _ _ _ h => h, rfl, hp⟩
                  · refine .inr ⟨by decide, 0, 5, by decide +kernel, by decide +kernel, fun p γ a wx hpl hph hp hk => wantWp_free rfl ?_⟩
                    obtain ⟨u1, h1, r1⟩ := hk.2.1 18 _ 67 rfl rfl (by decide +kernel)
                    replace r1 : u1 = _ := r1
                    subst r1
                    simp [go_sem, Oper.wp, execOp, Act.eval, h1]
                    exact ⟨_, rfl, γ, fun _ _ _ h => h, rfl, hp⟩
                  · refine .inl ⟨4, rfl, fun γ a wx hp hk => wantWp_free rfl ?_⟩
                    obtain ⟨u1, h1, r1⟩ := hk.2.1 19 _ 68 rfl rfl (by decide +kernel)
                    replace r1 : u1 = _ := r1
                    subst r1
                    obtain ⟨u2, h2, r2⟩ := hk.2.1 13 _ 64 rfl rfl (by decide +kernel)
                    replace r2 : u2 = _ := r2
                    subst r2
                    have hc : wx.cell? ⟨g, 1, none⟩ = some (.bool false) := hp.rd.cell 1
                    have hz : wx.frozen? ⟨g, 1, none⟩ = false := hp.rd.thaw 1
                    have HG := grow_set wx g 1 (.bool false)
                    obtain ⟨A', c', e9, ho⟩ := hp.new (by decide)
                    have HN : TxAt W0 g (rd14 s s2) (wr11 false) acc d A m cp 5 γ (wx.setCell ⟨g, 1, none⟩ (.bool false)) := ⟨bes_set hp.grown _ _, hp.lt, Blk.eq (hp.rd.set 1 _) rfl, fun h => absurd h (by decide), fun h => absurd h (by decide), fun h => absurd h (by decide), fun _ => ⟨A', c', e9, ownT_grow ho HG hp.lt⟩⟩
                    simp [go_sem, Oper.wp, execOp, Act.eval, h1, h2, hc, hz]
                    exact ⟨.tuple #[], γ, fun _ _ _ h => h, trivial, HN⟩
                · intro γ a wx hd
                  have hp := hd.ph
                  obtain ⟨fv, rfl, hfv⟩ := hd.frame [51, 52, 53, 54, 55, 56, 57, 58, 59, 60, 61, 62, 63, 64, 3, 65, 66, 67, 68] rfl
                  obtain ⟨A', c', e1, h5⟩ := hfv 14 _ 3 rfl rfl
                  obtain ⟨A2, c2, e2, ho⟩ := hp.new (by decide)
                  rw [e1] at e2
                  obtain ⟨rfl, rfl⟩ := Prod.mk.inj (Option.some.inj e2)
                  have Ho9 := Lib.hid ho
                  have Hg9 := Lib.hid hp.grown
                  have Hr9 := Lib.hid hp.rd
                  clear hd hp hfv e1 e2 ho
                  simp only [List.foldl_cons, List.foldl_nil, List.setIfInBounds_toArray, List.set_cons_succ, List.set_cons_zero, h5]
                  clear h5
                  go_wp2_with fail
                  have HJ5 := Lib.hid (show JrOk wx g (l4.drop 2, _) from ⟨Blk.eq Hr9.out (by rw [← Hs2.out]; rfl), HE0.out.grow Hg9.out, by have := Hd6.out; show (l4.drop 2).length ≤ 60000; omega⟩)
                  have HQ := Lib.hid (jrM_at HJ5.out.at_)
                  go_roundw
                  case rel => exact ⟨A', m + 1, c', acc ++ [d], l4.drop 2, _, n', rfl, Ho9.out, HJ5.out, Hg9.out, by rw [← HN.out, Hst.out], (fun _ => by have := Hd6.out; omega), by have := Hd6.out; rw [List.length_append, List.length_singleton]; omega⟩
                  case measure => rw [HQ.out, Hm0.out]; have h6 := Hd6.out; rw [List.length_drop] at h6; simp; try omega
              · go_wp2_with fail
                refine wp_region_phasesQ (n := 102) (by kernel_rfl) (t11 g s s2 d A m cp (d.toNat : Int) (.iface tt tp) true) [5, 6, 14, 17, 20] (TxAt W0 g (rd14 s s2) (wr11 true) acc d A m cp) ⟨0, none⟩ (by decide +kernel) (by decide +kernel) rfl HS.out ?_ ?_
                · refine ⟨?_, ?_, ?_, ?_, ?_, ?_, ?_, ?_, ?_, ?_, ?_, ?_, ?_, ?_, ?_, ?_, ?_, ?_, ?_, ?_, ?_, trivial⟩
                  · refine .inr ⟨by decide, 0, 5, by decide +kernel, by decide +kernel, fun p γ a wx hpl hph hp hk => wantWp_free rfl ?_⟩
                    have h1 := hk.1 0 _ rfl (by decide +kernel)
                    simp [go_sem, Oper.wp, execOp, Act.eval, h1]
                    exact ⟨_, rfl, γ, fun _ _ _ h => h, rfl, hp⟩
                  · refine .inr ⟨by decide, 0, 5, by decide +kernel, by decide +kernel, fun p γ a wx hpl hph hp hk => wantWp_free rfl ?_⟩
                    have h1 := hk.1 0 _ rfl (by decide +kernel)
                    simp [go_sem, Oper.wp, execOp, Act.eval, h1]
                    exact ⟨_, rfl, γ, fun _ _ _ h => h, rfl, hp⟩
                  · refine .inr ⟨by decide, 0, 5, by decide +kernel, by decide +kernel, fun p γ a wx hpl hph hp hk => wantWp_free rfl ?_⟩
                    have h1 := hk.1 3 _ rfl (by decide +kernel)
                    simp [go_sem, Oper.wp, execOp, Act.eval, h1]
                    exact ⟨_, rfl, γ, fun _ _ _ h => h, rfl, hp⟩
                  · refine .inr ⟨by decide, 0, 5, by decide +kernel, by decide +kernel, fun p γ a wx hpl hph hp hk => wantWp_free rfl ?_⟩
                    have h1 := hk.1 4 _ rfl (by decide +kernel)
                    simp [go_sem, Oper.wp, execOp, Act.eval, h1]
                    exact ⟨_, rfl, γ, fun _ _ _ h => h, rfl, hp⟩
                  · refine .inr ⟨by decide, 0, 5, by decide +kernel, by decide +kernel, fun p γ a wx hpl hph hp hk => wantWp_free rfl ?_⟩
                    obtain ⟨u1, h1, r1⟩ := hk.2.1 3 _ 54 rfl rfl (by decide +kernel)
                    replace r1 : u1 = _ := r1
                    subst r1
                    simp [go_sem, Oper.wp, execOp, Act.eval, h1, hwr]
                    exact ⟨_, rfl, γ, fun _ _ _ h => h, rfl, hp⟩
                  · refine .inl ⟨0, rfl, fun γ a wx hp hk => wantWp_free rfl ?_⟩
                    obtain ⟨u1, h1, r1⟩ := hk.2.1 4 _ 55 rfl rfl (by decide +kernel)
                    replace r1 : u1 = _ := r1
                    subst r1
                    simp [go_sem, Oper.wp, execOp, Act.eval, h1]
                    refine ⟨_, rfl, ⟨wx.heap.size, γ.q⟩, fun j v hj h => ?_, rfl, ?_⟩
                    · exact t11_tr hj h
                    · exact ⟨bes_below hp.grown ((Below.refl _ _).alloc (Nat.le_refl _) _), hp.lt, hp.rd.alloc _, fun _ => (hp.row (by decide)).alloc _, fun _ => heap_alloc_new wx _, fun _ => hp.none_ (by decide), fun h => absurd h (by decide)⟩
                  · refine .inl ⟨1, rfl, fun γ a wx hp hk => wantWp_free rfl ?_⟩
                    obtain ⟨u1, h1, r1⟩ := hk.2.1 2 _ 53 rfl rfl (by decide +kernel)
                    replace r1 : u1 = _ := r1
                    subst r1
                    obtain ⟨u2, h2, r2⟩ := hk.2.1 5 _ 56 rfl rfl (by decide +kernel)
                    replace r2 : u2 = _ := r2
                    subst r2
                    refine wp_push_u8 _ _ rfl W0.heap.size A m cp acc ?_ (hp.row (by decide)) γ.g d (hp.lit rfl) ?_ (by omega) hp.grown.size ?_
                    · simp only [Act.eval, Array.getD_eq_getD_getElem?, h1, Option.getD_some]
                    · simp only [Act.eval, Array.getD_eq_getD_getElem?, h2, Option.getD_some]
                    · intro A' c' w' ho hg
                      have hv : ∀ k, (Value.slice A m cp).ownBlock = some k → W0.heap.size ≤ k := fun k hk => ((hp.row (by decide)).lt k hk).1
                      exact ⟨_, ⟨γ.g, some (A', c')⟩, rfl, fun j v hj h => t11_tr2 (hp.none_ (by decide)) h, ⟨A', c', rfl, rfl⟩, ⟨bes_grew hp.grown hg hv, hp.lt, hp.rd.grewT hg hv hp.lt, fun h => absurd h (by decide), fun h => absurd h (by decide), fun h => absurd h (by decide), fun _ => ⟨A', c', rfl, ho⟩⟩⟩
                  · refine .inr ⟨by decide, 0, 5, by decide +kernel, by decide +kernel, fun p γ a wx hpl hph hp hk => wantWp_free rfl ?_⟩
                    have h1 := hk.1 0 _ rfl (by decide +kernel)
                    simp [go_sem, Oper.wp, execOp, Act.eval, h1]
                    exact ⟨_, rfl, γ, fun _ _ _ h => h, rfl, hp⟩
                  · refine .inr ⟨by decide, 0, 5, by decide +kernel, by decide +kernel, fun p γ a wx hpl hph hp hk => wantWp_free rfl ?_⟩
                    obtain ⟨u1, h1, r1⟩ := hk.2.1 7 _ 58 rfl rfl (by decide +kernel)
                    replace r1 : u1 = _ := r1
                    subst r1
                    simp [go_sem, Oper.wp, execOp, Act.eval, h1]
                    exact ⟨_, rfl, γ, fun _ _ _ h => h, rfl, hp⟩
                  · refine .inr ⟨by decide, 0, 5, by decide +kernel, by decide +kernel, fun p γ a wx hpl hph hp hk => wantWp_free rfl ?_⟩
                    obtain ⟨u1, h1, r1⟩ := hk.2.1 8 _ 59 rfl rfl (by decide +kernel)
                    replace r1 : u1 = _ := r1
                    subst r1
                    simp [go_sem, Oper.wp, execOp, Act.eval, h1]
                    exact ⟨_, rfl, γ, fun _ _ _ h => h, rfl, hp⟩
                  · refine .inr ⟨by decide, 0, 3, by decide +kernel, by decide +kernel, fun p γ a wx hpl hph hp hk => wantWp_free rfl ?_⟩
                    obtain ⟨u1, h1, r1⟩ := hk.2.1 9 _ 60 rfl rfl (by decide +kernel)
                    replace r1 : u1 = _ := r1
                    subst r1
                    have hc : wx.cell? ⟨g, 0, none⟩ = some (.string s) := by have := hp.rd.cell 0; rw [show rd14 s s2 p = s from if_pos (by omega)] at this; exact this
                    simp [go_sem, Oper.wp, execOp, Act.eval, h1, hc]
                    exact ⟨_, rfl, γ, fun _ _ _ h => h, rfl, hp⟩
                  · refine .inr ⟨by decide, 0, 5, by decide +kernel, by decide +kernel, fun p γ a wx hpl hph hp hk => wantWp_free rfl ?_⟩
                    obtain ⟨u1, h1, r1⟩ := hk.2.1 10 _ 61 rfl rfl (by decide +kernel)
                    replace r1 : u1 = _ := r1
                    subst r1
                    simp [go_sem, Oper.wp, execOp, Act.eval, h1, hss, hcut, hssI]
                    exact ⟨_, rfl, γ, fun _ _ _ h => h, rfl, hp⟩
                  · refine .inr ⟨by decide, 0, 5, by decide +kernel, by decide +kernel, fun p γ a wx hpl hph hp hk => wantWp_free rfl ?_⟩
                    have h1 := hk.1 5 _ rfl (by decide +kernel)
                    simp [go_sem, Oper.wp, execOp, Act.eval, h1]
                    exact ⟨_, rfl, γ, fun _ _ _ h => h, rfl, hp⟩
                  · refine .inr ⟨by decide, 0, 5, by decide +kernel, by decide +kernel, fun p γ a wx hpl hph hp hk => wantWp_free rfl ?_⟩
                    obtain ⟨u1, h1, r1⟩ := hk.2.1 12 _ 63 rfl rfl (by decide +kernel)
                    replace r1 : u1 = _ := r1
                    subst r1
                    simp [go_sem, Oper.wp, execOp, Act.eval, h1]
                    exact ⟨_, rfl, γ, fun _ _ _ h => h, rfl, hp⟩
                  · refine .inl ⟨2, rfl, fun γ a wx hp hk => wantWp_free rfl ?_⟩
                    obtain ⟨u1, h1, A', c', e1, rfl⟩ := hk.2.1 6 _ 57 rfl rfl (by decide +kernel)
                    simp [go_sem, Oper.wp, execOp, Act.eval, h1]
                    exact ⟨_, rfl, γ, fun _ _ _ h => h, ⟨A', c', e1, rfl⟩, ⟨hp.grown, hp.lt, hp.rd, fun h => absurd h (by decide), fun h => absurd h (by decide), fun h => absurd h (by decide), fun _ => hp.new (by decide)⟩⟩
                  · refine .inr ⟨by decide, 0, 5, by decide +kernel, by decide +kernel, fun p γ a wx hpl hph hp hk => wantWp_free rfl ?_⟩
                    obtain ⟨u1, h1, r1⟩ := hk.2.1 0 _ 51 rfl rfl (by decide +kernel)
                    replace r1 : u1 = _ := r1
                    subst r1
                    simp [go_sem, Oper.wp, execOp, Act.eval, h1]
                    exact ⟨_, rfl, γ, fun _ _ _ h => h, rfl, hp⟩
                  · refine .inr ⟨by decide, 0, 5, by decide +kernel, by decide +kernel, fun p γ a wx hpl hph hp hk => wantWp_free rfl ?_⟩
                    obtain ⟨u1, h1, r1⟩ := hk.2.1 15 _ 65 rfl rfl (by decide +kernel)
                    replace r1 : u1 = _ := r1
                    subst r1
                    simp [go_sem, Oper.wp, execOp, Act.eval, h1]
                    exact ⟨_, rfl, γ, fun _ _ _ h => h, rfl, hp⟩
                  · refine .inl ⟨3, rfl, fun γ a wx hp hk => wantWp_free rfl ?_⟩
                    obtain ⟨u1, h1, r1⟩ := hk.2.1 16 _ 66 rfl rfl (by decide +kernel)
                    replace r1 : u1 = _ := r1
                    subst r1
                    obtain ⟨u2, h2, r2⟩ := hk.2.1 11 _ 62 rfl rfl (by decide +kernel)
                    replace r2 : u2 = _ := r2
                    subst r2
                    have hc : wx.cell? ⟨g, 0, none⟩ = some (.string s) := hp.rd.cell 0
                    have hz : wx.frozen? ⟨g, 0, none⟩ = false := hp.rd.thaw 0
                    have HG := grow_set wx g 0 (.string s2)
                    obtain ⟨A', c', e9, ho⟩ := hp.new (by decide)
                    have HN : TxAt W0 g (rd14 s s2) (wr11 true) acc d A m cp 4 γ (wx.setCell ⟨g, 0, none⟩ (.string s2)) := ⟨bes_set hp.grown _ _, hp.lt, Blk.eq (hp.rd.set 0 _) rfl, fun h => absurd h (by decide), fun h => absurd h (by decide), fun h => absurd h (by decide), fun _ => ⟨A', c', e9, ownT_grow ho HG hp.lt⟩⟩
                    simp [go_sem, Oper.wp, execOp, Act.eval, h1, h2, hc, hz]
                    exact ⟨.tuple #[], γ, fun _ _ _ h => h, trivial, HN⟩
                  · refine .inr ⟨by decide, 0, 5, by decide +kernel, by decide +kernel, fun p γ a wx hpl hph hp hk => wantWp_free rfl ?_⟩
                    obtain ⟨u1, h1, r1⟩ := hk.2.1 1 _ 52 rfl rfl (by decide +kernel)
                    replace r1 : u1 = _ := r1
                    subst r1
                    simp [go_sem, Oper.wp, execOp, Act.eval, h1]
                    exact ⟨_, rfl, γ, fun _ _ _ h => h, rfl, hp⟩
                  · refine .inr ⟨by decide, 0, 5, by decide +kernel, by decide +kernel, fun p γ a wx hpl hph hp hk => wantWp_free rfl ?_⟩
                    obtain ⟨u1, h1, r1⟩ := hk.2.1 18 _ 67 rfl rfl (by decide +kernel)
                    replace r1 : u1 = _ := r1
                    subst r1
                    simp [go_sem, Oper.wp, execOp, Act.eval, h1]
                    exact ⟨_, rfl, γ, fun _ _ _ h => h, rfl, hp⟩
                  · refine .inl ⟨4, rfl, fun γ a wx hp hk => wantWp_free rfl ?_⟩
                    obtain ⟨u1, h1, r1⟩ := hk.2.1 19 _ 68 rfl rfl (by decide +kernel)
                    replace r1 : u1 = _ := r1
                    subst r1
                    obtain ⟨u2, h2, r2⟩ := hk.2.1 13 _ 64 rfl rfl (by decide +kernel)
                    replace r2 : u2 = _ := r2
                    subst r2
                    have hc : wx.cell? ⟨g, 1, none⟩ = some (.bool false) := hp.rd.cell 1
                    have hz : wx.frozen? ⟨g, 1, none⟩ = false := hp.rd.thaw 1
                    have HG := grow_set wx g 1 (.bool true)
                    obtain ⟨A', c', e9, ho⟩ := hp.new (by decide)
                    have HN : TxAt W0 g (rd14 s s2) (wr11 true) acc d A m cp 5 γ (wx.setCell ⟨g, 1, none⟩ (.bool true)) := ⟨bes_set hp.grown _ _, hp.lt, Blk.eq (hp.rd.set 1 _) rfl, fun h => absurd h (by decide), fun h => absurd h (by decide), fun h => absurd h (by decide), fun _ => ⟨A', c', e9, ownT_grow ho HG hp.lt⟩⟩
                    simp [go_sem, Oper.wp, execOp, Act.eval, h1, h2, hc, hz]
                    exact ⟨.tuple #[], γ, fun _ _ _ h => h, trivial, HN⟩
                · intro γ a wx hd
                  have hp := hd.ph
                  obtain ⟨fv, rfl, hfv⟩ := hd.frame [51, 52, 53, 54, 55, 56, 57, 58, 59, 60, 61, 62, 63, 64, 3, 65, 66, 67, 68] rfl
                  obtain ⟨A', c', e1, h5⟩ := hfv 14 _ 3 rfl rfl
                  obtain ⟨A2, c2, e2, ho⟩ := hp.new (by decide)
                  rw [e1] at e2
                  obtain ⟨rfl, rfl⟩ := Prod.mk.inj (Option.some.inj e2)
                  have Ho9 := Lib.hid ho
                  have Hg9 := Lib.hid hp.grown
                  have Hr9 := Lib.hid hp.rd
                  clear hd hp hfv e1 e2 ho
                  simp only [List.foldl_cons, List.foldl_nil, List.setIfInBounds_toArray, List.set_cons_succ, List.set_cons_zero, h5]
                  clear h5
                  go_wp2_with fail
                  have HJ5 := Lib.hid (show JrOk wx g (l4.drop 2, _) from ⟨Blk.eq Hr9.out (by rw [← Hs2.out]; rfl), HE0.out.grow Hg9.out, by have := Hd6.out; show (l4.drop 2).length ≤ 60000; omega⟩)
                  have HQ := Lib.hid (jrM_at HJ5.out.at_)
                  go_roundw
                  case rel => exact ⟨A', m + 1, c', acc ++ [d], l4.drop 2, _, n', rfl, Ho9.out, HJ5.out, Hg9.out, by rw [← HN.out, Hst.out], (fun _ => by have := Hd6.out; omega), by have := Hd6.out; rw [List.length_append, List.length_singleton]; omega⟩
                  case measure => rw [HQ.out, Hm0.out]; have h6 := Hd6.out; rw [List.length_drop] at h6; simp; try omega
          | false =>
            rw [hu, trim_no hu] at HI2
            have Hu := Lib.hid hu
            clear hu
            go_wp2_with fail
            refine Calls.mono HI2.out ?_
            rintro e w3 ⟨rfl, hJ3, hg3⟩
            have Ho3 := Lib.hid (ownT_grow Ho2.out hg3 hgl0)
            have HJ3 := Lib.hid hJ3
            have Hg3 := Lib.hid (grow_trans Hg2.out hg3)
            have HI3 := Lib.hid (jis_any g (l, false) ⟨#[92]⟩ w3 hJ3)
            rw [show hasPrefix (l, false).1 (⟨#[92]⟩ : ByteArray).data.toList = hasPrefix l [92] from rfl, show trimPrefix (l, false).1 (⟨#[92]⟩ : ByteArray).data.toList = trimPrefix l [92] from rfl] at HI3
            clear hJ3 hg3 HI2 y0 y1 z1
            obtain ⟨H3, l3, hH3, hl3, hcase⟩ : ∃ (H3 : Bool) (l3 : List UInt8), hasPrefix l [92] = H3 ∧ trimPrefix l [92] = l3 ∧ ((H3 = true ∧ l3 = [] ∧ txStep acc l = (acc, [], true)) ∨ (H3 = true ∧ ∃ d r, l3 = d :: r ∧ txStep acc l = (acc ++ [d], r, false) ∧ r.length + 2 ≤ l.length) ∨ (H3 = false ∧ ∃ d r, l3 = d :: r ∧ txStep acc l = (acc ++ [d], r, false) ∧ r.length + 1 ≤ l.length)) := by
              cases h92 : hasPrefix l [92] with
              | true =>
                refine ⟨true, _, rfl, rfl, ?_⟩
                rw [trim_yes h92]
                cases hr : l.drop 1 with
                | nil => exact .inl ⟨rfl, rfl, tx_end Hu.out Hlne.out h92 hr⟩
                | cons d r =>
                  refine .inr (.inl ⟨rfl, d, r, rfl, tx_esc Hu.out Hlne.out h92 hr, ?_⟩)
                  have := congrArg List.length hr
                  rw [List.length_drop, List.length_cons] at this
                  omega
              | false =>
                refine ⟨false, _, rfl, rfl, .inr (.inr ⟨rfl, d0, r0, ?_, ?_, ?_⟩)⟩
                · rw [trim_no h92, Hl.out]
                · have hu := Hu.out
                  rw [← Hl.out] at hu h92 ⊢
                  exact tx_plain hu h92
                · rw [← Hl.out]; simp
            rw [hH3, hl3] at HI3
            clear hH3 hl3
            go_wp2_with fail
            refine Calls.mono HI3.out ?_
            rintro e w4 ⟨rfl, hJ4, hg4⟩
            have Ho4 := Lib.hid (ownT_grow Ho3.out hg4 hgl0)
            have HJ4 := Lib.hid hJ4
            have Hg4 := Lib.hid (grow_trans Hg3.out hg4)
            have y04 : w4.cell? ⟨g, 0, none⟩ = some (.string (BA l3)) := Blk.cell hJ4.at_ 0
            have y14 : w4.cell? ⟨g, 1, none⟩ = some (.bool false) := Blk.cell hJ4.at_ 1
            have z14 : w4.frozen? ⟨g, 1, none⟩ = false := Blk.thaw hJ4.at_ 1
            have hgl4 := Blk.lt hJ4.at_
            clear hJ4 hg4 HI3 hne hne2
            rcases hcase with ⟨rfl, rfl, hst⟩ | ⟨rfl, d, r, rfl, hst, hdl⟩ | ⟨rfl, d, r, rfl, hst, hdl⟩
            · have HX := Lib.hid (show JrOk (w4.setCell ⟨g, 1, none⟩ (.bool true)) g ([], true) ∧ W0.grownBy (w4.setCell ⟨g, 1, none⟩ (.bool true)) (some g) ∧ (w4.setCell ⟨g, 1, none⟩ (.bool true)).ownsRow W0.heap.size 5 1 (.slice A m cp) m (bytesV acc) from
                ⟨⟨Blk.eq (Blk.set HJ4.out.at_ 1 _) (by simp), HE0.out.grow (bes_set Hg4.out _ _), HJ4.out.len⟩, bes_set Hg4.out _ _, ownT_grow Ho4.out (grow_set _ _ _ _) hgl0⟩)
              have HQ := Lib.hid (jrM_at HX.out.1.at_)
              have Hst := Lib.hid hst
              rw [show BA ([] : List UInt8) = ⟨#[]⟩ from rfl] at y04
              clear hst
              go_wp2_with fail
              go_roundw
              case rel => exact ⟨A, m, cp, acc, [], true, n', rfl, HX.out.2.2, HX.out.1, HX.out.2.1, by rw [← HN.out, Hst.out], (fun h => by cases h), by simp; omega⟩
              case measure => rw [HQ.out, Hm0.out]; simp
            all_goals
              have hne := isEmpty_no (ba_ne (d := d) (r := r))
              have hne2 := beq_nil (ba_ne (d := d) (r := r))
              have hix : ∀ W, (Instr.index 9 (.string (BA (d :: r))) (.int .i64 0)).run Tryz.prog W = .ok (.int .u8 (d.toNat : Int)) W := fun W => by
                have := idx_str (s := BA (d :: r)) (k := 0) (c := d.toNat) (by rw [BA_size]; simp) (by simp [BA, ByteArray.getElem_eq_getElem_data]) W
                simpa using this
              have hcut : (BA (d :: r)).extract 1 (BA (d :: r)).size = BA r := cut_BA _ 1
              have hss : 1 ≤ (BA (d :: r)).size := by rw [BA_size]; simp
              have hssI : (1 : Int) ≤ ((BA (d :: r)).size : Int) := by omega
              obtain ⟨s, hs0⟩ : ∃ s, BA (d :: r) = s := ⟨_, rfl⟩
              obtain ⟨s2, hs2⟩ : ∃ s2, BA r = s2 := ⟨_, rfl⟩
              rw [hs0] at hne hne2 hix hcut hss hssI y04
              rw [hs2] at hcut
              have HS := Lib.hid (show TxAt W0 g (rd14 s s2) (fun _ => false) acc d A m cp 0 ⟨0, none⟩ w4.drew from ⟨⟨Hg4.out.os, Hg4.out.tape, Hg4.out.output, Hg4.out.size, Hg4.out.block⟩, hgl0, (by rw [← hs0]; exact HJ4.out.at_), fun _ => Ho4.out.drew, fun h => absurd h (by decide), fun _ => rfl, fun h => absurd h (by decide)⟩)
              have Hs2 := Lib.hid hs2
              have Hst := Lib.hid hst
              have hmm : m + 1 ≤ 140737488355328 := by omega
              clear hs0 hs2 hst
              go_wp2_with fail
              refine wp_region_phasesQ (n := 102) (by kernel_rfl) (t14 g s s2 d A m cp) [7, 8, 14, 17] (TxAt W0 g (rd14 s s2) (fun _ => false) acc d A m cp) ⟨0, none⟩ (by decide +kernel) (by decide +kernel) rfl HS.out ?_ ?_
              · refine ⟨?_, ?_, ?_, ?_, ?_, ?_, ?_, ?_, ?_, ?_, ?_, ?_, ?_, ?_, ?_, ?_, ?_, ?_, trivial⟩
                · refine .inr ⟨by decide, 0, 4, by decide +kernel, by decide +kernel, fun p γ a wx hpl hph hp hk => wantWp_free rfl ?_⟩
                  have h1 := hk.1 0 _ rfl (by decide +kernel)
                  simp [go_sem, Oper.wp, execOp, Act.eval, h1]
                  exact ⟨_, rfl, γ, fun _ _ _ h => h, rfl, hp⟩
                · refine .inr ⟨by decide, 0, 4, by decide +kernel, by decide +kernel, fun p γ a wx hpl hph hp hk => wantWp_free rfl ?_⟩
                  have h1 := hk.1 3 _ rfl (by decide +kernel)
                  simp [go_sem, Oper.wp, execOp, Act.eval, h1]
                  exact ⟨_, rfl, γ, fun _ _ _ h => h, rfl, hp⟩
                · refine .inr ⟨by decide, 0, 4, by decide +kernel, by decide +kernel, fun p γ a wx hpl hph hp hk => wantWp_free rfl ?_⟩
                  have h1 := hk.1 0 _ rfl (by decide +kernel)
                  simp [go_sem, Oper.wp, execOp, Act.eval, h1]
                  exact ⟨_, rfl, γ, fun _ _ _ h => h, rfl, hp⟩
                · refine .inr ⟨by decide, 0, 4, by decide +kernel, by decide +kernel, fun p γ a wx hpl hph hp hk => wantWp_free rfl ?_⟩
                  obtain ⟨u1, h1, r1⟩ := hk.2.1 2 _ 86 rfl rfl (by decide +kernel)
                  replace r1 : u1 = _ := r1
                  subst r1
                  simp [go_sem, Oper.wp, execOp, Act.eval, h1]
                  exact ⟨_, rfl, γ, fun _ _ _ h => h, rfl, hp⟩
                · refine .inr ⟨by decide, 0, 4, by decide +kernel, by decide +kernel, fun p γ a wx hpl hph hp hk => wantWp_free rfl ?_⟩
                  obtain ⟨u1, h1, r1⟩ := hk.2.1 3 _ 87 rfl rfl (by decide +kernel)
                  replace r1 : u1 = _ := r1
                  subst r1
                  simp [go_sem, Oper.wp, execOp, Act.eval, h1]
                  exact ⟨_, rfl, γ, fun _ _ _ h => h, rfl, hp⟩
                · refine .inr ⟨by decide, 0, 3, by decide +kernel, by decide +kernel, fun p γ a wx hpl hph hp hk => wantWp_free rfl ?_⟩
                  obtain ⟨u1, h1, r1⟩ := hk.2.1 4 _ 88 rfl rfl (by decide +kernel)
                  replace r1 : u1 = _ := r1
                  subst r1
                  have hc : wx.cell? ⟨g, 0, none⟩ = some (.string s) := by have := hp.rd.cell 0; rw [show rd14 s s2 p = s from if_pos (by omega)] at this; exact this
                  simp [go_sem, Oper.wp, execOp, Act.eval, h1, hc]
                  exact ⟨_, rfl, γ, fun _ _ _ h => h, rfl, hp⟩
                · refine .inr ⟨by decide, 0, 4, by decide +kernel, by decide +kernel, fun p γ a wx hpl hph hp hk => wantWp_free rfl ?_⟩
                  obtain ⟨u1, h1, r1⟩ := hk.2.1 5 _ 89 rfl rfl (by decide +kernel)
                  replace r1 : u1 = _ := r1
                  subst r1
                  simp [go_sem, Oper.wp, execOp, Act.eval, h1, hix]
                  exact ⟨_, rfl, γ, fun _ _ _ h => h, rfl, hp⟩
                · refine .inl ⟨0, rfl, fun γ a wx hp hk => wantWp_free rfl ?_⟩
                  obtain ⟨u1, h1, r1⟩ := hk.2.1 6 _ 90 rfl rfl (by decide +kernel)
                  replace r1 : u1 = _ := r1
                  subst r1
                  simp [go_sem, Oper.wp, execOp, Act.eval, h1]
                  refine ⟨_, rfl, ⟨wx.heap.size, γ.q⟩, fun j v hj h => ?_, rfl, ?_⟩
                  · exact t14_tr hj h
                  · exact ⟨bes_below hp.grown ((Below.refl _ _).alloc (Nat.le_refl _) _), hp.lt, hp.rd.alloc _, fun _ => (hp.row (by decide)).alloc _, fun _ => heap_alloc_new wx _, fun _ => hp.none_ (by decide), fun h => absurd h (by decide)⟩
                · refine .inl ⟨1, rfl, fun γ a wx hp hk => wantWp_free rfl ?_⟩
                  obtain ⟨u1, h1, r1⟩ := hk.2.1 1 _ 85 rfl rfl (by decide +kernel)
                  replace r1 : u1 = _ := r1
                  subst r1
                  obtain ⟨u2, h2, r2⟩ := hk.2.1 7 _ 91 rfl rfl (by decide +kernel)
                  replace r2 : u2 = _ := r2
                  subst r2
                  refine wp_push_u8 _ _ rfl W0.heap.size A m cp acc ?_ (hp.row (by decide)) γ.g d (hp.lit rfl) ?_ (by omega) hp.grown.size ?_
                  · simp only [Act.eval, Array.getD_eq_getD_getElem?, h1, Option.getD_some]
                  · simp only [Act.eval, Array.getD_eq_getD_getElem?, h2, Option.getD_some]
                  · intro A' c' w' ho hg
                    have hv : ∀ k, (Value.slice A m cp).ownBlock = some k → W0.heap.size ≤ k := fun k hk => ((hp.row (by decide)).lt k hk).1
                    exact ⟨_, ⟨γ.g, some (A', c')⟩, rfl, fun j v hj h => t14_tr2 (hp.none_ (by decide)) h, ⟨A', c', rfl, rfl⟩, ⟨bes_grew hp.grown hg hv, hp.lt, hp.rd.grewT hg hv hp.lt, fun h => absurd h (by decide), fun h => absurd h (by decide), fun h => absurd h (by decide), fun _ => ⟨A', c', rfl, ho⟩⟩⟩
                · refine .inr ⟨by decide, 0, 4, by decide +kernel, by decide +kernel, fun p γ a wx hpl hph hp hk => wantWp_free rfl ?_⟩
                  have h1 := hk.1 0 _ rfl (by decide +kernel)
                  simp [go_sem, Oper.wp, execOp, Act.eval, h1]
                  exact ⟨_, rfl, γ, fun _ _ _ h => h, rfl, hp⟩
                · refine .inr ⟨by decide, 0, 4, by decide +kernel, by decide +kernel, fun p γ a wx hpl hph hp hk => wantWp_free rfl ?_⟩
                  obtain ⟨u1, h1, r1⟩ := hk.2.1 9 _ 93 rfl rfl (by decide +kernel)
                  replace r1 : u1 = _ := r1
                  subst r1
                  simp [go_sem, Oper.wp, execOp, Act.eval, h1]
                  exact ⟨_, rfl, γ, fun _ _ _ h => h, rfl, hp⟩
                · refine .inr ⟨by decide, 0, 4, by decide +kernel, by decide +kernel, fun p γ a wx hpl hph hp hk => wantWp_free rfl ?_⟩
                  obtain ⟨u1, h1, r1⟩ := hk.2.1 10 _ 94 rfl rfl (by decide +kernel)
                  replace r1 : u1 = _ := r1
                  subst r1
                  simp [go_sem, Oper.wp, execOp, Act.eval, h1]
                  exact ⟨_, rfl, γ, fun _ _ _ h => h, rfl, hp⟩
                · refine .inr ⟨by decide, 0, 3, by decide +kernel, by decide +kernel, fun p γ a wx hpl hph hp hk => wantWp_free rfl ?_⟩
                  obtain ⟨u1, h1, r1⟩ := hk.2.1 11 _ 95 rfl rfl (by decide +kernel)
                  replace r1 : u1 = _ := r1
                  subst r1
                  have hc : wx.cell? ⟨g, 0, none⟩ = some (.string s) := by have := hp.rd.cell 0; rw [show rd14 s s2 p = s from if_pos (by omega)] at this; exact this
                  simp [go_sem, Oper.wp, execOp, Act.eval, h1, hc]
                  exact ⟨_, rfl, γ, fun _ _ _ h => h, rfl, hp⟩
                · refine .inr ⟨by decide, 0, 4, by decide +kernel, by decide +kernel, fun p γ a wx hpl hph hp hk => wantWp_free rfl ?_⟩
                  obtain ⟨u1, h1, r1⟩ := hk.2.1 12 _ 96 rfl rfl (by decide +kernel)
                  replace r1 : u1 = _ := r1
                  subst r1
                  simp [go_sem, Oper.wp, execOp, Act.eval, h1, hss, hcut, hssI]
                  exact ⟨_, rfl, γ, fun _ _ _ h => h, rfl, hp⟩
                · refine .inl ⟨2, rfl, fun γ a wx hp hk => wantWp_free rfl ?_⟩
                  obtain ⟨u1, h1, A', c', e1, rfl⟩ := hk.2.1 8 _ 92 rfl rfl (by decide +kernel)
                  simp [go_sem, Oper.wp, execOp, Act.eval, h1]
                  exact ⟨_, rfl, γ, fun _ _ _ h => h, ⟨A', c', e1, rfl⟩, ⟨hp.grown, hp.lt, hp.rd, fun h => absurd h (by decide), fun h => absurd h (by decide), fun h => absurd h (by decide), fun _ => hp.new (by decide)⟩⟩
                · refine .inr ⟨by decide, 0, 4, by decide +kernel, by decide +kernel, fun p γ a wx hpl hph hp hk => wantWp_free rfl ?_⟩
                  obtain ⟨u1, h1, r1⟩ := hk.2.1 0 _ 84 rfl rfl (by decide +kernel)
                  replace r1 : u1 = _ := r1
                  subst r1
                  simp [go_sem, Oper.wp, execOp, Act.eval, h1]
                  exact ⟨_, rfl, γ, fun _ _ _ h => h, rfl, hp⟩
                · refine .inr ⟨by decide, 0, 4, by decide +kernel, by decide +kernel, fun p γ a wx hpl hph hp hk => wantWp_free rfl ?_⟩
                  obtain ⟨u1, h1, r1⟩ := hk.2.1 15 _ 98 rfl rfl (by decide +kernel)
                  replace r1 : u1 = _ := r1
                  subst r1
                  simp [go_sem, Oper.wp, execOp, Act.eval, h1]
                  exact ⟨_, rfl, γ, fun _ _ _ h => h, rfl, hp⟩
                · refine .inl ⟨3, rfl, fun γ a wx hp hk => wantWp_free rfl ?_⟩
                  obtain ⟨u1, h1, r1⟩ := hk.2.1 16 _ 99 rfl rfl (by decide +kernel)
                  replace r1 : u1 = _ := r1
                  subst r1
                  obtain ⟨u2, h2, r2⟩ := hk.2.1 13 _ 97 rfl rfl (by decide +kernel)
                  replace r2 : u2 = _ := r2
                  subst r2
                  have hc : wx.cell? ⟨g, 0, none⟩ = some (.string s) := hp.rd.cell 0
                  have hz : wx.frozen? ⟨g, 0, none⟩ = false := hp.rd.thaw 0
                  have HG := grow_set wx g 0 (.string s2)
                  obtain ⟨A', c', e9, ho⟩ := hp.new (by decide)
                  have HN : TxAt W0 g (rd14 s s2) (fun _ => false) acc d A m cp 4 γ (wx.setCell ⟨g, 0, none⟩ (.string s2)) := ⟨bes_set hp.grown _ _, hp.lt, Blk.eq (hp.rd.set 0 _) rfl, fun h => absurd h (by decide), fun h => absurd h (by decide), fun h => absurd h (by decide), fun _ => ⟨A', c', e9, ownT_grow ho HG hp.lt⟩⟩
                  simp [go_sem, Oper.wp, execOp, Act.eval, h1, h2, hc, hz]
                  exact ⟨.tuple #[], γ, fun _ _ _ h => h, trivial, HN⟩
              · intro γ a wx hd
                have hp := hd.ph
                obtain ⟨fv, rfl, hfv⟩ := hd.frame [84, 85, 86, 87, 88, 89, 90, 91, 92, 93, 94, 95, 96, 97, 3, 98, 99] rfl
                obtain ⟨A', c', e1, h5⟩ := hfv 14 _ 3 rfl rfl
                obtain ⟨A2, c2, e2, ho⟩ := hp.new (by decide)
                rw [e1] at e2
                obtain ⟨rfl, rfl⟩ := Prod.mk.inj (Option.some.inj e2)
                have Ho9 := Lib.hid ho
                have Hg9 := Lib.hid hp.grown
                have Hr9 := Lib.hid hp.rd
                clear hd hp hfv e1 e2 ho
                simp only [List.foldl_cons, List.foldl_nil, List.setIfInBounds_toArray, List.set_cons_succ, List.set_cons_zero, h5]
                clear h5
                go_wp2_with fail
                have HJ5 := Lib.hid (show JrOk wx g (r, false) from ⟨Blk.eq Hr9.out (by rw [← Hs2.out]; rfl), HE0.out.grow Hg9.out, by show r.length ≤ 60000; omega⟩)
                have HQ := Lib.hid (jrM_at HJ5.out.at_)
                go_roundw
                case rel => exact ⟨A', m + 1, c', acc ++ [d], r, false, n', rfl, Ho9.out, HJ5.out, Hg9.out, by rw [← HN.out, Hst.out], (fun _ => by omega), by rw [List.length_append, List.length_singleton]; omega⟩
                case measure => rw [HQ.out, Hm0.out]; simp; omega
end Go.Proofs.YtcodhhabfacnjaaGreatDoor
