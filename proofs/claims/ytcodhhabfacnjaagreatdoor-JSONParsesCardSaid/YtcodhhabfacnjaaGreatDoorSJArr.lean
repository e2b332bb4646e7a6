/- Of the proof of a statement: JArr. -/
import Derived.Test.YtcodhhabfacnjaaGreatDoorSJFlds
set_option linter.unusedVariables false
set_option linter.unusedSimpArgs false
/- json.array at its three types. -/
namespace Go.Proofs.YtcodhhabfacnjaaGreatDoor
open Go.RowKit
/-- Bytes of a row appended. -/
theorem push_row {w : World} {ops : Array Oper} {rest : List Oper} {o : Oper} {a : Act} {Q : Exit → Act → World → Prop} (hgd : o.guard = none) (s x : Operand) (ho : o.op = .call { callee := .builtin .append, args := #[s, x], argTypes := #[78, 78] })
    (base : Nat) (A : Option Addr) (m c : Nat) (l : List UInt8) (hs : a.eval s = .slice A m c) (hown : w.ownsRow base 5 1 (.slice A m c) m (bytesV l))
    (g off k c2 : Nat) (b : List UInt8) (hr : RowAt w g off (bytesV b)) (hk : 0 < k) (hbk : b.length = k) (hx : a.eval x = .slice (some ⟨g, off, none⟩) k c2) (hm : m + k ≤ 140737488355328) (hbase : base ≤ w.heap.size)
    (h : ∀ A' c' w', w'.ownsRow base 5 1 (.slice A' (m + k) c') (m + k) (bytesV (l ++ b)) → Grew w w' (.slice A m c) (.slice A' (m + k) c') → wpList Tryz.prog ops Q rest (a.put o.dst (.slice A' (m + k) c')) w') :
    wpList Tryz.prog ops Q (o :: rest) a w := by
  obtain ⟨i0, hi, hz0, hz1, hz2⟩ := info_parts Tryz.infoU8
  refine wpList_append_own_at _ hgd s x 78 ho base 5 i0 (.int .u8 0) 1 1 Tryz.underlying78 hi hz0 hz1 hz2 rfl (by decide) _ m _ hs hown ⟨g, off, none⟩ k c2 (bytesV b) hx (by rw [bytesV_length, hbk, Nat.mul_one])
    (fun j u hu => ?_) (fun u hu => ?_) (by unfold maxLen; omega) (by omega) hbase (fun v' w' o' g' hnil hb => ?_)
  · have := hr j u hu
    unfold Addr.add
    split
    · rename_i hj; subst hj; simpa using this
    · exact this
  · obtain ⟨c, _, rfl⟩ := List.mem_map.1 hu
    rfl
  · rw [← bytesV_append] at o'
    rcases o'.2 with ⟨_, h0⟩ | ⟨g, cap, cur, hv, _⟩
    · omega
    · subst hv
      refine h _ _ _ o' ⟨g', ?_⟩
      rcases hb with hb | hb
      · exact .inl hb
      · exact .inr ⟨_, hb, Nat.le_refl _⟩
theorem own_nilU (w : World) (B : Nat) : w.ownsRow B 5 1 (.slice none 0 0) 0 (bytesV []) := World.ownsRow_nil _ _ _ _
theorem commaL_len2 {L n : Nat} {l : List (List UInt8)} (h : ∀ x ∈ l, x.length ≤ L) (hn : l.length ≤ n) : (commaL l).length ≤ n * (L + 1) := Nat.le_trans (commaL_len l h) (Nat.mul_le_mul hn (Nat.le_refl _))
theorem objL_len {fs : List (ByteArray × FV)} (hn : fs.length ≤ 5) (hok : ∀ f ∈ fs, f.1.size ≤ 100 ∧ FvOk f.2) : (objL fs).length ≤ 6060 := by
  have h := commaL_len2 (L := 1210) (n := 5) (l := fs.map fieldL) (fun x hx => by
    obtain ⟨f, hf, rfl⟩ := List.mem_map.1 hx
    exact fieldL_len f (hok f hf).1 (hok f hf).2) (by simpa using hn)
  unfold objL
  simp only [List.length_append, List.length_singleton]
  omega
theorem SlAt.rowAt {α : Type} {enc : α → List Value} {w : World} {B sz n : Nat} {A : Option Addr} {l : List α} (h : SlAt w B sz A n (rowsV enc l)) (hz : ∀ a, (enc a).length = sz) (hl : l.length = n) {i : Nat} {a : α} (hi : l[i]? = some a) :
    ∃ b off, A = some ⟨b, off, none⟩ ∧ b < B ∧ RowAt w b (off + i * sz) (enc a) := by
  have hil := (List.getElem?_eq_some_iff.1 hi).1
  obtain ⟨b, off, e, hb, hr⟩ := h.at_ (by omega)
  refine ⟨b, off, e, hb, fun j u hj => ?_⟩
  have hjs : j < sz := by have := (List.getElem?_eq_some_iff.1 hj).1; rw [hz] at this; exact this
  rw [Nat.add_assoc]
  exact hr _ u (by rw [rowsV_get hz l i j a hi hjs]; exact hj)
theorem At2.belowU {B : Nat} {w wr w' : World} {l : List UInt8} {A : Option Addr} {m c : Nat} (h : At2 B w l wr A m c) (hB : B ≤ w.heap.size) (hb : Below wr.heap.size wr w') : At2 B w l w' A m c :=
  ⟨ownU_below h.own hb, h.below.trans (hb.mono (Nat.le_trans hB h.below.size)), h.kept.below hb⟩
def ArrInv {α : Type} (F : α → List UInt8) (B : Nat) (l : List UInt8) (xs : List α) (n : Nat) (w : World) (v i : Value) (wr : World) : Prop :=
  ∃ (A : Option Addr) (m c k : Nat), v = .slice A m c ∧ i = .int .i64 k ∧ k ≤ n ∧ At2 B w (l ++ commaL ((xs.take k).map F)) wr A m c
def jobOk (x : JobD) : Prop := ∀ f ∈ jobFs x, f.1.size ≤ 100 ∧ FvOk f.2
set_option maxRecDepth 100000 in
set_option maxHeartbeats 2000000 in
theorem arr_job (B : Nat) (A : Option Addr) (m c : Nat) (l : List UInt8) (name : ByteArray) (xs : List JobD) (XA : Option Addr) (n xc : Nat) (w : World) (hown : w.ownsRow B 5 1 (.slice A m c) m (bytesV l)) (hm : m ≤ 140737470000000) (hB : B ≤ w.heap.size) (hname : name.size ≤ 100)
    (hx : SlAt w B 5 XA n (rowsV jobV xs)) (hl : xs.length = n) (hn : n ≤ 40) (hok : ∀ x ∈ xs, jobOk x) (htab : Lib.TabBelow Tryz.prog B w "internal/strconv.uint64pow10" .u64 Lib.pow10Tab) :
    Calls Tryz.prog 34 #[.slice A m c, .string name, .slice XA n xc, .func (.func 10) #[] #[]] w (JPost B (l ++ arrL name (xs.map fun x => objL (jobFs x))) w) := by
  have hlm : l.length = m := by have := hown.1; simpa [bytesV] using this
  have hqn : (quoteL name.data.toList).length ≤ 602 := quoteL_len name hname
  have hqp : 0 < (quoteL name.data.toList).length := by unfold quoteL; simp
  have hA0 := Lib.hid (show At2 B w l w A m c from ⟨hown, Below.refl _ _, Lib.OthersKept.refl _ _ _⟩)
  have Hl := Lib.hid hlm
  have HX := Lib.hid hx
  have HT := Lib.hid htab
  have Hok := Lib.hid hok
  have Hlx := Lib.hid hl
  have heg := enters_of Tryz.func10 (by kernel_rfl) rfl
  clear hlm hown hx htab hok hl
  go_enter Tryz.func34, Tryz.ntmps34
  go_wp2_with (at_builtin; refine push_u8 rfl _ _ rfl B _ _ _ _ rfl hA0.out.own _ 44 rfl rfl (by omega) hB ?_; intro A1 c1 w1 ho1 hg1; have hA1 := Lib.hid (hA0.out.grew hB ho1 hg1); clear ho1 hg1)
  refine Calls.mono (quote_any w1.heap.size none 0 0 [] name w1 (own_nilU _ _) (by omega) (Nat.le_refl _)) ?_
  rintro e w2 ⟨A2, m2, c2, rfl, ho2, hg2⟩
  have hb2 : Below w1.heap.size w1 w2 := hg2.below (Nat.le_refl _) (fun k hk => by cases hk)
  have hm2 : (quoteL name.data.toList).length = m2 := by have := ho2.1; simpa [bytesV_length] using this
  obtain ⟨g2, off2, rfl, hg2l, hr2⟩ := (own_slAt ho2).at_ (by omega)
  have hk2 := kept_grew (own_nilU w1 w1.heap.size) hg2
  have hA2 := Lib.hid (show At2 B w (l ++ [44]) w2 A1 (m + 1) c1 from ⟨ownU_below hA1.out.own hb2, hA1.out.below.trans (hb2.mono (Nat.le_trans hB hA1.out.below.size)), hA1.out.kept.trans hk2⟩)
  have Hm2 := Lib.hid hm2
  have hm2l : m2 ≤ 602 := by omega
  have hm2p : 0 < m2 := by omega
  simp only [List.nil_append] at hr2
  have Hr2 := Lib.hid hr2
  clear ho2 hg2 hb2 hm2 hg2l hr2 hk2
  go_wp2_with (first | (at_builtin; refine push_row rfl _ _ rfl B _ _ _ _ rfl hA2.out.own g2 off2 m2 _ _ Hr2.out hm2p Hm2.out rfl (by omega) (Nat.le_trans hB hA2.out.below.size) ?_; intro A3 c3 w3 ho3 hg3; have hA3 := Lib.hid (hA2.out.grew hB ho3 hg3); clear ho3 hg3 Hr2) | (at_builtin; refine push_bytes rfl _ _ rfl B _ _ _ _ rfl hA3.out.own _ 2 (by decide) [58, 91] rfl rfl rfl (by omega) (Nat.le_trans hB hA3.out.below.size) ?_; intro A4 c4 w4 ho4 hg4; have hA4 := Lib.hid (hA3.out.grew hB ho4 hg4); clear ho4 hg4))
  go_loopw [0, 9, 20] (fun v _ i wr => ArrInv (fun x => objL (jobFs x)) B (l ++ [44] ++ quoteL name.data.toList ++ [58, 91]) xs n w v i wr) (fun _ _ i _ => n - (intOf i).toNat)
  case atStart => exact ⟨A4, m + 1 + m2 + 2, c4, 0, rfl, rfl, Nat.zero_le _, by
    have h := hA4.out
    simpa [commaL] using h⟩
  case round =>
    clear hA1 hA2 hA3 hA4
    obtain ⟨A5, m5, c5, k, rfl, rfl, hk, hA⟩ := hrel
    have hA5 := Lib.hid hA
    have hlen : m5 ≤ 140737470250000 := by
      have e2 := hA.len
      have e3 := commaL_len2 (L := 6060) (n := 40) (l := (xs.take k).map fun x => objL (jobFs x)) (fun y hy => by
        obtain ⟨x, hx, rfl⟩ := List.mem_map.1 hy
        exact objL_len (by simp [jobFs]) (Hok.out x (List.mem_of_mem_take hx))) (by rw [List.length_map, List.length_take, Hlx.out]; omega)
      simp only [List.length_append, List.length_cons, List.length_nil] at e2
      have := Hl.out
      omega
    clear hA
    by_cases hlt : k < n
    · obtain ⟨x, hf⟩ : ∃ x, xs[k]? = some x := ⟨_, List.getElem?_eq_getElem (by have := Hlx.out; omega)⟩
      obtain ⟨b, off, hXA, hbB, hbr⟩ := HX.out.rowAt jobV_len Hlx.out hf
      subst hXA
      have Hst := Lib.hid (commaL_take (fun x => objL (jobFs x)) hf)
      have Hxo := Lib.hid (Hok.out x (List.mem_of_getElem? hf))
      have Hbr := Lib.hid hbr
      clear hf hbr
      by_cases hk0 : k = 0
      · have Hk0 := Lib.hid hk0
        have d1 : decide ((0 : Int) < (k : Int)) = false := decide_eq_false (by omega)
        have h0k : ¬ 0 < k := by omega
        clear hk0
        go_wp2_with (fail)
        refine Calls.mono (jobFields_any b (off + k * 5) _) ?_
        rintro e w7 ⟨g, rfl, hg1, hG, hb7⟩
        have hA7 := Lib.hid (hA5.out.belowU hB hb7)
        have HF := Lib.hid (jobFields_at hG hbB (Hbr.out.below hA7.out.below hbB))
        clear hG hb7
        go_wp2_with fail
        refine Calls.mono (object_any B _ _ _ _ g 0 5 5 (jobFs x) _ hA7.out.own (by omega) (Nat.le_trans hB hA7.out.below.size) rfl (by decide) Hxo.out HF.out (HT.out.on hA7.out.below)) ?_
        rintro e w8 ⟨A8, m8, c8, rfl, ho8, hb8, hk8⟩
        have hA8 := Lib.hid (hA7.out.post ho8 hb8 hk8)
        clear ho8 hb8 hk8
        go_wp2_with fail
        go_roundw
        case rel => exact ⟨A8, m8, c8, k + 1, rfl, by go_num, by omega, by
          have h := hA8.out
          rw [Hst.out, if_pos Hk0.out]
          have e0 : xs.take k = [] := by rw [Hk0.out]; rfl
          rw [e0] at h
          simpa [commaL, List.append_assoc] using h⟩
        case measure => simp [intOf]; omega
      · have Hk0 := Lib.hid hk0
        have d1 : decide ((0 : Int) < (k : Int)) = true := decide_eq_true (by omega)
        have h0k : 0 < k := by omega
        clear hk0
        go_wp2_with (at_builtin; refine push_u8 rfl _ _ rfl B _ _ _ _ rfl hA5.out.own _ 44 rfl rfl (by omega) (Nat.le_trans hB hA5.out.below.size) ?_; intro A6 c6 w6 ho6 hg6; have hA6 := Lib.hid (hA5.out.grew hB ho6 hg6); clear ho6 hg6)
        refine Calls.mono (jobFields_any b (off + k * 5) _) ?_
        rintro e w7 ⟨g, rfl, hg1, hG, hb7⟩
        have hA7 := Lib.hid (hA6.out.belowU hB hb7)
        have HF := Lib.hid (jobFields_at hG hbB (Hbr.out.below hA7.out.below hbB))
        clear hG hb7
        go_wp2_with fail
        refine Calls.mono (object_any B _ _ _ _ g 0 5 5 (jobFs x) _ hA7.out.own (by omega) (Nat.le_trans hB hA7.out.below.size) rfl (by decide) Hxo.out HF.out (HT.out.on hA7.out.below)) ?_
        rintro e w8 ⟨A8, m8, c8, rfl, ho8, hb8, hk8⟩
        have hA8 := Lib.hid (hA7.out.post ho8 hb8 hk8)
        clear ho8 hb8 hk8
        go_wp2_with fail
        go_roundw
        case rel => exact ⟨A8, m8, c8, k + 1, rfl, by go_num, by omega, by
          have h := hA8.out
          rw [Hst.out, if_neg Hk0.out]
          skip
          skip
          simpa [commaL, List.append_assoc] using h⟩
        case measure => simp [intOf]; omega
    · have hkn : k = n := by omega
      have Hall := Lib.hid (show xs.take k = xs from List.take_of_length_le (by have := Hlx.out; omega))
      go_wp2_with (at_builtin; refine push_u8 rfl _ _ rfl B _ _ _ _ rfl hA5.out.own _ 93 rfl rfl (by omega) (Nat.le_trans hB hA5.out.below.size) ?_; intro A6 c6 w6 ho6 hg6; have hA6 := Lib.hid (hA5.out.grew hB ho6 hg6); clear ho6 hg6)
      go_ret
      refine ⟨A6, m5 + 1, c6, rfl, ?_, hA6.out.below, hA6.out.kept⟩
      have h := hA6.out.own
      rw [Hall.out] at h
      simpa [arrL, List.append_assoc] using h
def nodeOk (x : NodeD) : Prop := ∀ f ∈ nodeFs x, f.1.size ≤ 100 ∧ FvOk f.2
set_option maxRecDepth 100000 in
set_option maxHeartbeats 2000000 in
theorem arr_node (B : Nat) (A : Option Addr) (m c : Nat) (l : List UInt8) (name : ByteArray) (xs : List NodeD) (XA : Option Addr) (n xc : Nat) (w : World) (hown : w.ownsRow B 5 1 (.slice A m c) m (bytesV l)) (hm : m ≤ 140737470000000) (hB : B ≤ w.heap.size) (hname : name.size ≤ 100)
    (hx : SlAt w B 3 XA n (rowsV nodeV xs)) (hl : xs.length = n) (hn : n ≤ 40) (hok : ∀ x ∈ xs, nodeOk x) (htab : Lib.TabBelow Tryz.prog B w "internal/strconv.uint64pow10" .u64 Lib.pow10Tab) :
    Calls Tryz.prog 35 #[.slice A m c, .string name, .slice XA n xc, .func (.func 12) #[] #[]] w (JPost B (l ++ arrL name (xs.map fun x => objL (nodeFs x))) w) := by
  have hlm : l.length = m := by have := hown.1; simpa [bytesV] using this
  have hqn : (quoteL name.data.toList).length ≤ 602 := quoteL_len name hname
  have hqp : 0 < (quoteL name.data.toList).length := by unfold quoteL; simp
  have hA0 := Lib.hid (show At2 B w l w A m c from ⟨hown, Below.refl _ _, Lib.OthersKept.refl _ _ _⟩)
  have Hl := Lib.hid hlm
  have HX := Lib.hid hx
  have HT := Lib.hid htab
  have Hok := Lib.hid hok
  have Hlx := Lib.hid hl
  have heg := enters_of Tryz.func12 (by kernel_rfl) rfl
  clear hlm hown hx htab hok hl
  go_enter Tryz.func35, Tryz.ntmps35
  go_wp2_with (at_builtin; refine push_u8 rfl _ _ rfl B _ _ _ _ rfl hA0.out.own _ 44 rfl rfl (by omega) hB ?_; intro A1 c1 w1 ho1 hg1; have hA1 := Lib.hid (hA0.out.grew hB ho1 hg1); clear ho1 hg1)
  refine Calls.mono (quote_any w1.heap.size none 0 0 [] name w1 (own_nilU _ _) (by omega) (Nat.le_refl _)) ?_
  rintro e w2 ⟨A2, m2, c2, rfl, ho2, hg2⟩
  have hb2 : Below w1.heap.size w1 w2 := hg2.below (Nat.le_refl _) (fun k hk => by cases hk)
  have hm2 : (quoteL name.data.toList).length = m2 := by have := ho2.1; simpa [bytesV_length] using this
  obtain ⟨g2, off2, rfl, hg2l, hr2⟩ := (own_slAt ho2).at_ (by omega)
  have hk2 := kept_grew (own_nilU w1 w1.heap.size) hg2
  have hA2 := Lib.hid (show At2 B w (l ++ [44]) w2 A1 (m + 1) c1 from ⟨ownU_below hA1.out.own hb2, hA1.out.below.trans (hb2.mono (Nat.le_trans hB hA1.out.below.size)), hA1.out.kept.trans hk2⟩)
  have Hm2 := Lib.hid hm2
  have hm2l : m2 ≤ 602 := by omega
  have hm2p : 0 < m2 := by omega
  simp only [List.nil_append] at hr2
  have Hr2 := Lib.hid hr2
  clear ho2 hg2 hb2 hm2 hg2l hr2 hk2
  go_wp2_with (first | (at_builtin; refine push_row rfl _ _ rfl B _ _ _ _ rfl hA2.out.own g2 off2 m2 _ _ Hr2.out hm2p Hm2.out rfl (by omega) (Nat.le_trans hB hA2.out.below.size) ?_; intro A3 c3 w3 ho3 hg3; have hA3 := Lib.hid (hA2.out.grew hB ho3 hg3); clear ho3 hg3 Hr2) | (at_builtin; refine push_bytes rfl _ _ rfl B _ _ _ _ rfl hA3.out.own _ 2 (by decide) [58, 91] rfl rfl rfl (by omega) (Nat.le_trans hB hA3.out.below.size) ?_; intro A4 c4 w4 ho4 hg4; have hA4 := Lib.hid (hA3.out.grew hB ho4 hg4); clear ho4 hg4))
  go_loopw [0, 9, 20] (fun v _ i wr => ArrInv (fun x => objL (nodeFs x)) B (l ++ [44] ++ quoteL name.data.toList ++ [58, 91]) xs n w v i wr) (fun _ _ i _ => n - (intOf i).toNat)
  case atStart => exact ⟨A4, m + 1 + m2 + 2, c4, 0, rfl, rfl, Nat.zero_le _, by
    have h := hA4.out
    simpa [commaL] using h⟩
  case round =>
    clear hA1 hA2 hA3 hA4
    obtain ⟨A5, m5, c5, k, rfl, rfl, hk, hA⟩ := hrel
    have hA5 := Lib.hid hA
    have hlen : m5 ≤ 140737470250000 := by
      have e2 := hA.len
      have e3 := commaL_len2 (L := 6060) (n := 40) (l := (xs.take k).map fun x => objL (nodeFs x)) (fun y hy => by
        obtain ⟨x, hx, rfl⟩ := List.mem_map.1 hy
        exact objL_len (by simp [nodeFs]) (Hok.out x (List.mem_of_mem_take hx))) (by rw [List.length_map, List.length_take, Hlx.out]; omega)
      simp only [List.length_append, List.length_cons, List.length_nil] at e2
      have := Hl.out
      omega
    clear hA
    by_cases hlt : k < n
    · obtain ⟨x, hf⟩ : ∃ x, xs[k]? = some x := ⟨_, List.getElem?_eq_getElem (by have := Hlx.out; omega)⟩
      obtain ⟨b, off, hXA, hbB, hbr⟩ := HX.out.rowAt nodeV_len Hlx.out hf
      subst hXA
      have Hst := Lib.hid (commaL_take (fun x => objL (nodeFs x)) hf)
      have Hxo := Lib.hid (Hok.out x (List.mem_of_getElem? hf))
      have Hbr := Lib.hid hbr
      clear hf hbr
      by_cases hk0 : k = 0
      · have Hk0 := Lib.hid hk0
        have d1 : decide ((0 : Int) < (k : Int)) = false := decide_eq_false (by omega)
        have h0k : ¬ 0 < k := by omega
        clear hk0
        go_wp2_with (fail)
        refine Calls.mono (nodeFields_any b (off + k * 3) _) ?_
        rintro e w7 ⟨g, rfl, hg1, hG, hb7⟩
        have hA7 := Lib.hid (hA5.out.belowU hB hb7)
        have HF := Lib.hid (nodeFields_at hG hbB (Hbr.out.below hA7.out.below hbB))
        clear hG hb7
        go_wp2_with fail
        refine Calls.mono (object_any B _ _ _ _ g 0 3 3 (nodeFs x) _ hA7.out.own (by omega) (Nat.le_trans hB hA7.out.below.size) rfl (by decide) Hxo.out HF.out (HT.out.on hA7.out.below)) ?_
        rintro e w8 ⟨A8, m8, c8, rfl, ho8, hb8, hk8⟩
        have hA8 := Lib.hid (hA7.out.post ho8 hb8 hk8)
        clear ho8 hb8 hk8
        go_wp2_with fail
        go_roundw
        case rel => exact ⟨A8, m8, c8, k + 1, rfl, by go_num, by omega, by
          have h := hA8.out
          rw [Hst.out, if_pos Hk0.out]
          have e0 : xs.take k = [] := by rw [Hk0.out]; rfl
          rw [e0] at h
          simpa [commaL, List.append_assoc] using h⟩
        case measure => simp [intOf]; omega
      · have Hk0 := Lib.hid hk0
        have d1 : decide ((0 : Int) < (k : Int)) = true := decide_eq_true (by omega)
        have h0k : 0 < k := by omega
        clear hk0
        go_wp2_with (at_builtin; refine push_u8 rfl _ _ rfl B _ _ _ _ rfl hA5.out.own _ 44 rfl rfl (by omega) (Nat.le_trans hB hA5.out.below.size) ?_; intro A6 c6 w6 ho6 hg6; have hA6 := Lib.hid (hA5.out.grew hB ho6 hg6); clear ho6 hg6)
        refine Calls.mono (nodeFields_any b (off + k * 3) _) ?_
        rintro e w7 ⟨g, rfl, hg1, hG, hb7⟩
        have hA7 := Lib.hid (hA6.out.belowU hB hb7)
        have HF := Lib.hid (nodeFields_at hG hbB (Hbr.out.below hA7.out.below hbB))
        clear hG hb7
        go_wp2_with fail
        refine Calls.mono (object_any B _ _ _ _ g 0 3 3 (nodeFs x) _ hA7.out.own (by omega) (Nat.le_trans hB hA7.out.below.size) rfl (by decide) Hxo.out HF.out (HT.out.on hA7.out.below)) ?_
        rintro e w8 ⟨A8, m8, c8, rfl, ho8, hb8, hk8⟩
        have hA8 := Lib.hid (hA7.out.post ho8 hb8 hk8)
        clear ho8 hb8 hk8
        go_wp2_with fail
        go_roundw
        case rel => exact ⟨A8, m8, c8, k + 1, rfl, by go_num, by omega, by
          have h := hA8.out
          rw [Hst.out, if_neg Hk0.out]
          skip
          skip
          simpa [commaL, List.append_assoc] using h⟩
        case measure => simp [intOf]; omega
    · have hkn : k = n := by omega
      have Hall := Lib.hid (show xs.take k = xs from List.take_of_length_le (by have := Hlx.out; omega))
      go_wp2_with (at_builtin; refine push_u8 rfl _ _ rfl B _ _ _ _ rfl hA5.out.own _ 93 rfl rfl (by omega) (Nat.le_trans hB hA5.out.below.size) ?_; intro A6 c6 w6 ho6 hg6; have hA6 := Lib.hid (hA5.out.grew hB ho6 hg6); clear ho6 hg6)
      go_ret
      refine ⟨A6, m5 + 1, c6, rfl, ?_, hA6.out.below, hA6.out.kept⟩
      have h := hA6.out.own
      rw [Hall.out] at h
      simpa [arrL, List.append_assoc] using h
def leaseOk (x : LeaseD) : Prop := ∀ f ∈ leaseFs x, f.1.size ≤ 100 ∧ FvOk f.2
set_option maxRecDepth 100000 in
set_option maxHeartbeats 2000000 in
theorem arr_lease (B : Nat) (A : Option Addr) (m c : Nat) (l : List UInt8) (name : ByteArray) (xs : List LeaseD) (XA : Option Addr) (n xc : Nat) (w : World) (hown : w.ownsRow B 5 1 (.slice A m c) m (bytesV l)) (hm : m ≤ 140737470000000) (hB : B ≤ w.heap.size) (hname : name.size ≤ 100)
    (hx : SlAt w B 3 XA n (rowsV leaseV xs)) (hl : xs.length = n) (hn : n ≤ 40) (hok : ∀ x ∈ xs, leaseOk x) (htab : Lib.TabBelow Tryz.prog B w "internal/strconv.uint64pow10" .u64 Lib.pow10Tab) :
    Calls Tryz.prog 36 #[.slice A m c, .string name, .slice XA n xc, .func (.func 14) #[] #[]] w (JPost B (l ++ arrL name (xs.map fun x => objL (leaseFs x))) w) := by
  have hlm : l.length = m := by have := hown.1; simpa [bytesV] using this
  have hqn : (quoteL name.data.toList).length ≤ 602 := quoteL_len name hname
  have hqp : 0 < (quoteL name.data.toList).length := by unfold quoteL; simp
  have hA0 := Lib.hid (show At2 B w l w A m c from ⟨hown, Below.refl _ _, Lib.OthersKept.refl _ _ _⟩)
  have Hl := Lib.hid hlm
  have HX := Lib.hid hx
  have HT := Lib.hid htab
  have Hok := Lib.hid hok
  have Hlx := Lib.hid hl
  have heg := enters_of Tryz.func14 (by kernel_rfl) rfl
  clear hlm hown hx htab hok hl
  go_enter Tryz.func36, Tryz.ntmps36
  go_wp2_with (at_builtin; refine push_u8 rfl _ _ rfl B _ _ _ _ rfl hA0.out.own _ 44 rfl rfl (by omega) hB ?_; intro A1 c1 w1 ho1 hg1; have hA1 := Lib.hid (hA0.out.grew hB ho1 hg1); clear ho1 hg1)
  refine Calls.mono (quote_any w1.heap.size none 0 0 [] name w1 (own_nilU _ _) (by omega) (Nat.le_refl _)) ?_
  rintro e w2 ⟨A2, m2, c2, rfl, ho2, hg2⟩
  have hb2 : Below w1.heap.size w1 w2 := hg2.below (Nat.le_refl _) (fun k hk => by cases hk)
  have hm2 : (quoteL name.data.toList).length = m2 := by have := ho2.1; simpa [bytesV_length] using this
  obtain ⟨g2, off2, rfl, hg2l, hr2⟩ := (own_slAt ho2).at_ (by omega)
  have hk2 := kept_grew (own_nilU w1 w1.heap.size) hg2
  have hA2 := Lib.hid (show At2 B w (l ++ [44]) w2 A1 (m + 1) c1 from ⟨ownU_below hA1.out.own hb2, hA1.out.below.trans (hb2.mono (Nat.le_trans hB hA1.out.below.size)), hA1.out.kept.trans hk2⟩)
  have Hm2 := Lib.hid hm2
  have hm2l : m2 ≤ 602 := by omega
  have hm2p : 0 < m2 := by omega
  simp only [List.nil_append] at hr2
  have Hr2 := Lib.hid hr2
  clear ho2 hg2 hb2 hm2 hg2l hr2 hk2
  go_wp2_with (first | (at_builtin; refine push_row rfl _ _ rfl B _ _ _ _ rfl hA2.out.own g2 off2 m2 _ _ Hr2.out hm2p Hm2.out rfl (by omega) (Nat.le_trans hB hA2.out.below.size) ?_; intro A3 c3 w3 ho3 hg3; have hA3 := Lib.hid (hA2.out.grew hB ho3 hg3); clear ho3 hg3 Hr2) | (at_builtin; refine push_bytes rfl _ _ rfl B _ _ _ _ rfl hA3.out.own _ 2 (by decide) [58, 91] rfl rfl rfl (by omega) (Nat.le_trans hB hA3.out.below.size) ?_; intro A4 c4 w4 ho4 hg4; have hA4 := Lib.hid (hA3.out.grew hB ho4 hg4); clear ho4 hg4))
  go_loopw [0, 9, 20] (fun v _ i wr => ArrInv (fun x => objL (leaseFs x)) B (l ++ [44] ++ quoteL name.data.toList ++ [58, 91]) xs n w v i wr) (fun _ _ i _ => n - (intOf i).toNat)
  case atStart => exact ⟨A4, m + 1 + m2 + 2, c4, 0, rfl, rfl, Nat.zero_le _, by
    have h := hA4.out
    simpa [commaL] using h⟩
  case round =>
    clear hA1 hA2 hA3 hA4
    obtain ⟨A5, m5, c5, k, rfl, rfl, hk, hA⟩ := hrel
    have hA5 := Lib.hid hA
    have hlen : m5 ≤ 140737470250000 := by
      have e2 := hA.len
      have e3 := commaL_len2 (L := 6060) (n := 40) (l := (xs.take k).map fun x => objL (leaseFs x)) (fun y hy => by
        obtain ⟨x, hx, rfl⟩ := List.mem_map.1 hy
        exact objL_len (by simp [leaseFs]) (Hok.out x (List.mem_of_mem_take hx))) (by rw [List.length_map, List.length_take, Hlx.out]; omega)
      simp only [List.length_append, List.length_cons, List.length_nil] at e2
      have := Hl.out
      omega
    clear hA
    by_cases hlt : k < n
    · obtain ⟨x, hf⟩ : ∃ x, xs[k]? = some x := ⟨_, List.getElem?_eq_getElem (by have := Hlx.out; omega)⟩
      obtain ⟨b, off, hXA, hbB, hbr⟩ := HX.out.rowAt leaseV_len Hlx.out hf
      subst hXA
      have Hst := Lib.hid (commaL_take (fun x => objL (leaseFs x)) hf)
      have Hxo := Lib.hid (Hok.out x (List.mem_of_getElem? hf))
      have Hbr := Lib.hid hbr
      clear hf hbr
      by_cases hk0 : k = 0
      · have Hk0 := Lib.hid hk0
        have d1 : decide ((0 : Int) < (k : Int)) = false := decide_eq_false (by omega)
        have h0k : ¬ 0 < k := by omega
        clear hk0
        go_wp2_with (fail)
        refine Calls.mono (leaseFields_any b (off + k * 3) _) ?_
        rintro e w7 ⟨g, rfl, hg1, hG, hb7⟩
        have hA7 := Lib.hid (hA5.out.belowU hB hb7)
        have HF := Lib.hid (leaseFields_at hG hbB (Hbr.out.below hA7.out.below hbB))
        clear hG hb7
        go_wp2_with fail
        refine Calls.mono (object_any B _ _ _ _ g 0 3 3 (leaseFs x) _ hA7.out.own (by omega) (Nat.le_trans hB hA7.out.below.size) rfl (by decide) Hxo.out HF.out (HT.out.on hA7.out.below)) ?_
        rintro e w8 ⟨A8, m8, c8, rfl, ho8, hb8, hk8⟩
        have hA8 := Lib.hid (hA7.out.post ho8 hb8 hk8)
        clear ho8 hb8 hk8
        go_wp2_with fail
        go_roundw
        case rel => exact ⟨A8, m8, c8, k + 1, rfl, by go_num, by omega, by
          have h := hA8.out
          rw [Hst.out, if_pos Hk0.out]
          have e0 : xs.take k = [] := by rw [Hk0.out]; rfl
          rw [e0] at h
          simpa [commaL, List.append_assoc] using h⟩
        case measure => simp [intOf]; omega
      · have Hk0 := Lib.hid hk0
        have d1 : decide ((0 : Int) < (k : Int)) = true := decide_eq_true (by omega)
        have h0k : 0 < k := by omega
        clear hk0
        go_wp2_with (at_builtin; refine push_u8 rfl _ _ rfl B _ _ _ _ rfl hA5.out.own _ 44 rfl rfl (by omega) (Nat.le_trans hB hA5.out.below.size) ?_; intro A6 c6 w6 ho6 hg6; have hA6 := Lib.hid (hA5.out.grew hB ho6 hg6); clear ho6 hg6)
        refine Calls.mono (leaseFields_any b (off + k * 3) _) ?_
        rintro e w7 ⟨g, rfl, hg1, hG, hb7⟩
        have hA7 := Lib.hid (hA6.out.belowU hB hb7)
        have HF := Lib.hid (leaseFields_at hG hbB (Hbr.out.below hA7.out.below hbB))
        clear hG hb7
        go_wp2_with fail
        refine Calls.mono (object_any B _ _ _ _ g 0 3 3 (leaseFs x) _ hA7.out.own (by omega) (Nat.le_trans hB hA7.out.below.size) rfl (by decide) Hxo.out HF.out (HT.out.on hA7.out.below)) ?_
        rintro e w8 ⟨A8, m8, c8, rfl, ho8, hb8, hk8⟩
        have hA8 := Lib.hid (hA7.out.post ho8 hb8 hk8)
        clear ho8 hb8 hk8
        go_wp2_with fail
        go_roundw
        case rel => exact ⟨A8, m8, c8, k + 1, rfl, by go_num, by omega, by
          have h := hA8.out
          rw [Hst.out, if_neg Hk0.out]
          skip
          skip
          simpa [commaL, List.append_assoc] using h⟩
        case measure => simp [intOf]; omega
    · have hkn : k = n := by omega
      have Hall := Lib.hid (show xs.take k = xs from List.take_of_length_le (by have := Hlx.out; omega))
      go_wp2_with (at_builtin; refine push_u8 rfl _ _ rfl B _ _ _ _ rfl hA5.out.own _ 93 rfl rfl (by omega) (Nat.le_trans hB hA5.out.below.size) ?_; intro A6 c6 w6 ho6 hg6; have hA6 := Lib.hid (hA5.out.grew hB ho6 hg6); clear ho6 hg6)
      go_ret
      refine ⟨A6, m5 + 1, c6, rfl, ?_, hA6.out.below, hA6.out.kept⟩
      have h := hA6.out.own
      rw [Hall.out] at h
      simpa [arrL, List.append_assoc] using h
end Go.Proofs.YtcodhhabfacnjaaGreatDoor
