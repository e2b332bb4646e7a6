/- The walks of a Writer: numbers and texts. -/
import Derived.Test.YtonipllegfgdiaaBase
import Derived.Test.YtonipllegfgdiaaPut
import Derived.Test.YtonipllegfgdiaaText
import Derived.Test.YtonipllegfgdiaaRTab
import Derived.Deep.RegionWith
import Derived.Lib.AppendStr
set_option linter.unusedVariables false
set_option linter.unusedSimpArgs false
namespace Go.Proofs.Ytonipllegfgdiaa
open Go.RowKit
/-- Of what was there, the writer's block and rows of bytes from base on may have turned. -/
structure WKeep (base g : Nat) (w w' : World) : Prop where
  os : w'.os = w.os
  tape : w'.tape = w.tape
  output : w'.output = w.output
  size : w.heap.size ≤ w'.heap.size
  block : ∀ k, k < w.heap.size → k ≠ g → (k < base ∨ ∀ cs fz, w.heap[k]? ≠ some (.cells cs 5 fz)) → w'.heap[k]? = w.heap[k]?
section
variable {base g : Nat} {w w' w'' : World}
theorem WKeep.refl (w : World) : WKeep base g w w := ⟨rfl, rfl, rfl, Nat.le_refl _, fun _ _ _ _ => rfl⟩
theorem WKeep.trans (h : WKeep base g w w') (h' : WKeep base g w' w'') : WKeep base g w w'' :=
  ⟨h'.os.trans h.os, h'.tape.trans h.tape, h'.output.trans h.output, Nat.le_trans h.size h'.size, fun k hk hne hc => by
    have e := h.block k hk hne hc
    refine (h'.block k (Nat.lt_of_lt_of_le hk h.size) hne ?_).trans e
    rcases hc with hc | hc
    · exact .inl hc
    · exact .inr (fun cs fz he => hc cs fz (e.symm.trans he))⟩
theorem WKeep.drew (w : World) : WKeep base g w w.drew := ⟨rfl, rfl, rfl, Nat.le_refl _, fun _ _ _ _ => rfl⟩
theorem WKeep.of_below (hb : Below w.heap.size w w') : WKeep base g w w' := ⟨hb.os, hb.tape, hb.output, hb.size, fun k hk _ _ => hb.block k hk⟩
theorem WKeep.below (h : WKeep base g w w') (hB : base ≤ g) (hs : base ≤ w.heap.size) : Below base w w' :=
  ⟨h.os, h.tape, h.output, h.size, fun k hk => h.block k (Nat.lt_of_lt_of_le hk hs) (by omega) (.inl hk)⟩
theorem WKeep.blk {k : Nat} {t : TypeId} {cs : Array Value} (h : WKeep base g w w') (hk : Blk w k t cs) (ht : t ≠ 5) (hne : k ≠ g) : Blk w' k t cs :=
  (h.block k hk.lt hne (.inr (fun cs' fz he => by
    unfold Blk at hk
    rw [hk] at he
    simp only [Option.some.injEq, Obj.cells.injEq] at he
    exact ht he.2.1))).trans hk
theorem own_block {v : Value} {n : Nat} {xs : List Value} (ho : w.ownsRow base 5 1 v n xs) {k : Nat} (hk : v.ownBlock = some k) : base ≤ k ∧ ∃ cs, w.heap[k]? = some (.cells cs 5 (0, 0)) := by
  rcases ho.2 with ⟨rfl, _⟩ | ⟨q, cap, cur, rfl, hb, hg, _⟩
  · simp [Value.ownBlock] at hk
  · simp [Value.ownBlock] at hk
    subst hk
    exact ⟨hb, _, hg⟩
theorem WKeep.of_grown {v : Value} {n : Nat} {xs : List Value} (ho : w.ownsRow base 5 1 v n xs) (hg : w.grownBy w' v.ownBlock) : WKeep base g w w' :=
  ⟨hg.os, hg.tape, hg.output, hg.size, fun k hk _ hc => hg.block k hk (fun e => by
    obtain ⟨h1, cs, h2⟩ := own_block ho e.symm
    rcases hc with hc | hc
    · omega
    · exact hc _ _ h2)⟩
theorem WKeep.set (w : World) (i : Nat) (u : Value) : WKeep base g w (w.setCell ⟨g, i, none⟩ u) :=
  ⟨rfl, rfl, rfl, by simp [World.setCell], fun k _ hne _ => Below.heap_setCell w ⟨g, i, none⟩ u k hne⟩
end
/-- The writer at block g has written l. -/
def WrAt (w : World) (base g : Nat) (l : List UInt8) : Prop := base ≤ g ∧ ∃ A m c, Blk w g 57 #[.slice A m c] ∧ w.ownsRow base 5 1 (.slice A m c) m (bytesV l)
theorem own_shape {w : World} {base : Nat} {v : Value} {n : Nat} {xs : List Value} (ho : w.ownsRow base 5 1 v n xs) : ∃ A c, v = .slice A n c := by
  rcases ho.2 with ⟨rfl, h⟩ | ⟨q, cap, cur, rfl, _⟩
  · subst h; exact ⟨_, _, rfl⟩
  · exact ⟨_, _, rfl⟩
theorem own_below {w w' : World} {base : Nat} {v : Value} {n : Nat} {xs : List Value} (ho : w.ownsRow base 5 1 v n xs) (hb : Below w.heap.size w w') : w'.ownsRow base 5 1 v n xs := by
  rcases ho with ⟨h1, h | ⟨q, cap, cur, hv, hq, hg, r⟩⟩
  · exact ⟨h1, .inl h⟩
  · have hlt : q < w.heap.size := (Array.getElem?_eq_some_iff.1 hg).1
    exact ⟨h1, .inr ⟨q, cap, cur, hv, hq, (hb.block q hlt).trans hg, r⟩⟩
theorem WrAt.below {w w' : World} {base g : Nat} {l : List UInt8} (h : WrAt w base g l) (hb : Below w.heap.size w w') : WrAt w' base g l := by
  obtain ⟨h1, A, m, c, h2, h3⟩ := h
  exact ⟨h1, A, m, c, h2.below hb h2.lt, own_below h3 hb⟩
theorem WrAt.lt {w : World} {base g : Nat} {l : List UInt8} (h : WrAt w base g l) : g < w.heap.size := by
  obtain ⟨_, A, m, c, h2, _⟩ := h
  exact h2.lt
theorem bytes_len {w : World} {base : Nat} {A : Option Addr} {m c : Nat} {l : List UInt8} (h : w.ownsRow base 5 1 (.slice A m c) m (bytesV l)) : l.length = m := by
  have := h.1
  rw [bytesV_length, Nat.mul_one] at this
  exact this
def WPost (base g : Nat) (l : List UInt8) (w : World) (e : Ending) (w' : World) : Prop := e = .returned (.tuple #[]) ∧ WrAt w' base g l ∧ WKeep base g w w'
theorem own_set {w : World} {base : Nat} {v : Value} {n : Nat} {xs : List Value} {a : Addr} (ho : w.ownsRow base 5 1 v n xs) (ha : v.ownBlock ≠ some a.block) (u : Value) : (w.setCell a u).ownsRow base 5 1 v n xs := by
  rcases ho with ⟨h1, h | ⟨q, cap, cur, hv, hq, hg, r⟩⟩
  · exact ⟨h1, .inl h⟩
  · refine ⟨h1, .inr ⟨q, cap, cur, hv, hq, ?_, r⟩⟩
    rw [Below.heap_setCell w a u q (fun e => ha (by rw [hv]; simp [Value.ownBlock, e]))]
    exact hg
/-- The new row put into the writer's block. -/
theorem WrAt.put {w w1 : World} {base g : Nat} {A A' : Option Addr} {m c m' c' : Nat} {l l' : List UInt8} (hbg : base ≤ g) (hB : Blk w g 57 #[.slice A m c]) (ho : w.ownsRow base 5 1 (.slice A m c) m (bytesV l))
    (ho' : w1.ownsRow base 5 1 (.slice A' m' c') m' (bytesV l')) (hg : w.grownBy w1 (Value.slice A m c).ownBlock) :
    Blk w1 g 57 #[.slice A m c] ∧ WrAt (w1.setCell ⟨g, 0, none⟩ (.slice A' m' c')) base g l' ∧ WKeep base g w (w1.setCell ⟨g, 0, none⟩ (.slice A' m' c')) := by
  have hne : some g ≠ (Value.slice A m c).ownBlock := fun e => by
    obtain ⟨_, cs, h2⟩ := own_block ho e.symm
    unfold Blk at hB
    rw [hB] at h2
    simp only [Option.some.injEq, Obj.cells.injEq] at h2
    exact absurd h2.2.1 (by decide)
  have hB1 : Blk w1 g 57 #[.slice A m c] := (hg.block g hB.lt hne).trans hB
  refine ⟨hB1, ⟨hbg, A', m', c', Blk.eq (hB1.set 0 _) (by simp), own_set ho' (fun e => ?_) _⟩, (WKeep.of_grown ho hg).trans (WKeep.set w1 0 _)⟩
  obtain ⟨_, cs, h2⟩ := own_block ho' e
  unfold Blk at hB1
  rw [hB1] at h2
  simp only [Option.some.injEq, Obj.cells.injEq] at h2
  exact absurd h2.2.1 (by decide)
/-- A string appended to a row of the call's own, as a step of a region that draws its order. -/
theorem step_str {w : World} {o : Oper} {a : Act} {ops : Array Oper} {Q : Exit → Act → World → Prop} {K : Act → World → Prop} {E : Prop} (hgd : o.guard = none) (s x : Operand) (ho : o.op = .call { callee := .builtin .append, args := #[s, x], argTypes := #[55, 9] })
    (base : Nat) (A : Option Addr) (m c : Nat) (l : List UInt8) (hs : a.eval s = .slice A m c) (hown : w.ownsRow base 5 1 (.slice A m c) m (bytesV l)) (t : ByteArray) (hx : a.eval x = .string t) (hm : m + t.size ≤ 140737488355328) (hbase : base ≤ w.heap.size)
    (h : ∀ A' c' w', w'.ownsRow base 5 1 (.slice A' (m + t.size) c') (m + t.size) (bytesV (l ++ t.data.toList)) → w.grownBy w' (Value.slice A m c).ownBlock → K (a.put o.dst (.slice A' (m + t.size) c')) w') :
    if Region.wanted o (yielded ops a.tmps) = true then Oper.wp Try.prog o a w K Q else E := by
  have hw : Region.wanted o (yielded ops a.tmps) = true := by simp [Region.wanted, hgd]
  rw [if_pos hw]
  obtain ⟨i0, hi, hz0, hz1, hz2⟩ := info_parts Try.infoU8
  obtain ⟨v', w1, hr, ho', hg', -⟩ := Lib.run_append_own_string (P := Try.prog) w base 55 9 o.type 5 i0 Try.underlying55 Try.underlying9 hi hz0 hz1 hz2 _ m _ hown t (by unfold maxLen; omega) (by omega) hbase
  obtain ⟨A', c', rfl⟩ := own_shape ho'
  have e1 : bytesV l ++ Lib.strCells t = bytesV (l ++ t.data.toList) := by rw [bytesV_append]; rfl
  rw [e1] at ho'
  unfold Oper.wp execOp
  simp only [ho, resolve, invoke, builtin, Sem.run_bind, Sem.run_pure, Result.andThen_ok, List.map_toArray, List.map_cons, List.map_nil, hs, hx, hr]
  exact h _ _ _ ho' hg'
set_option maxRecDepth 100000 in
set_option maxHeartbeats 1000000 in
theorem wnum_any (base g : Nat) (l : List UInt8) (n : Int) (w : World) (h0 : 0 ≤ n) (h1 : n ≤ 9223372036854775807) (h : WrAt w base g l) (hl : l.length ≤ 100000000) :
    Calls Try.prog 25 #[.pointer (some ⟨g, 0, none⟩), .int .i64 n] w (WPost base g (l ++ numL n.toNat) w) := by
  obtain ⟨hbg, A, m, c, hB, ho⟩ := h
  have hm := bytes_len ho
  have y0 : w.cell? ⟨g, 0, none⟩ = some (.slice A m c) := hB.cell 0
  have hgl := hB.lt
  have hcon := Lib.hid (put_any base A m c l n w h0 (by omega) ho (by omega) (by omega))
  have HB := Lib.hid hB
  have HO := Lib.hid ho
  clear hB ho hm
  go_enter Try.func25, Try.ntmps25
  go_wp2_with fail
  refine Calls.mono hcon.out ?_
  rintro e w1 ⟨A', m', c', rfl, ho', hg'⟩
  obtain ⟨hB1, hfin, hkeep⟩ := WrAt.put hbg HB.out HO.out ho' hg'.grown
  have z0 : w1.cell? ⟨g, 0, none⟩ = some (.slice A m c) := hB1.cell 0
  have zt : w1.frozen? ⟨g, 0, none⟩ = false := hB1.thaw 0
  have Hend := Lib.hid (And.intro hfin hkeep)
  clear hcon ho' hg' hfin hkeep hB1 y0
  go_wp2
  go_end0
  exact ⟨rfl, Hend.out.1, Hend.out.2⟩
set_option maxRecDepth 100000 in
set_option maxHeartbeats 1000000 in
theorem wtext_any (base g : Nat) (l : List UInt8) (s : ByteArray) (w : World) (hs : s.size ≤ 9223372036854775807) (hT : Tabs w) (h : WrAt w base g l) (hl : l.length ≤ 100000000) (hbw : base ≤ w.heap.size) :
    Calls Try.prog 82 #[.pointer (some ⟨g, 0, none⟩), .string s] w (WPost base g (l ++ (txtF s).1.data.toList) w) := by
  have hcon := Lib.hid (text_any s w hs hT)
  have H := Lib.hid h
  clear h hT
  go_enter Try.func82, Try.ntmps82
  go_wp2_with fail
  refine Calls.mono hcon.out ?_
  rintro e w0 ⟨rfl, hb0⟩
  obtain ⟨hbg, A, m, c, hB, ho⟩ := H.out.below hb0
  have hts : (txtF s).1.size ≤ 17 := by
    unfold txtF
    split
    · show (0:Nat) ≤ 17; omega
    · split
      · rw [ByteArray.size_append]; show 1 + s.size ≤ 17; omega
      · show (0:Nat) ≤ 17; omega
  generalize htt : (txtF s).1 = t at hts ⊢
  have Htt := Lib.hid htt
  clear htt
  generalize (txtF s).2 = E
  have hm := bytes_len ho
  have y0 : w0.cell? ⟨g, 0, none⟩ = some (.slice A m c) := hB.cell 0
  have hgl := hB.lt
  have HB := Lib.hid hB
  have HO := Lib.hid ho
  have hb0s := hb0.size
  have Hb0 := Lib.hid hb0
  have hmm : m ≤ 100000000 := by omega
  clear hcon hB ho hb0
  have hbw0 : base ≤ w0.heap.size := by omega
  obtain ⟨i0, hi, hz0, hz1, hz2⟩ := info_parts Try.infoU8
  have e1 : bytesV l ++ Lib.strCells t = bytesV (l ++ t.data.toList) := by rw [bytesV_append]; rfl
  go_wp2_with (at_builtin; refine Lib.wpList_append_own_string _ rfl _ _ _ _ rfl base 5 i0 Try.underlying55 Try.underlying9 hi hz0 hz1 hz2 _ m _ rfl HO.out t rfl (by unfold maxLen; omega) (by omega) hbw0 ?_; intro v' w1 ho' hg' _; obtain ⟨A', c', rfl⟩ := own_shape ho'; rw [e1] at ho'; have hput := WrAt.put hbg HB.out HO.out ho' hg'; have z0 : w1.cell? ⟨g, 0, none⟩ = some (.slice A m c) := hput.1.cell 0; have zt : w1.frozen? ⟨g, 0, none⟩ = false := hput.1.thaw 0)
  all_goals (go_end0; exact ⟨rfl, by rw [Htt.out]; exact hput.2.1, (WKeep.of_below Hb0.out).trans hput.2.2⟩)
set_option maxRecDepth 100000 in
set_option maxHeartbeats 1000000 in
theorem wsigned_any (base g : Nat) (l : List UInt8) (n : Int) (w : World) (h0 : -9223372036854775808 ≤ n) (h1 : n ≤ 9223372036854775807) (h : WrAt w base g l) (hl : l.length ≤ 100000000) (hbw : base ≤ w.heap.size) :
    Calls Try.prog 83 #[.pointer (some ⟨g, 0, none⟩), .int .i64 n] w (WPost base g (l ++ numL (zigZ n).toNat) w) := by
  obtain ⟨hbg, A, m, c, hB, ho⟩ := h
  have hm := bytes_len ho
  have y0 : w.cell? ⟨g, 0, none⟩ = some (.slice A m c) := hB.cell 0
  have hgl := hB.lt
  have hz0 : 0 ≤ zigZ n ∧ zigZ n < 18446744073709551616 := by unfold zigZ; split <;> omega
  generalize hzz : zigZ n = z at hz0 ⊢
  have hZ : ∀ W, Calls Try.prog 88 #[.int .i64 n] W fun e w' => e = .returned (.int .u64 z) ∧ W = w' := fun W => by rw [← hzz]; exact zig_any n h0 h1 W
  have hcon := Lib.hid (put_any base A m c l z w.drew hz0.1 hz0.2 ho (by omega) hbw)
  have HZ := Lib.hid hZ
  have HB := Lib.hid hB
  have HO := Lib.hid ho
  clear hB ho hm hZ hzz
  go_enter Try.func83, Try.ntmps83
  go_wp2_with fail
  go_region_with (first
    | (go_at_call 88; refine (HZ.out _).mono ?_; rintro e w' ⟨rfl, rfl⟩)
    | (go_at_call 43; refine (hcon.out).mono ?_; rintro e w1 ⟨A', m', c', rfl, ho', hg'⟩; have hput := WrAt.put (w := w.drew) hbg HB.out HO.out ho' hg'.grown; have z0 : w1.cell? ⟨g, 0, none⟩ = some (.slice A m c) := hput.1.cell 0; have zt : w1.frozen? ⟨g, 0, none⟩ = false := hput.1.thaw 0))
  all_goals (go_end0; exact ⟨rfl, hput.2.1, (WKeep.drew w).trans hput.2.2⟩)
end Go.Proofs.Ytonipllegfgdiaa
