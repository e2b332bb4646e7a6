/- Of the proof of a statement: CopyK. -/
import Derived.Laws.CopyRow
import Derived.Laws.IdiomCopy
import Derived.Lib.AppendZerosOnto
import Derived.Lib.SliceRun
import Derived.Deep.RegionLaw
import Derived.Test.YtjgnnobccecpeaaGreatDoorPPk
set_option linter.unusedVariables false
set_option linter.unusedSimpArgs false
set_option maxRecDepth 100000
set_option maxHeartbeats 8000000
/- copy, clear and append of make over rows of the call's own, whose elements hold several cells each. -/
namespace Go.Proofs.YtjgnnobccecpeaaGreatDoor
open Go.Lib (hid)
open Go.RowKit
section
variable {P : Program}
theorem run_copy_rowK (w : World) (dT sT ty elem : TypeId) (sz : Nat) (g o dLen dCap : Nat) (a : Addr) (sLen sCap : Nat) (cur : Array Value) (t : TypeId) (cs : List Value)
 (hu : P.underlying dT = some (.slice elem)) (hs : (P.info? elem).map (·.size) = some sz)
 (hg : w.heap[g]? = some (.cells cur t (0, 0))) (hn : cs.length = Nat.min sLen dLen * sz)
 (hsrc : ∀ j v, cs[j]? = some v → w.cell? (a.add j) = some v) (hfit : o + cs.length ≤ cur.size) (h1 : ∀ v ∈ cs, v.oneCell' = true) :
 (Builtin.copy_ #[dT, sT] ty #[.slice (some ⟨g, o, none⟩) dLen dCap, .slice (some a) sLen sCap]).run P w =
  .ok (.int .i64 (Nat.min sLen dLen : Nat)) (w.setRow g (cur.toList.take o ++ cs ++ cur.toList.drop (o + cs.length)).toArray) := by
 have hl := run_loadCells_list (P := P) w a cs hsrc
 have hst := run_storeCells_at P g o t cs 0 cur w hg (by simpa using hfit) h1
 cases hq : P.info? elem with
 | none => simp [hq] at hs
 | some i =>
  have hi : i.size = sz := by simpa [hq] using hs
  simp [Builtin.copy_, run_underlying hu, Builtin.lenOf, Builtin.firstCells, sizeOf, typeInfo, hq, hi, ← hn, hl, hst]
  rfl
theorem run_append_rowK (w : World) (t ty e : TypeId) (sz : Nat) (ht : P.underlying t = some (.slice e)) (hs : (P.info? e).map (·.size) = some sz) (g n cap : Nat) (a : Addr) (m c : Nat) (cur : Array Value) (te : TypeId) (cs : List Value)
 (hg : w.heap[g]? = some (.cells cur te (0, 0))) (hl : cs.length = m * sz) (hsrc : ∀ j v, cs[j]? = some v → w.cell? (a.add j) = some v) (hroom : n + m ≤ cap) (hfit : n * sz + cs.length ≤ cur.size) (h1 : ∀ v ∈ cs, v.oneCell' = true) :
 (Builtin.append_ #[t, t] ty #[.slice (some ⟨g, 0, none⟩) n cap, .slice (some a) m c]).run P w = .ok (.slice (some ⟨g, 0, none⟩) (n + m) cap) (w.setRow g (cur.toList.take (n * sz) ++ cs ++ cur.toList.drop (n * sz + cs.length)).toArray) := by
 have hst := run_storeCells_at P g (n * sz) te cs 0 cur w hg (by simpa using hfit) h1
 cases hq : P.info? e with
 | none => simp [hq] at hs
 | some i =>
  have hi : i.size = sz := by simpa [hq] using hs
  subst hi
  have hf := run_firstCells_some (P := P) w i.size m a m c cs hl hsrc
  have ea : (⟨g, 0, none⟩ : Addr).add (n * i.size) = ⟨g, n * i.size, none⟩ := by unfold Addr.add; split <;> simp_all
  simp [Builtin.append_, run_underlying ht, sizeOf, typeInfo, hq, Builtin.lenOf, hroom, hf, ea, hst]
theorem zeroCells_list (z : Array Value) (n : Nat) : (Builtin.zeroCells z n).toList.length = n * z.size := by simp [Builtin.zeroCells]
theorem zeroCells_one (z : Array Value) (n : Nat) (h : ∀ u ∈ z.toList, u.oneCell' = true) : ∀ u ∈ (Builtin.zeroCells z n).toList, u.oneCell' = true := by
 intro u hu
 unfold Builtin.zeroCells at hu
 rw [Array.toList_map] at hu
 obtain ⟨i, hi, rfl⟩ := List.mem_map.1 hu
 have hi' : i < n * z.size := by simpa using hi
 have hz : 0 < z.size := by
  rcases Nat.eq_zero_or_pos z.size with h0 | h0
  · rw [h0, Nat.mul_zero] at hi'; omega
  · exact h0
 rw [getElem!_pos z (i % z.size) (Nat.mod_lt _ hz)]
 exact h _ (Array.getElem_mem_toList _)
theorem run_clear_rowK (w : World) (t e ty : TypeId) (z : Value) (g o n c : Nat) (ht : P.underlying t = some (.slice e)) (hv : ∀ w, (zeroValue e).run P w = .ok z w) (h1 : ∀ u ∈ (Builtin.zeroCells z.cells n).toList, u.oneCell' = true) (hn : 0 < n) (cur : Array Value) (te : TypeId)
 (hg : w.heap[g]? = some (.cells cur te (0, 0))) (hfit : o + n * z.cells.size ≤ cur.size) :
 (Builtin.clear_ #[t] ty #[.slice (some ⟨g, o, none⟩) n c]).run P w = .ok (.tuple #[]) (w.setRow g (cur.toList.take o ++ (Builtin.zeroCells z.cells n).toList ++ cur.toList.drop (o + (Builtin.zeroCells z.cells n).toList.length)).toArray) := by
 have hst := run_storeCells_at P g o te (Builtin.zeroCells z.cells n).toList 0 cur w hg (by rw [zeroCells_list]; simpa using hfit) h1
 obtain ⟨m, rfl⟩ : ∃ m, n = m + 1 := ⟨n - 1, by omega⟩
 simp only [Nat.add_zero] at hst
 simp [Builtin.clear_, run_underlying ht, hv, hst]
end
structure OwnR (w : World) (base : Nat) (e : TypeId) (sz g cap : Nat) (cur : Array Value) : Prop where
 ge : base ≤ g
 blk : w.heap[g]? = some (.cells cur e (0, 0))
 cap_ : cap ≤ maxLen
 size : cur.size = cap * sz
theorem OwnR.of {w : World} {base n g cap sz : Nat} {e : TypeId} {xs : List Value} (h : w.ownsRow base e sz (.slice (some ⟨g, 0, none⟩) n cap) n xs) : ∃ cur, OwnR w base e sz g cap cur ∧ n ≤ cap ∧ cur.toList.take (n * sz) = xs := by
 rcases h.2 with ⟨h1, _⟩ | ⟨g', cap', cur, hv, h1, h2, h3, h4, h5, h6⟩
 · cases h1
 · injection hv with a b c
   injection a with a
   injection a with a
   subst a; subst c
   exact ⟨cur, ⟨h1, h2, h4, h5⟩, h3, h6⟩
theorem OwnR.own {w : World} {base g cap sz : Nat} {e : TypeId} {cur : Array Value} (h : OwnR w base e sz g cap cur) {n : Nat} (hn : n ≤ cap) {xs : List Value} (hx : cur.toList.take (n * sz) = xs) : w.ownsRow base e sz (.slice (some ⟨g, 0, none⟩) n cap) n xs := by
 subst hx
 refine ⟨?_, .inr ⟨g, cap, cur, rfl, h.ge, h.blk, hn, h.cap_, h.size, rfl⟩⟩
 rw [List.length_take, Array.length_toList, h.size]
 have := Nat.mul_le_mul_right sz hn
 omega
theorem OwnR.set {w : World} {base g cap sz : Nat} {e : TypeId} {cur : Array Value} (h : OwnR w base e sz g cap cur) (cur' : Array Value) (hs : cur'.size = cap * sz) : OwnR (w.setRow g cur') base e sz g cap cur' :=
 ⟨h.ge, setRow_heap w g cur cur' e _ h.blk, h.cap_, hs⟩
theorem setRow_grown (w : World) (g : Nat) (cur : Array Value) : w.grownBy (w.setRow g cur) (some g) := ⟨rfl, rfl, rfl, by simp [World.setRow], fun k _ hk => setRow_other w g k cur (fun e => hk (by simp [e]))⟩
theorem setRow_grew (w : World) (g n n' c c' : Nat) (cur : Array Value) : Grew w (w.setRow g cur) (.slice (some ⟨g, 0, none⟩) n c) (.slice (some ⟨g, 0, none⟩) n' c') :=
 ⟨setRow_grown w g cur, .inl rfl⟩
theorem setRow_grewD (w : World) (g n n' c c' : Nat) (cur : Array Value) : Grew w (w.drew.setRow g cur) (.slice (some ⟨g, 0, none⟩) n c) (.slice (some ⟨g, 0, none⟩) n' c') :=
 ⟨⟨rfl, rfl, rfl, by simp [World.setRow], fun k _ hk => setRow_other w.drew g k cur (fun e => hk (by simp [Value.ownBlock, e]))⟩, .inl rfl⟩
theorem OwnR.cells {w : World} {base g cap sz : Nat} {e : TypeId} {cur : Array Value} (h : OwnR w base e sz g cap cur) (o : Nat) : ∀ j v, (cur.toList.drop o)[j]? = some v → w.cell? ((⟨g, o, none⟩ : Addr).add j) = some v := fun j v hv => by
 have ea : (⟨g, o, none⟩ : Addr).add j = ⟨g, o + j, none⟩ := by unfold Addr.add; split <;> simp_all
 rw [ea, cell_of_row w g (o + j) cur e (0, 0) h.blk]
 rw [List.getElem?_drop, Array.getElem?_toList] at hv
 exact hv
theorem wp_copy_runK {P : Program} (w : World) {o : Oper} {a : Act} {K : Act → World → Prop} {Q : Exit → Act → World → Prop} (d s : Operand) (t t' : TypeId)
 (ho : o.op = .call { callee := .builtin .copy, args := #[d, s], argTypes := #[t, t'] }) (v u : Value) (hd : a.eval d = v) (hs : a.eval s = u) {v' : Value} {w' : World}
 (hr : (Builtin.copy_ #[t, t'] o.type #[v, u]).run P w = .ok v' w') (h : K (a.put o.dst v') w') : o.wp P a w K Q := by
 unfold Oper.wp execOp
 simp only [ho, resolve, invoke, builtin, Sem.run_bind, Sem.run_pure, Result.andThen_ok, List.map_toArray, List.map_cons, List.map_nil, hd, hs, hr]
 exact h
theorem wpList_copy_runK {P : Program} (w : World) {ops : Array Oper} {rest : List Oper} {o : Oper} {a : Act} {Q : Exit → Act → World → Prop} (hgd : o.guard = none) (d s : Operand) (t t' : TypeId)
 (ho : o.op = .call { callee := .builtin .copy, args := #[d, s], argTypes := #[t, t'] }) (v u : Value) (hd : a.eval d = v) (hs : a.eval s = u) {v' : Value} {w' : World}
 (hr : (Builtin.copy_ #[t, t'] o.type #[v, u]).run P w = .ok v' w') (h : wpList P ops Q rest (a.put o.dst v') w') : wpList P ops Q (o :: rest) a w :=
 wpList_plain hgd fun _ hK => wp_copy_runK w d s t t' ho v u hd hs hr (hK _ _ h)
theorem step_copy_runK {P : Program} {ops : Array Oper} {o : Oper} {a : Act} {w : World} {K : Act → World → Prop} {Q : Exit → Act → World → Prop} {E : Prop}
 (hg : o.guard = none) (d x : Operand) (dT sT : TypeId) (hop : o.op = Op.call { callee := Callee.builtin Builtin.copy, args := #[d, x], argTypes := #[dT, sT] })
 (v u : Value) (hd : a.eval d = v) (hx : a.eval x = u) {v' : Value} {w' : World} (hr : (Builtin.copy_ #[dT, sT] o.type #[v, u]).run P w = .ok v' w') (hK : K (a.put o.dst v') w') :
 if Region.wanted o (yielded ops a.tmps) = true then Oper.wp P o a w K Q else E := by
 have hw : Region.wanted o (yielded ops a.tmps) = true := by simp [Region.wanted, hg]
 rw [if_pos hw]
 exact wp_copy_runK w d x dT sT hop v u hd hx hr hK
theorem step_append_runK {P : Program} {ops : Array Oper} {o : Oper} {a : Act} {w : World} {K : Act → World → Prop} {Q : Exit → Act → World → Prop} {E : Prop}
 (hg : o.guard = none) (d x : Operand) (dT sT : TypeId) (hop : o.op = Op.call { callee := Callee.builtin Builtin.append, args := #[d, x], argTypes := #[dT, sT] })
 (v u : Value) (hd : a.eval d = v) (hx : a.eval x = u) {v' : Value} {w' : World} (hr : (Builtin.append_ #[dT, sT] o.type #[v, u]).run P w = .ok v' w') (hK : K (a.put o.dst v') w') :
 if Region.wanted o (yielded ops a.tmps) = true then Oper.wp P o a w K Q else E := by
 have hw : Region.wanted o (yielded ops a.tmps) = true := by simp [Region.wanted, hg]
 rw [if_pos hw]
 unfold Oper.wp execOp
 simp only [hop, resolve, invoke, builtin, Sem.run_bind, Sem.run_pure, Result.andThen_ok, List.map_toArray, List.map_cons, List.map_nil, hd, hx, hr]
 exact hK
theorem wpList_clear_runK {P : Program} (w : World) {ops : Array Oper} {rest : List Oper} {o : Oper} {a : Act} {Q : Exit → Act → World → Prop} (hgd : o.guard = none) (s : Operand) (t : TypeId)
 (ho : o.op = .call { callee := .builtin .clear, args := #[s], argTypes := #[t] }) (v : Value) (hs : a.eval s = v) {v' : Value} {w' : World}
 (hr : (Builtin.clear_ #[t] o.type #[v]).run P w = .ok v' w') (h : wpList P ops Q rest (a.put o.dst v') w') : wpList P ops Q (o :: rest) a w := by
 refine wpList_plain hgd fun _ hK => ?_
 unfold Oper.wp execOp
 simp only [ho, resolve, invoke, builtin, Sem.run_bind, Sem.run_pure, Result.andThen_ok, List.map_toArray, List.map_cons, List.map_nil, hs, hr]
 exact hK _ _ h
theorem rowsV_take {α : Type} {enc : α → List Value} {sz : Nat} (h : ∀ a, (enc a).length = sz) : ∀ (l : List α) (k : Nat), (rowsV enc l).take (k * sz) = rowsV enc (l.take k)
 | [], k => by simp [rowsV]
 | a :: l, 0 => by simp [rowsV]
 | a :: l, k + 1 => by
  show (enc a ++ rowsV enc l).take ((k + 1) * sz) = enc a ++ rowsV enc (l.take k)
  rw [List.take_append, h, show (k + 1) * sz - sz = k * sz by rw [Nat.add_mul]; omega, rowsV_take h l k, List.take_of_length_le (by rw [h, Nat.add_mul]; omega)]
theorem rowsV_drop {α : Type} {enc : α → List Value} {sz : Nat} (h : ∀ a, (enc a).length = sz) : ∀ (l : List α) (k : Nat), (rowsV enc l).drop (k * sz) = rowsV enc (l.drop k)
 | [], k => by simp [rowsV]
 | a :: l, 0 => by simp [rowsV]
 | a :: l, k + 1 => by
  show (enc a ++ rowsV enc l).drop ((k + 1) * sz) = rowsV enc (l.drop k)
  rw [List.drop_append, h, show (k + 1) * sz - sz = k * sz by rw [Nat.add_mul]; omega, rowsV_drop h l k, List.drop_eq_nil_of_le (by rw [h, Nat.add_mul]; omega), List.nil_append]
theorem shift_take {L X R : List Value} {a b s : Nat} (hab : a ≤ b) (hb : b + s ≤ L.length) (hX : X.length = s) (hR : L.take b = R) :
 (((L.take (a + s) ++ (L.drop a).take (b - a) ++ L.drop (a + s + (b - a))).take a) ++ X ++ (L.take (a + s) ++ (L.drop a).take (b - a) ++ L.drop (a + s + (b - a))).drop (a + s)).take (b + s) = R.take a ++ X ++ R.drop a := by
 have l1 : (L.take (a + s)).length = a + s := by rw [List.length_take]; omega
 have l2 : ((L.drop a).take (b - a)).length = b - a := by rw [List.length_take, List.length_drop]; omega
 have e1 : (L.take (a + s) ++ (L.drop a).take (b - a) ++ L.drop (a + s + (b - a))).take a = R.take a := by
  rw [List.append_assoc, List.take_append_of_le_length (by omega), List.take_take, ← hR, List.take_take]
  congr 1; omega
 have e2 : (L.take (a + s) ++ (L.drop a).take (b - a) ++ L.drop (a + s + (b - a))).drop (a + s) = (L.drop a).take (b - a) ++ L.drop (a + s + (b - a)) := by
  rw [List.append_assoc, List.drop_append, l1, Nat.sub_self, List.drop_zero, List.drop_eq_nil_of_le (by omega), List.nil_append]
 have e3 : (L.drop a).take (b - a) = R.drop a := by rw [← hR, List.drop_take]
 have l3 : (R.take a).length = a := by rw [← hR, List.length_take, List.length_take]; omega
 rw [e1, e2, ← List.append_assoc, List.take_append_of_le_length (by simp only [List.length_append, l3, hX, l2]; omega), List.take_of_length_le (by simp only [List.length_append, l3, hX, l2]; omega), e3]
theorem grow_take {L X D : List Value} {a s : Nat} (hL : a + s + D.length ≤ L.length) (hX : X.length = s) :
 ((L.take a ++ X ++ L.drop (a + s)).take (a + s) ++ D ++ (L.take a ++ X ++ L.drop (a + s)).drop (a + s + D.length)).take (a + s + D.length) = L.take a ++ X ++ D := by
 have l1 : (L.take a ++ X).length = a + s := by rw [List.length_append, List.length_take, hX]; omega
 have e1 : (L.take a ++ X ++ L.drop (a + s)).take (a + s) = L.take a ++ X := by
  rw [List.take_append_of_le_length (by omega), List.take_of_length_le (by omega)]
 rw [e1, List.take_append_of_le_length (by rw [List.length_append, l1]; exact Nat.le_refl _), List.take_of_length_le (by rw [List.length_append, l1]; exact Nat.le_refl _)]
theorem close_take {L R : List Value} {a b s : Nat} (hab : a + s ≤ b) (hb : b ≤ L.length) (hR : L.take b = R) :
 (L.take a ++ (L.drop (a + s)).take (b - (a + s)) ++ L.drop (a + (b - (a + s)))).take (b - s) = R.take a ++ R.drop (a + s) := by
 have l1 : (L.take a).length = a := by rw [List.length_take]; omega
 have l2 : ((L.drop (a + s)).take (b - (a + s))).length = b - (a + s) := by rw [List.length_take, List.length_drop]; omega
 rw [List.take_append_of_le_length (by rw [List.length_append, l1, l2]; omega), List.take_of_length_le (by rw [List.length_append, l1, l2]; omega), ← hR, List.drop_take, List.take_take, Nat.min_eq_left (by omega)]
end Go.Proofs.YtjgnnobccecpeaaGreatDoor
