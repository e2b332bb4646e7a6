/- Of the proof of a statement: RPrint. -/
import Derived.Deep.DeepCutAuto
import Derived.Test.YtcodhhabfacnjaaGreatDoorSJPrint
import Derived.Test.YtcodhhabfacnjaaGreatDoorSRPh
set_option linter.unusedVariables false
set_option linter.unusedSimpArgs false
/- The rows that the reference's Print writes: what its loops need. -/
namespace Go.Proofs.YtcodhhabfacnjaaGreatDoor
open Go.RowKit
/-- One record pushed, at an operation: whatever the world. -/
theorem wp_push_rec {P : Program} {w : World} {o : Oper} {a : Act} {Q : Exit → Act → World → Prop} {K : Act → World → Prop} {α : Type} (enc : α → List Value) (s x : Operand) (t e : TypeId) (z : Value) (sz bytes : Nat) (ho : o.op = .call { callee := .builtin .append, args := #[s, x], argTypes := #[t, t] })
    (ht : P.underlying t = some (.slice e)) (hinfo : (P.info? e).map (fun i => (i.zero, i.size, i.bytes)) = some (some z, sz, bytes)) (hzs : z.cells.size = sz) (hsz : 0 < sz)
    (henc : ∀ a, (enc a).length = sz) (h1 : ∀ a, ∀ u ∈ enc a, u.oneCell' = true)
    (base : Nat) (A : Option Addr) (m c : Nat) (l : List α) (hs : a.eval s = .slice A m c) (hown : w.ownsRow base e sz (.slice A m c) m (rowsV enc l))
    (b : α) (g c2 : Nat) (hr : RowAt w g 0 (enc b)) (hx : a.eval x = .slice (some ⟨g, 0, none⟩) 1 c2) (hm : (m + 1) * bytes ≤ 140737488355328) (h63 : m + 1 ≤ maxLen) (hbase : base ≤ w.heap.size)
    (h : ∀ A' c' w', w'.ownsRow base e sz (.slice A' (m + 1) c') (m + 1) (rowsV enc (l ++ [b])) → Grew w w' (.slice A m c) (.slice A' (m + 1) c') → K (a.put o.dst (.slice A' (m + 1) c')) w') :
    o.wp P a w K Q := by
  obtain ⟨i0, hi, hz0, hz1, hz2⟩ := info_parts hinfo
  obtain ⟨v', w', hrun, h2, h3, h4, h5⟩ := run_append_own_at (P := P) w base t o.type e i0 z sz bytes ht hi hz0 hz1 hz2 hzs hsz _ m _ hown ⟨g, 0, none⟩ 1 c2 (enc b) (by rw [henc, Nat.one_mul]) (fun j u hu => by
    rw [Lib.add_plain]; exact hr j u hu) (fun u hu => h1 _ _ hu) h63 hm hbase
  have e1 : rowsV enc l ++ enc b = rowsV enc (l ++ [b]) := by rw [rowsV_append, rowsV_one]
  rw [e1] at h2
  unfold Oper.wp execOp
  simp only [ho, resolve, invoke, builtin, Sem.run_bind, Sem.run_pure, Result.andThen_ok, List.map_toArray, List.map_cons, List.map_nil, hs, hx, hrun]
  obtain ⟨g, cap, hv, _⟩ := h2.form (by omega)
  subst hv
  refine h _ _ _ h2 ⟨h3, ?_⟩
  rcases h5 with h5 | h5
  · exact .inl h5
  · exact .inr ⟨_, h5, Nat.le_refl _⟩
theorem infoStrR : (Tryz.prog.info? 9).map (fun i => (i.zero, i.size, i.bytes)) = some (some (.string ⟨#[]⟩), 1, 16) := by kernel_rfl
theorem strV_oneR (a : ByteArray) (u : Value) (h : u ∈ strV a) : u.oneCell' = true := by
  have : u = .string a := by simpa [strV] using h
  subst this; rfl
/-- A value that is a text of these bytes. -/
def StrIs (l : List UInt8) (N : Nat) (u : Value) : Prop := ∃ t : ByteArray, u = .string t ∧ t.data.toList = l ∧ t.size ≤ N
theorem StrIs.ba {l : List UInt8} {t : ByteArray} (h : t.data.toList = l) : t = ⟨l.toArray⟩ := by subst h; simp
theorem StrIs.pre {l : List UInt8} {N : Nat} {t : ByteArray} (h : t.data.toList = l) (hN : t.size ≤ N) (k : List UInt8) {M : Nat} (hM : k.length + N ≤ M) : StrIs (k ++ l) M (.string (⟨k.toArray⟩ ++ t)) :=
  ⟨_, rfl, by rw [ByteArray.toList_data_append, h], by rw [ByteArray.size_append]; show k.toArray.size + t.size ≤ M; rw [List.size_toArray]; omega⟩
theorem StrIs.post {l : List UInt8} {N : Nat} {t : ByteArray} (h : t.data.toList = l) (hN : t.size ≤ N) (k : List UInt8) {M : Nat} (hM : k.length + N ≤ M) : StrIs (l ++ k) M (.string (t ++ ⟨k.toArray⟩)) :=
  ⟨_, rfl, by rw [ByteArray.toList_data_append, h], by rw [ByteArray.size_append]; show t.size + k.toArray.size ≤ M; rw [List.size_toArray]; omega⟩
theorem StrIs.cat {l k : List UInt8} {N N2 : Nat} {t t2 : ByteArray} (h : t.data.toList = l) (hN : t.size ≤ N) (h2 : t2.data.toList = k) (hN2 : t2.size ≤ N2) {M : Nat} (hM : N + N2 ≤ M) : StrIs (l ++ k) M (.string (t ++ t2)) :=
  ⟨_, rfl, by rw [ByteArray.toList_data_append, h, h2], by rw [ByteArray.size_append]; omega⟩
theorem StrIs.of {l : List UInt8} {N : Nat} (h : l.length ≤ N) : StrIs l N (.string ⟨l.toArray⟩) := ⟨_, rfl, by simp, by show l.toArray.size ≤ N; simpa using h⟩
theorem StrIs.of' {l k : List UInt8} {N : Nat} (he : l = k) (h : k.length ≤ N) : StrIs k N (.string ⟨l.toArray⟩) := by subst he; exact StrIs.of h
/-- What the region's turning operations leave: the literal's block, the row. -/
structure RpG where
  g : Nat
  q : Option (Option Addr × Nat)
/-- The loop's region: how far it has come. -/
structure RpAt (base : Nat) (W : World) (J : Nat) (T : TypeId) (cs : Array Value) (l : List ByteArray) (s : ByteArray) (n : Nat) (A : Option Addr) (c : Nat) (p : Nat) (γ : RpG) (w : World) : Prop where
  below : Below base W w
  ge : base ≤ W.heap.size
  box : Blk w J T cs
  row : p < 2 → w.ownsRow base 9 1 (.slice A n c) n (rowsV strV l)
  lit : p = 1 → Blk w γ.g 9 #[.string s]
  none_ : p < 2 → γ.q = none
  new : p = 2 → ∃ A' c', γ.q = some (A', c') ∧ w.ownsRow base 9 1 (.slice A' (n + 1) c') (n + 1) (rowsV strV (l ++ [s]))
theorem RpAt.up {base : Nat} {W : World} {J : Nat} {T : TypeId} {cs : Array Value} {l : List ByteArray} {s : ByteArray} {n : Nat} {A : Option Addr} {c p : Nat} {γ : RpG} {w w' : World} (h : RpAt base W J T cs l s n A c p γ w) (hb : Below w.heap.size w w') : RpAt base W J T cs l s n A c p γ w' :=
  ⟨h.below.trans (hb.mono (Nat.le_trans h.ge h.below.size)), h.ge, h.box.below hb h.box.lt, fun hp => ownU_below (h.row hp) hb, fun hp => (h.lit hp).below hb (h.lit hp).lt, h.none_, fun hp => by
    obtain ⟨A', c', e, ho⟩ := h.new hp
    exact ⟨A', c', e, ownU_below ho hb⟩⟩
theorem join_own (base : Nat) (A : Option Addr) (n c : Nat) (l : List ByteArray) (w : World) (ho : w.ownsRow base 9 1 (.slice A n c) n (rowsV strV l)) (hl : l.length = n) (hn : n ≤ 1000) (hlen : (commaL (l.map (·.data.toList))).length ≤ 1000000) :
    Calls Tryz.prog 42 #[.slice A n c, .string ⟨#[44]⟩] w fun e w' => (∃ u, e = .returned u ∧ StrIs (commaL (l.map (·.data.toList))) 1000000 u) ∧ Below w.heap.size w w' := by
  rcases Nat.eq_zero_or_pos n with h0 | h0
  · subst h0
    obtain rfl := List.eq_nil_of_length_eq_zero hl
    refine (join_none A c ⟨#[44]⟩ w).mono ?_
    rintro e w' ⟨rfl, rfl⟩
    exact ⟨⟨_, rfl, ⟨_, rfl, rfl, by decide⟩⟩, Below.refl _ _⟩
  · have hs := own_slAt ho
    obtain ⟨b, off, rfl, hb, hr⟩ := hs.at_ h0
    have hc : n ≤ c := by
      rcases ho.2 with ⟨_, h1⟩ | ⟨g, cap, cur, hv, _, _, h2, _⟩
      · omega
      · injection hv with _ _ h3; omega
    subst hl
    have hj := commaL_join (l.map (·.data.toList))
    refine (join_any b off c l ⟨#[44]⟩ w (fun j x hx => hr j _ ?_) hb (by omega) hc ?_).mono ?_
    · have := rowsV_get strV_len l j 0 x hx (by decide)
      rw [Nat.mul_one, Nat.add_zero] at this
      exact this
    · show (Lib.join _ [44]).length ≤ _
      rw [hj]; omega
    · rintro e w' ⟨rfl, hb⟩
      refine ⟨⟨_, rfl, StrIs.of' (show Lib.join _ [44] = _ from hj) hlen⟩, hb⟩
/-- A loop's head: the texts of the first k rows lie in a row of the loop's own. -/
def RpInv {α : Type} (F : α → List UInt8) (base : Nat) (xs : List α) (n : Nat) (W : World) (v i : Value) (wr : World) : Prop :=
  ∃ (A : Option Addr) (c k : Nat), v = .slice A k c ∧ i = .int .i64 k ∧ k ≤ n ∧ wr.ownsRow base 9 1 (.slice A k c) k (rowsV strV ((xs.take k).map fun x => (⟨(F x).toArray⟩ : ByteArray))) ∧ Below base W wr
def jobRV (J : Nat) (x : JobD) (n : Nat) (A : Option Addr) (c : Nat) (γ : RpG) : Nat → Value → Prop
  | 0, u => u = .slice A n c
  | 1, u => u = .pointer (some ⟨J, 0, none⟩)
  | 2, u => u = .string x.name
  | 3, u => StrIs (quoteL x.name.data.toList) 602 u
  | 4, u => StrIs ([123, 34, 110, 97, 109, 101, 34, 58] ++ quoteL x.name.data.toList) 610 u
  | 5, u => StrIs ([123, 34, 110, 97, 109, 101, 34, 58] ++ quoteL x.name.data.toList ++ [44, 34, 112, 114, 105, 111, 34, 58]) 618 u
  | 6, u => u = .pointer (some ⟨J, 1, none⟩)
  | 7, u => u = .int .i64 x.prio
  | 8, u => StrIs (Lib.itoa x.prio) 20 u
  | 9, u => StrIs ([123, 34, 110, 97, 109, 101, 34, 58] ++ quoteL x.name.data.toList ++ [44, 34, 112, 114, 105, 111, 34, 58] ++ Lib.itoa x.prio) 638 u
  | 10, u => StrIs ([123, 34, 110, 97, 109, 101, 34, 58] ++ quoteL x.name.data.toList ++ [44, 34, 112, 114, 105, 111, 34, 58] ++ Lib.itoa x.prio ++ [44, 34, 110, 101, 101, 100, 34, 58]) 646 u
  | 11, u => u = .pointer (some ⟨J, 2, none⟩)
  | 12, u => u = .int .i64 x.need
  | 13, u => StrIs (Lib.itoa x.need) 20 u
  | 14, u => StrIs ([123, 34, 110, 97, 109, 101, 34, 58] ++ quoteL x.name.data.toList ++ [44, 34, 112, 114, 105, 111, 34, 58] ++ Lib.itoa x.prio ++ [44, 34, 110, 101, 101, 100, 34, 58] ++ Lib.itoa x.need) 666 u
  | 15, u => StrIs ([123, 34, 110, 97, 109, 101, 34, 58] ++ quoteL x.name.data.toList ++ [44, 34, 112, 114, 105, 111, 34, 58] ++ Lib.itoa x.prio ++ [44, 34, 110, 101, 101, 100, 34, 58] ++ Lib.itoa x.need ++ [44, 34, 116, 114, 105, 101, 115, 34, 58]) 675 u
  | 16, u => u = .pointer (some ⟨J, 3, none⟩)
  | 17, u => u = .int .i64 x.tries
  | 18, u => StrIs (Lib.itoa x.tries) 20 u
  | 19, u => StrIs ([123, 34, 110, 97, 109, 101, 34, 58] ++ quoteL x.name.data.toList ++ [44, 34, 112, 114, 105, 111, 34, 58] ++ Lib.itoa x.prio ++ [44, 34, 110, 101, 101, 100, 34, 58] ++ Lib.itoa x.need ++ [44, 34, 116, 114, 105, 101, 115, 34, 58] ++ Lib.itoa x.tries) 695 u
  | 20, u => StrIs ([123, 34, 110, 97, 109, 101, 34, 58] ++ quoteL x.name.data.toList ++ [44, 34, 112, 114, 105, 111, 34, 58] ++ Lib.itoa x.prio ++ [44, 34, 110, 101, 101, 100, 34, 58] ++ Lib.itoa x.need ++ [44, 34, 116, 114, 105, 101, 115, 34, 58] ++ Lib.itoa x.tries ++ [44, 34, 116, 97, 103, 34, 58]) 702 u
  | 21, u => u = .pointer (some ⟨J, 4, none⟩)
  | 22, u => u = .string x.tag
  | 23, u => StrIs (quoteL x.tag.data.toList) 602 u
  | 24, u => StrIs ([123, 34, 110, 97, 109, 101, 34, 58] ++ quoteL x.name.data.toList ++ [44, 34, 112, 114, 105, 111, 34, 58] ++ Lib.itoa x.prio ++ [44, 34, 110, 101, 101, 100, 34, 58] ++ Lib.itoa x.need ++ [44, 34, 116, 114, 105, 101, 115, 34, 58] ++ Lib.itoa x.tries ++ [44, 34, 116, 97, 103, 34, 58] ++ quoteL x.tag.data.toList) 1304 u
  | 25, u => StrIs ([123, 34, 110, 97, 109, 101, 34, 58] ++ quoteL x.name.data.toList ++ [44, 34, 112, 114, 105, 111, 34, 58] ++ Lib.itoa x.prio ++ [44, 34, 110, 101, 101, 100, 34, 58] ++ Lib.itoa x.need ++ [44, 34, 116, 114, 105, 101, 115, 34, 58] ++ Lib.itoa x.tries ++ [44, 34, 116, 97, 103, 34, 58] ++ quoteL x.tag.data.toList ++ [125]) 1305 u
  | 26, u => u = .slice (some ⟨γ.g, 0, none⟩) 1 1
  | 27, u => ∃ A' c', γ.q = some (A', c') ∧ u = .slice A' (n + 1) c'
  | 28, u => ∃ A' c', γ.q = some (A', c') ∧ u = .slice A' (n + 1) c'
  | _, _ => False
theorem jobRV_tr {J : Nat} {x : JobD} {n : Nat} {A : Option Addr} {c : Nat} {γ : RpG} {g : Nat} {j : Nat} {v : Value} (hj : j ≠ 26) (h : jobRV J x n A c γ j v) : jobRV J x n A c ⟨g, γ.q⟩ j v := by
  unfold jobRV at *
  split at h
  all_goals first | exact h | exact absurd rfl hj
theorem jobRV_tr2 {J : Nat} {x : JobD} {n : Nat} {A : Option Addr} {c : Nat} {γ : RpG} {q : Option (Option Addr × Nat)} {j : Nat} {v : Value} (hn : γ.q = none) (h : jobRV J x n A c γ j v) : jobRV J x n A c ⟨γ.g, q⟩ j v := by
  unfold jobRV at *
  split at h
  all_goals first | exact h | (obtain ⟨A', c', e, _⟩ := h; rw [hn] at e; cases e)
def nodeRV (J : Nat) (x : NodeD) (n : Nat) (A : Option Addr) (c : Nat) (γ : RpG) : Nat → Value → Prop
  | 0, u => u = .slice A n c
  | 1, u => u = .pointer (some ⟨J, 0, none⟩)
  | 2, u => u = .string x.name
  | 3, u => StrIs (quoteL x.name.data.toList) 602 u
  | 4, u => StrIs ([123, 34, 110, 97, 109, 101, 34, 58] ++ quoteL x.name.data.toList) 610 u
  | 5, u => StrIs ([123, 34, 110, 97, 109, 101, 34, 58] ++ quoteL x.name.data.toList ++ [44, 34, 114, 111, 111, 109, 34, 58]) 618 u
  | 6, u => u = .pointer (some ⟨J, 1, none⟩)
  | 7, u => u = .int .i64 x.room
  | 8, u => StrIs (Lib.itoa x.room) 20 u
  | 9, u => StrIs ([123, 34, 110, 97, 109, 101, 34, 58] ++ quoteL x.name.data.toList ++ [44, 34, 114, 111, 111, 109, 34, 58] ++ Lib.itoa x.room) 638 u
  | 10, u => StrIs ([123, 34, 110, 97, 109, 101, 34, 58] ++ quoteL x.name.data.toList ++ [44, 34, 114, 111, 111, 109, 34, 58] ++ Lib.itoa x.room ++ [44, 34, 122, 111, 110, 101, 34, 58]) 646 u
  | 11, u => u = .pointer (some ⟨J, 2, none⟩)
  | 12, u => u = .string x.zone
  | 13, u => StrIs (quoteL x.zone.data.toList) 602 u
  | 14, u => StrIs ([123, 34, 110, 97, 109, 101, 34, 58] ++ quoteL x.name.data.toList ++ [44, 34, 114, 111, 111, 109, 34, 58] ++ Lib.itoa x.room ++ [44, 34, 122, 111, 110, 101, 34, 58] ++ quoteL x.zone.data.toList) 1248 u
  | 15, u => StrIs ([123, 34, 110, 97, 109, 101, 34, 58] ++ quoteL x.name.data.toList ++ [44, 34, 114, 111, 111, 109, 34, 58] ++ Lib.itoa x.room ++ [44, 34, 122, 111, 110, 101, 34, 58] ++ quoteL x.zone.data.toList ++ [125]) 1249 u
  | 16, u => u = .slice (some ⟨γ.g, 0, none⟩) 1 1
  | 17, u => ∃ A' c', γ.q = some (A', c') ∧ u = .slice A' (n + 1) c'
  | 18, u => ∃ A' c', γ.q = some (A', c') ∧ u = .slice A' (n + 1) c'
  | _, _ => False
theorem nodeRV_tr {J : Nat} {x : NodeD} {n : Nat} {A : Option Addr} {c : Nat} {γ : RpG} {g : Nat} {j : Nat} {v : Value} (hj : j ≠ 16) (h : nodeRV J x n A c γ j v) : nodeRV J x n A c ⟨g, γ.q⟩ j v := by
  unfold nodeRV at *
  split at h
  all_goals first | exact h | exact absurd rfl hj
theorem nodeRV_tr2 {J : Nat} {x : NodeD} {n : Nat} {A : Option Addr} {c : Nat} {γ : RpG} {q : Option (Option Addr × Nat)} {j : Nat} {v : Value} (hn : γ.q = none) (h : nodeRV J x n A c γ j v) : nodeRV J x n A c ⟨γ.g, q⟩ j v := by
  unfold nodeRV at *
  split at h
  all_goals first | exact h | (obtain ⟨A', c', e, _⟩ := h; rw [hn] at e; cases e)
def leaseRV (J : Nat) (x : LeaseD) (n : Nat) (A : Option Addr) (c : Nat) (γ : RpG) : Nat → Value → Prop
  | 0, u => u = .slice A n c
  | 1, u => u = .pointer (some ⟨J, 0, none⟩)
  | 2, u => u = .string x.job
  | 3, u => StrIs (quoteL x.job.data.toList) 602 u
  | 4, u => StrIs ([123, 34, 106, 111, 98, 34, 58] ++ quoteL x.job.data.toList) 609 u
  | 5, u => StrIs ([123, 34, 106, 111, 98, 34, 58] ++ quoteL x.job.data.toList ++ [44, 34, 110, 111, 100, 101, 34, 58]) 617 u
  | 6, u => u = .pointer (some ⟨J, 1, none⟩)
  | 7, u => u = .string x.node
  | 8, u => StrIs (quoteL x.node.data.toList) 602 u
  | 9, u => StrIs ([123, 34, 106, 111, 98, 34, 58] ++ quoteL x.job.data.toList ++ [44, 34, 110, 111, 100, 101, 34, 58] ++ quoteL x.node.data.toList) 1219 u
  | 10, u => StrIs ([123, 34, 106, 111, 98, 34, 58] ++ quoteL x.job.data.toList ++ [44, 34, 110, 111, 100, 101, 34, 58] ++ quoteL x.node.data.toList ++ [44, 34, 117, 110, 116, 105, 108, 34, 58]) 1228 u
  | 11, u => u = .pointer (some ⟨J, 2, none⟩)
  | 12, u => u = .int .i64 x.till
  | 13, u => StrIs (Lib.itoa x.till) 20 u
  | 14, u => StrIs ([123, 34, 106, 111, 98, 34, 58] ++ quoteL x.job.data.toList ++ [44, 34, 110, 111, 100, 101, 34, 58] ++ quoteL x.node.data.toList ++ [44, 34, 117, 110, 116, 105, 108, 34, 58] ++ Lib.itoa x.till) 1248 u
  | 15, u => StrIs ([123, 34, 106, 111, 98, 34, 58] ++ quoteL x.job.data.toList ++ [44, 34, 110, 111, 100, 101, 34, 58] ++ quoteL x.node.data.toList ++ [44, 34, 117, 110, 116, 105, 108, 34, 58] ++ Lib.itoa x.till ++ [125]) 1249 u
  | 16, u => u = .slice (some ⟨γ.g, 0, none⟩) 1 1
  | 17, u => ∃ A' c', γ.q = some (A', c') ∧ u = .slice A' (n + 1) c'
  | 18, u => ∃ A' c', γ.q = some (A', c') ∧ u = .slice A' (n + 1) c'
  | _, _ => False
theorem leaseRV_tr {J : Nat} {x : LeaseD} {n : Nat} {A : Option Addr} {c : Nat} {γ : RpG} {g : Nat} {j : Nat} {v : Value} (hj : j ≠ 16) (h : leaseRV J x n A c γ j v) : leaseRV J x n A c ⟨g, γ.q⟩ j v := by
  unfold leaseRV at *
  split at h
  all_goals first | exact h | exact absurd rfl hj
theorem leaseRV_tr2 {J : Nat} {x : LeaseD} {n : Nat} {A : Option Addr} {c : Nat} {γ : RpG} {q : Option (Option Addr × Nat)} {j : Nat} {v : Value} (hn : γ.q = none) (h : leaseRV J x n A c γ j v) : leaseRV J x n A c ⟨γ.g, q⟩ j v := by
  unfold leaseRV at *
  split at h
  all_goals first | exact h | (obtain ⟨A', c', e, _⟩ := h; rw [hn] at e; cases e)
theorem job_flat (x : JobD) : [123, 34, 110, 97, 109, 101, 34, 58] ++ quoteL x.name.data.toList ++ [44, 34, 112, 114, 105, 111, 34, 58] ++ Lib.itoa x.prio ++ [44, 34, 110, 101, 101, 100, 34, 58] ++ Lib.itoa x.need ++ [44, 34, 116, 114, 105, 101, 115, 34, 58] ++ Lib.itoa x.tries ++ [44, 34, 116, 97, 103, 34, 58] ++ quoteL x.tag.data.toList ++ [125] = objL (jobFs x) := by
  have q0 : quoteL (⟨#[110, 97, 109, 101]⟩ : ByteArray).data.toList = [34, 110, 97, 109, 101, 34] := by decide
  have q1 : quoteL (⟨#[112, 114, 105, 111]⟩ : ByteArray).data.toList = [34, 112, 114, 105, 111, 34] := by decide
  have q2 : quoteL (⟨#[110, 101, 101, 100]⟩ : ByteArray).data.toList = [34, 110, 101, 101, 100, 34] := by decide
  have q3 : quoteL (⟨#[116, 114, 105, 101, 115]⟩ : ByteArray).data.toList = [34, 116, 114, 105, 101, 115, 34] := by decide
  have q4 : quoteL (⟨#[116, 97, 103]⟩ : ByteArray).data.toList = [34, 116, 97, 103, 34] := by decide
  simp only [objL, jobFs, List.map_cons, List.map_nil, fieldL, fvL, commaL, q0, q1, q2, q3, q4]
  simp
theorem node_flat (x : NodeD) : [123, 34, 110, 97, 109, 101, 34, 58] ++ quoteL x.name.data.toList ++ [44, 34, 114, 111, 111, 109, 34, 58] ++ Lib.itoa x.room ++ [44, 34, 122, 111, 110, 101, 34, 58] ++ quoteL x.zone.data.toList ++ [125] = objL (nodeFs x) := by
  have q0 : quoteL (⟨#[110, 97, 109, 101]⟩ : ByteArray).data.toList = [34, 110, 97, 109, 101, 34] := by decide
  have q1 : quoteL (⟨#[114, 111, 111, 109]⟩ : ByteArray).data.toList = [34, 114, 111, 111, 109, 34] := by decide
  have q2 : quoteL (⟨#[122, 111, 110, 101]⟩ : ByteArray).data.toList = [34, 122, 111, 110, 101, 34] := by decide
  simp only [objL, nodeFs, List.map_cons, List.map_nil, fieldL, fvL, commaL, q0, q1, q2]
  simp
theorem lease_flat (x : LeaseD) : [123, 34, 106, 111, 98, 34, 58] ++ quoteL x.job.data.toList ++ [44, 34, 110, 111, 100, 101, 34, 58] ++ quoteL x.node.data.toList ++ [44, 34, 117, 110, 116, 105, 108, 34, 58] ++ Lib.itoa x.till ++ [125] = objL (leaseFs x) := by
  have q0 : quoteL (⟨#[106, 111, 98]⟩ : ByteArray).data.toList = [34, 106, 111, 98, 34] := by decide
  have q1 : quoteL (⟨#[110, 111, 100, 101]⟩ : ByteArray).data.toList = [34, 110, 111, 100, 101, 34] := by decide
  have q2 : quoteL (⟨#[117, 110, 116, 105, 108]⟩ : ByteArray).data.toList = [34, 117, 110, 116, 105, 108, 34] := by decide
  simp only [objL, leaseFs, List.map_cons, List.map_nil, fieldL, fvL, commaL, q0, q1, q2]
  simp
theorem job_join (st : StateD) : (st.jobs.map fun x => (⟨(objL (jobFs x)).toArray⟩ : ByteArray)).map (·.data.toList) = st.jobs.map fun x => objL (jobFs x) := by
  rw [List.map_map]; rfl
theorem job_jlen {st : StateD} (g : SGood st) : (commaL ((st.jobs.map fun x => (⟨(objL (jobFs x)).toArray⟩ : ByteArray)).map (·.data.toList))).length ≤ 1000000 := by
  rw [job_join]
  have := commaL_len2 (L := 6060) (n := 40) (l := st.jobs.map fun x => objL (jobFs x)) (fun y hy => by
    obtain ⟨x, hx, rfl⟩ := List.mem_map.1 hy
    exact objL_len (by simp [jobFs]) (jobOk_of g x hx)) (by rw [List.length_map]; have := g.nj; have := g.nn; have := g.nl; omega)
  omega
theorem node_join (st : StateD) : (st.nodes.map fun x => (⟨(objL (nodeFs x)).toArray⟩ : ByteArray)).map (·.data.toList) = st.nodes.map fun x => objL (nodeFs x) := by
  rw [List.map_map]; rfl
theorem node_jlen {st : StateD} (g : SGood st) : (commaL ((st.nodes.map fun x => (⟨(objL (nodeFs x)).toArray⟩ : ByteArray)).map (·.data.toList))).length ≤ 1000000 := by
  rw [node_join]
  have := commaL_len2 (L := 6060) (n := 40) (l := st.nodes.map fun x => objL (nodeFs x)) (fun y hy => by
    obtain ⟨x, hx, rfl⟩ := List.mem_map.1 hy
    exact objL_len (by simp [nodeFs]) (nodeOk_of g x hx)) (by rw [List.length_map]; have := g.nj; have := g.nn; have := g.nl; omega)
  omega
theorem lease_join (st : StateD) : (st.leases.map fun x => (⟨(objL (leaseFs x)).toArray⟩ : ByteArray)).map (·.data.toList) = st.leases.map fun x => objL (leaseFs x) := by
  rw [List.map_map]; rfl
theorem lease_jlen {st : StateD} (g : SGood st) : (commaL ((st.leases.map fun x => (⟨(objL (leaseFs x)).toArray⟩ : ByteArray)).map (·.data.toList))).length ≤ 1000000 := by
  rw [lease_join]
  have := commaL_len2 (L := 6060) (n := 40) (l := st.leases.map fun x => objL (leaseFs x)) (fun y hy => by
    obtain ⟨x, hx, rfl⟩ := List.mem_map.1 hy
    exact objL_len (by simp [leaseFs]) (leaseOk_of g x hx)) (by rw [List.length_map]; have := g.nj; have := g.nn; have := g.nl; omega)
  omega
theorem Blk.alloc' {w : World} {g : Nat} (t : TypeId) (cs : Array Value) (hg : w.heap.size = g) : Blk (w.alloc (.cells cs t)) g t cs := by subst hg; exact heap_alloc_new w _
set_option maxRecDepth 100000 in
set_option maxHeartbeats 16000000 in
theorem rprint_any (st : StateD) (x : StA) (w : World) (hS : StAt w w.heap.size st x) :
    Calls Tryz.prog 24 #[.agg (stC st x)] w (PrPost st w) := by
  have hb1 : Below w.heap.size w (w.alloc (.cells (stC st x) 26)) := (Below.refl _ _).alloc (Nat.le_refl _) _
  have H1 := Lib.hid (rcheck_any st x (w.alloc (.cells (stC st x) 26)) (hS.upE hb1))
  have hB1 : Blk (w.alloc (.cells (stC st x) 26)) w.heap.size 26 (stC st x) := heap_alloc_new w _
  have Hb1 := Lib.hid hb1
  have HB1 := Lib.hid hB1
  have HS := Lib.hid hS
  unfold RCPost at H1
  by_cases hc : checkE st = 0
  · have Hp : printF st = (⟨(printL st).toArray⟩, 0) := by unfold printF; rw [if_neg (by simp [hc])]
    have Hf := Lib.hid (fun (s : ByteArray) (W : World) (hs : s.data.toList = printL st) (hb : Below w.heap.size w W) => (show PrPost st w (.returned (.tuple #[.string s, .int .i64 0])) W from ⟨by rw [Hp, StrIs.ba hs], hb⟩))
    have g := sgood hc
    have G := Lib.hid g
    have hr0 := g.r0
    have hr1 := g.r1
    have hnj : x.nj ≤ 40 := by have := hS.lj; have := g.nj; omega
    have hnn : x.nn ≤ 40 := by have := hS.ln; have := g.nn; omega
    have hnl : x.nl ≤ 40 := by have := hS.ll; have := g.nl; omega
    rw [hc] at H1
    clear hb1 hB1 hS hc Hp g
    obtain ⟨rev, jobs, nodes, leases⟩ := st
    obtain ⟨aj, nj, cj, an, nn, cn, al, nl, cl⟩ := x
    simp only [stC] at *
    go_enter Tryz.func24, Tryz.ntmps24
    go_wp2_with fail
    refine Calls.mono H1.out ?_
    rintro e w1 ⟨rfl, hb⟩
    have HW1 := Lib.hid (Hb1.out.trans (hb.mono Hb1.out.size))
    have HB2 := Lib.hid (HB1.out.below hb HB1.out.lt)
    have x1 : w1.cell? ⟨w.heap.size, 1, none⟩ = some (.slice aj nj cj) := HB2.out.cell 1
    clear hb HB1 Hb1
    go_wp2_with fail
    clear x1
    go_loopw [5, 22] (fun v i wr => RpInv (fun x => objL (jobFs x)) w1.heap.size jobs nj w1 v i wr) (fun _ i _ => nj - (intOf i).toNat)
    case atStart => exact ⟨none, 0, 0, rfl, rfl, Nat.zero_le _, World.ownsRow_nil _ _ _ _, Below.refl _ _⟩
    case round =>
      obtain ⟨A1, c1, k, rfl, rfl, hk, ho, hb⟩ := hrel
      have Ho1 := Lib.hid ho
      have Hb1 := Lib.hid hb
      clear ho hb
      by_cases hlt : k < nj
      · obtain ⟨x, hf⟩ : ∃ x, jobs[k]? = some x := ⟨_, List.getElem?_eq_getElem (by have := HS.out.lj; dsimp only at this; omega)⟩
        obtain ⟨b, off, hXA, hbB, hbr⟩ := (HS.out.j.below (HW1.out.trans (Hb1.out.mono HW1.out.size))).rowAt jobV_len HS.out.lj hf
        subst hXA
        have Hst := Lib.hid (map_take_succ (fun x => (⟨(objL (jobFs x)).toArray⟩ : ByteArray)) hf)
        have Hx := Lib.hid (G.out.job (List.mem_of_getElem? hf))
        have z0 : wr.cell? ⟨b, off + k * 5, none⟩ = some (.string x.name) := hbr 0 _ rfl
        have z1 : wr.cell? ⟨b, off + k * 5 + 1, none⟩ = some (.int .i64 x.prio) := hbr 1 _ rfl
        have z2 : wr.cell? ⟨b, off + k * 5 + 2, none⟩ = some (.int .i64 x.need) := hbr 2 _ rfl
        have z3 : wr.cell? ⟨b, off + k * 5 + 3, none⟩ = some (.int .i64 x.tries) := hbr 3 _ rfl
        have z4 : wr.cell? ⟨b, off + k * 5 + 4, none⟩ = some (.string x.tag) := hbr 4 _ rfl
        have hbl := block_lt_of_cell z0
        clear hbr hf
        go_wp2_with fail
        clear z0 z1 z2 z3 z4
        have hs0 : x.name.size ≤ 16 := by have := Hx.out; omega
        have hq0 : (quoteL x.name.data.toList).length ≤ 602 := quoteL_len _ (by omega)
        have hi1 : -1000 ≤ x.prio ∧ x.prio ≤ 1099511627776 := by have := Hx.out; omega
        have hq1 : (Lib.itoa x.prio).length ≤ 20 := itoa_len _ (by omega) (by omega)
        have hi2 : -1000 ≤ x.need ∧ x.need ≤ 1099511627776 := by have := Hx.out; omega
        have hq2 : (Lib.itoa x.need).length ≤ 20 := itoa_len _ (by omega) (by omega)
        have hi3 : -1000 ≤ x.tries ∧ x.tries ≤ 1099511627776 := by have := Hx.out; omega
        have hq3 : (Lib.itoa x.tries).length ≤ 20 := itoa_len _ (by omega) (by omega)
        have hs4 : x.tag.size ≤ 16 := by have := Hx.out; omega
        have hq4 : (quoteL x.tag.data.toList).length ≤ 602 := quoteL_len _ (by omega)
        have hne : (show TypeId from 39) ≠ 9 := by decide
        have hkn : k ≤ 40 := by omega
        obtain ⟨s0, hs0⟩ : ∃ s0 : ByteArray, ⟨([123, 34, 110, 97, 109, 101, 34, 58] ++ quoteL x.name.data.toList ++ [44, 34, 112, 114, 105, 111, 34, 58] ++ Lib.itoa x.prio ++ [44, 34, 110, 101, 101, 100, 34, 58] ++ Lib.itoa x.need ++ [44, 34, 116, 114, 105, 101, 115, 34, 58] ++ Lib.itoa x.tries ++ [44, 34, 116, 97, 103, 34, 58] ++ quoteL x.tag.data.toList ++ [125]).toArray⟩ = s0 := ⟨_, rfl⟩
        obtain ⟨l0, hl0⟩ : ∃ l0 : List ByteArray, ((jobs.take k).map fun x => (⟨(objL (jobFs x)).toArray⟩ : ByteArray)) = l0 := ⟨_, rfl⟩
        have Hs0 := Lib.hid hs0
        have Hl0 := Lib.hid hl0
        rw [hl0] at Ho1
        clear hs0 hl0
        refine wp_region_phases (n := 124) (by kernel_rfl) (jobRV wr.heap.size x k A1 c1) [26, 27] (RpAt w1.heap.size w1 wr.heap.size 39 #[.string x.name, .int .i64 x.prio, .int .i64 x.need, .int .i64 x.tries, .string x.tag] l0 s0 k A1 c1) ⟨0, none⟩ (by decide +kernel) (by decide +kernel) rfl ?_ ?_ ?_
        · exact ⟨(Hb1.out.alloc Hb1.out.size _).drew, Nat.le_refl _, Blk.alloc' _ _ rfl, fun _ => (Ho1.out.alloc _).drew, fun h => absurd h (by decide), fun _ => rfl, fun h => absurd h (by decide)⟩
        · refine ⟨?_, ?_, ?_, ?_, ?_, ?_, ?_, ?_, ?_, ?_, ?_, ?_, ?_, ?_, ?_, ?_, ?_, ?_, ?_, ?_, ?_, ?_, ?_, ?_, ?_, ?_, ?_, ?_, ?_, trivial⟩
          · refine ⟨rfl, .inr ⟨by decide, 0, 2, by decide +kernel, by decide +kernel, fun p γ a wx hpl hph hp hk => ?_⟩⟩
            have h1 := hk.1 5 _ rfl (by decide +kernel)
            simp [go_sem, Oper.wp, execOp, Act.eval, h1]
            exact ⟨_, rfl, rfl, hp⟩
          · refine ⟨rfl, .inr ⟨by decide, 0, 2, by decide +kernel, by decide +kernel, fun p γ a wx hpl hph hp hk => ?_⟩⟩
            have h1 := hk.1 9 _ rfl (by decide +kernel)
            simp [go_sem, Oper.wp, execOp, Act.eval, h1]
            exact ⟨_, rfl, rfl, hp⟩
          · refine ⟨rfl, .inr ⟨by decide, 0, 2, by decide +kernel, by decide +kernel, fun p γ a wx hpl hph hp hk => ?_⟩⟩
            obtain ⟨u1, h1, r1⟩ := hk.2.1 1 _ 27 rfl rfl (by decide +kernel)
            replace r1 : u1 = _ := r1
            subst r1
            have hc : wx.cell? ⟨wr.heap.size, 0, none⟩ = some (.string x.name) := hp.box.cell 0
            simp [go_sem, Oper.wp, execOp, Act.eval, h1, hc]
            exact ⟨_, rfl, rfl, hp⟩
          · refine ⟨rfl, .inr ⟨by decide, 0, 2, by decide +kernel, by decide +kernel, fun p γ a wx hpl hph hp hk => ?_⟩⟩
            obtain ⟨u1, h1, r1⟩ := hk.2.1 2 _ 28 rfl rfl (by decide +kernel)
            replace r1 : u1 = _ := r1
            subst r1
            simp [go_sem, Oper.wp, execOp, Act.eval, h1]
            refine (rQuote_any x.name wx (by omega)).mono ?_
            rintro e w' ⟨rfl, hb⟩
            exact ⟨_, rfl, StrIs.of (by omega), hp.up hb⟩
          · refine ⟨rfl, .inr ⟨by decide, 0, 2, by decide +kernel, by decide +kernel, fun p γ a wx hpl hph hp hk => ?_⟩⟩
            obtain ⟨u1, h1, t1, rfl, e1, n1⟩ := hk.2.1 3 _ 29 rfl rfl (by decide +kernel)
            have hc : ¬ 9223372036854775807 < 8 + t1.size := by omega
            simp [go_sem, Oper.wp, execOp, Act.eval, h1, hc]
            exact ⟨_, rfl, StrIs.pre e1 n1 [123, 34, 110, 97, 109, 101, 34, 58] (by simp), hp⟩
          · refine ⟨rfl, .inr ⟨by decide, 0, 2, by decide +kernel, by decide +kernel, fun p γ a wx hpl hph hp hk => ?_⟩⟩
            obtain ⟨u1, h1, t1, rfl, e1, n1⟩ := hk.2.1 4 _ 30 rfl rfl (by decide +kernel)
            have hc : ¬ 9223372036854775807 < t1.size + 8 := by omega
            simp [go_sem, Oper.wp, execOp, Act.eval, h1, hc]
            exact ⟨_, rfl, StrIs.post e1 n1 [44, 34, 112, 114, 105, 111, 34, 58] (by simp), hp⟩
          · refine ⟨rfl, .inr ⟨by decide, 0, 2, by decide +kernel, by decide +kernel, fun p γ a wx hpl hph hp hk => ?_⟩⟩
            have h1 := hk.1 9 _ rfl (by decide +kernel)
            simp [go_sem, Oper.wp, execOp, Act.eval, h1]
            exact ⟨_, rfl, rfl, hp⟩
          · refine ⟨rfl, .inr ⟨by decide, 0, 2, by decide +kernel, by decide +kernel, fun p γ a wx hpl hph hp hk => ?_⟩⟩
            obtain ⟨u1, h1, r1⟩ := hk.2.1 6 _ 32 rfl rfl (by decide +kernel)
            replace r1 : u1 = _ := r1
            subst r1
            have hc : wx.cell? ⟨wr.heap.size, 1, none⟩ = some (.int .i64 x.prio) := hp.box.cell 1
            simp [go_sem, Oper.wp, execOp, Act.eval, h1, hc]
            exact ⟨_, rfl, rfl, hp⟩
          · refine ⟨rfl, .inr ⟨by decide, 0, 2, by decide +kernel, by decide +kernel, fun p γ a wx hpl hph hp hk => ?_⟩⟩
            obtain ⟨u1, h1, r1⟩ := hk.2.1 7 _ 33 rfl rfl (by decide +kernel)
            replace r1 : u1 = _ := r1
            subst r1
            simp [go_sem, Oper.wp, execOp, Act.eval, h1]
            refine (dig_any x.prio wx (by omega) (by omega)).mono ?_
            rintro e w' ⟨rfl, hb⟩
            exact ⟨_, rfl, StrIs.of (by omega), hp.up hb⟩
          · refine ⟨rfl, .inr ⟨by decide, 0, 2, by decide +kernel, by decide +kernel, fun p γ a wx hpl hph hp hk => ?_⟩⟩
            obtain ⟨u1, h1, t1, rfl, e1, n1⟩ := hk.2.1 5 _ 31 rfl rfl (by decide +kernel)
            obtain ⟨u2, h2, t2, rfl, e2, n2⟩ := hk.2.1 8 _ 34 rfl rfl (by decide +kernel)
            have hc : ¬ 9223372036854775807 < t1.size + t2.size := by omega
            simp [go_sem, Oper.wp, execOp, Act.eval, h1, h2, hc]
            exact ⟨_, rfl, StrIs.cat e1 n1 e2 n2 (by omega), hp⟩
          · refine ⟨rfl, .inr ⟨by decide, 0, 2, by decide +kernel, by decide +kernel, fun p γ a wx hpl hph hp hk => ?_⟩⟩
            obtain ⟨u1, h1, t1, rfl, e1, n1⟩ := hk.2.1 9 _ 35 rfl rfl (by decide +kernel)
            have hc : ¬ 9223372036854775807 < t1.size + 8 := by omega
            simp [go_sem, Oper.wp, execOp, Act.eval, h1, hc]
            exact ⟨_, rfl, StrIs.post e1 n1 [44, 34, 110, 101, 101, 100, 34, 58] (by simp), hp⟩
          · refine ⟨rfl, .inr ⟨by decide, 0, 2, by decide +kernel, by decide +kernel, fun p γ a wx hpl hph hp hk => ?_⟩⟩
            have h1 := hk.1 9 _ rfl (by decide +kernel)
            simp [go_sem, Oper.wp, execOp, Act.eval, h1]
            exact ⟨_, rfl, rfl, hp⟩
          · refine ⟨rfl, .inr ⟨by decide, 0, 2, by decide +kernel, by decide +kernel, fun p γ a wx hpl hph hp hk => ?_⟩⟩
            obtain ⟨u1, h1, r1⟩ := hk.2.1 11 _ 37 rfl rfl (by decide +kernel)
            replace r1 : u1 = _ := r1
            subst r1
            have hc : wx.cell? ⟨wr.heap.size, 2, none⟩ = some (.int .i64 x.need) := hp.box.cell 2
            simp [go_sem, Oper.wp, execOp, Act.eval, h1, hc]
            exact ⟨_, rfl, rfl, hp⟩
          · refine ⟨rfl, .inr ⟨by decide, 0, 2, by decide +kernel, by decide +kernel, fun p γ a wx hpl hph hp hk => ?_⟩⟩
            obtain ⟨u1, h1, r1⟩ := hk.2.1 12 _ 38 rfl rfl (by decide +kernel)
            replace r1 : u1 = _ := r1
            subst r1
            simp [go_sem, Oper.wp, execOp, Act.eval, h1]
            refine (dig_any x.need wx (by omega) (by omega)).mono ?_
            rintro e w' ⟨rfl, hb⟩
            exact ⟨_, rfl, StrIs.of (by omega), hp.up hb⟩
          · refine ⟨rfl, .inr ⟨by decide, 0, 2, by decide +kernel, by decide +kernel, fun p γ a wx hpl hph hp hk => ?_⟩⟩
            obtain ⟨u1, h1, t1, rfl, e1, n1⟩ := hk.2.1 10 _ 36 rfl rfl (by decide +kernel)
            obtain ⟨u2, h2, t2, rfl, e2, n2⟩ := hk.2.1 13 _ 39 rfl rfl (by decide +kernel)
            have hc : ¬ 9223372036854775807 < t1.size + t2.size := by omega
            simp [go_sem, Oper.wp, execOp, Act.eval, h1, h2, hc]
            exact ⟨_, rfl, StrIs.cat e1 n1 e2 n2 (by omega), hp⟩
          · refine ⟨rfl, .inr ⟨by decide, 0, 2, by decide +kernel, by decide +kernel, fun p γ a wx hpl hph hp hk => ?_⟩⟩
            obtain ⟨u1, h1, t1, rfl, e1, n1⟩ := hk.2.1 14 _ 40 rfl rfl (by decide +kernel)
            have hc : ¬ 9223372036854775807 < t1.size + 9 := by omega
            simp [go_sem, Oper.wp, execOp, Act.eval, h1, hc]
            exact ⟨_, rfl, StrIs.post e1 n1 [44, 34, 116, 114, 105, 101, 115, 34, 58] (by simp), hp⟩
          · refine ⟨rfl, .inr ⟨by decide, 0, 2, by decide +kernel, by decide +kernel, fun p γ a wx hpl hph hp hk => ?_⟩⟩
            have h1 := hk.1 9 _ rfl (by decide +kernel)
            simp [go_sem, Oper.wp, execOp, Act.eval, h1]
            exact ⟨_, rfl, rfl, hp⟩
          · refine ⟨rfl, .inr ⟨by decide, 0, 2, by decide +kernel, by decide +kernel, fun p γ a wx hpl hph hp hk => ?_⟩⟩
            obtain ⟨u1, h1, r1⟩ := hk.2.1 16 _ 42 rfl rfl (by decide +kernel)
            replace r1 : u1 = _ := r1
            subst r1
            have hc : wx.cell? ⟨wr.heap.size, 3, none⟩ = some (.int .i64 x.tries) := hp.box.cell 3
            simp [go_sem, Oper.wp, execOp, Act.eval, h1, hc]
            exact ⟨_, rfl, rfl, hp⟩
          · refine ⟨rfl, .inr ⟨by decide, 0, 2, by decide +kernel, by decide +kernel, fun p γ a wx hpl hph hp hk => ?_⟩⟩
            obtain ⟨u1, h1, r1⟩ := hk.2.1 17 _ 43 rfl rfl (by decide +kernel)
            replace r1 : u1 = _ := r1
            subst r1
            simp [go_sem, Oper.wp, execOp, Act.eval, h1]
            refine (dig_any x.tries wx (by omega) (by omega)).mono ?_
            rintro e w' ⟨rfl, hb⟩
            exact ⟨_, rfl, StrIs.of (by omega), hp.up hb⟩
          · refine ⟨rfl, .inr ⟨by decide, 0, 2, by decide +kernel, by decide +kernel, fun p γ a wx hpl hph hp hk => ?_⟩⟩
            obtain ⟨u1, h1, t1, rfl, e1, n1⟩ := hk.2.1 15 _ 41 rfl rfl (by decide +kernel)
            obtain ⟨u2, h2, t2, rfl, e2, n2⟩ := hk.2.1 18 _ 44 rfl rfl (by decide +kernel)
            have hc : ¬ 9223372036854775807 < t1.size + t2.size := by omega
            simp [go_sem, Oper.wp, execOp, Act.eval, h1, h2, hc]
            exact ⟨_, rfl, StrIs.cat e1 n1 e2 n2 (by omega), hp⟩
          · refine ⟨rfl, .inr ⟨by decide, 0, 2, by decide +kernel, by decide +kernel, fun p γ a wx hpl hph hp hk => ?_⟩⟩
            obtain ⟨u1, h1, t1, rfl, e1, n1⟩ := hk.2.1 19 _ 45 rfl rfl (by decide +kernel)
            have hc : ¬ 9223372036854775807 < t1.size + 7 := by omega
            simp [go_sem, Oper.wp, execOp, Act.eval, h1, hc]
            exact ⟨_, rfl, StrIs.post e1 n1 [44, 34, 116, 97, 103, 34, 58] (by simp), hp⟩
          · refine ⟨rfl, .inr ⟨by decide, 0, 2, by decide +kernel, by decide +kernel, fun p γ a wx hpl hph hp hk => ?_⟩⟩
            have h1 := hk.1 9 _ rfl (by decide +kernel)
            simp [go_sem, Oper.wp, execOp, Act.eval, h1]
            exact ⟨_, rfl, rfl, hp⟩
          · refine ⟨rfl, .inr ⟨by decide, 0, 2, by decide +kernel, by decide +kernel, fun p γ a wx hpl hph hp hk => ?_⟩⟩
            obtain ⟨u1, h1, r1⟩ := hk.2.1 21 _ 47 rfl rfl (by decide +kernel)
            replace r1 : u1 = _ := r1
            subst r1
            have hc : wx.cell? ⟨wr.heap.size, 4, none⟩ = some (.string x.tag) := hp.box.cell 4
            simp [go_sem, Oper.wp, execOp, Act.eval, h1, hc]
            exact ⟨_, rfl, rfl, hp⟩
          · refine ⟨rfl, .inr ⟨by decide, 0, 2, by decide +kernel, by decide +kernel, fun p γ a wx hpl hph hp hk => ?_⟩⟩
            obtain ⟨u1, h1, r1⟩ := hk.2.1 22 _ 48 rfl rfl (by decide +kernel)
            replace r1 : u1 = _ := r1
            subst r1
            simp [go_sem, Oper.wp, execOp, Act.eval, h1]
            refine (rQuote_any x.tag wx (by omega)).mono ?_
            rintro e w' ⟨rfl, hb⟩
            exact ⟨_, rfl, StrIs.of (by omega), hp.up hb⟩
          · refine ⟨rfl, .inr ⟨by decide, 0, 2, by decide +kernel, by decide +kernel, fun p γ a wx hpl hph hp hk => ?_⟩⟩
            obtain ⟨u1, h1, t1, rfl, e1, n1⟩ := hk.2.1 20 _ 46 rfl rfl (by decide +kernel)
            obtain ⟨u2, h2, t2, rfl, e2, n2⟩ := hk.2.1 23 _ 49 rfl rfl (by decide +kernel)
            have hc : ¬ 9223372036854775807 < t1.size + t2.size := by omega
            simp [go_sem, Oper.wp, execOp, Act.eval, h1, h2, hc]
            exact ⟨_, rfl, StrIs.cat e1 n1 e2 n2 (by omega), hp⟩
          · refine ⟨rfl, .inr ⟨by decide, 0, 2, by decide +kernel, by decide +kernel, fun p γ a wx hpl hph hp hk => ?_⟩⟩
            obtain ⟨u1, h1, t1, rfl, e1, n1⟩ := hk.2.1 24 _ 50 rfl rfl (by decide +kernel)
            have hc : ¬ 9223372036854775807 < t1.size + 1 := by omega
            simp [go_sem, Oper.wp, execOp, Act.eval, h1, hc]
            exact ⟨_, rfl, StrIs.post e1 n1 [125] (by simp), hp⟩
          · refine ⟨rfl, .inl ⟨0, rfl, fun γ a wx hp hk => ?_⟩⟩
            obtain ⟨u1, h1, t1, rfl, e1, n1⟩ := hk.2.1 25 _ 51 rfl rfl (by decide +kernel)
            simp [go_sem, Oper.wp, execOp, Act.eval, h1]
            obtain rfl := (StrIs.ba e1).trans Hs0.out
            refine ⟨_, rfl, ⟨wx.heap.size, γ.q⟩, fun j v hj h => ?_, rfl, ⟨?_, hp.ge, hp.box.alloc _, fun _ => (hp.row (by decide)).alloc _, fun _ => heap_alloc_new wx _, fun _ => hp.none_ (by decide), fun h => absurd h (by decide)⟩⟩
            · exact jobRV_tr hj h
            · exact hp.below.trans ((Below.refl _ _).alloc (Nat.le_trans hp.ge hp.below.size) _)
          · refine ⟨rfl, .inl ⟨1, rfl, fun γ a wx hp hk => ?_⟩⟩
            obtain ⟨u1, h1, r1⟩ := hk.2.1 0 _ 26 rfl rfl (by decide +kernel)
            replace r1 : u1 = _ := r1
            subst r1
            obtain ⟨u2, h2, r2⟩ := hk.2.1 26 _ 52 rfl rfl (by decide +kernel)
            replace r2 : u2 = _ := r2
            subst r2
            refine wp_push_rec strV _ _ 90 9 (.string ⟨#[]⟩) 1 16 rfl Tryz.underlying90 infoStrR rfl (by decide) strV_len strV_oneR w1.heap.size A1 k c1 l0 ?_ (hp.row (by decide)) s0 γ.g 1 (fun j v hj => ?_) ?_ (by omega) (by unfold maxLen; omega) (Nat.le_trans hp.ge hp.below.size) ?_
            · simp only [Act.eval, Array.getD_eq_getD_getElem?, h1, Option.getD_some]
            · rw [Nat.zero_add, (hp.lit rfl).cell j, List.getElem?_toArray]; exact hj
            · simp only [Act.eval, Array.getD_eq_getD_getElem?, h2, Option.getD_some]
            · intro A' c' w' ho hg
              exact ⟨_, ⟨γ.g, some (A', c')⟩, rfl, fun j v hj h => jobRV_tr2 (hp.none_ (by decide)) h, ⟨A', c', rfl, rfl⟩, ⟨hp.below.trans (hg.below (Nat.le_trans hp.ge hp.below.size) fun k hk => ((hp.row (by decide)).lt k hk).1), hp.ge, Blk.grewE hp.box hg (hp.row (by decide)) hne, fun h => absurd h (by decide), fun h => absurd h (by decide), fun h => absurd h (by decide), fun _ => ⟨A', c', rfl, ho⟩⟩⟩
          · refine ⟨rfl, .inr ⟨by decide, 0, 2, by decide +kernel, by decide +kernel, fun p γ a wx hpl hph hp hk => ?_⟩⟩
            obtain ⟨u1, h1, A', c', e1, rfl⟩ := hk.2.1 27 _ 53 rfl rfl (by decide +kernel)
            simp [go_sem, Oper.wp, execOp, Act.eval, h1]
            exact ⟨_, rfl, ⟨A', c', e1, rfl⟩, hp⟩
        · intro γ a wx hd
          have hp := hd.ph
          obtain ⟨fv, rfl, hfv⟩ := hd.frame [26, 27, 28, 29, 30, 31, 32, 33, 34, 35, 36, 37, 38, 39, 40, 41, 42, 43, 44, 45, 46, 47, 48, 49, 50, 51, 52, 53, 5] rfl
          obtain ⟨A', c', e1, h5⟩ := hfv 28 _ 5 rfl rfl
          obtain ⟨A2, c2, e2, ho⟩ := hp.new rfl
          rw [e1] at e2
          obtain ⟨rfl, rfl⟩ := Prod.mk.inj (Option.some.inj e2)
          have Ho2 := Lib.hid ho
          have Hb2 := Lib.hid hp.below
          clear hd hp hfv e1 e2 ho
          simp only [List.foldl_cons, List.foldl_nil, List.setIfInBounds_toArray, List.set_cons_succ, List.set_cons_zero, h5]
          clear h5
          go_wp2_with fail
          go_roundw
          case rel => exact ⟨A', c', k + 1, rfl, by go_num, by omega, by
            rw [Hst.out, Hl0.out, ← job_flat, Hs0.out]; exact Ho2.out, Hb2.out⟩
          case measure => simp [intOf]; omega
      · have hkn : nj = k := by omega
        have Hall := Lib.hid (show jobs.take k = jobs from List.take_of_length_le (by have := HS.out.lj; dsimp only at this; omega))
        rw [Hall.out] at Ho1
        clear hlt Hall hk
        subst hkn
        obtain ⟨w2, rfl⟩ : ∃ w2 : World, w2 = wr := ⟨_, rfl⟩
        have HW2 := Lib.hid (HW1.out.trans (Hb1.out.mono HW1.out.size))
        have HB3 := Lib.hid (HB2.out.below Hb1.out HB2.out.lt)
        have x2 : w2.cell? ⟨w.heap.size, 2, none⟩ = some (.slice an nn cn) := HB3.out.cell 2
        clear HB2 Hb1
        go_wp2_with fail
        clear x2
        go_loopw [6, 58] (fun v i wr => RpInv (fun x => objL (nodeFs x)) w2.heap.size nodes nn w2 v i wr) (fun _ i _ => nn - (intOf i).toNat)
        case atStart => exact ⟨none, 0, 0, rfl, rfl, Nat.zero_le _, World.ownsRow_nil _ _ _ _, Below.refl _ _⟩
        case round =>
          obtain ⟨A2, c2, k, rfl, rfl, hk, ho, hb⟩ := hrel
          have Ho2 := Lib.hid ho
          have Hb2 := Lib.hid hb
          clear ho hb
          by_cases hlt : k < nn
          · obtain ⟨x, hf⟩ : ∃ x, nodes[k]? = some x := ⟨_, List.getElem?_eq_getElem (by have := HS.out.ln; dsimp only at this; omega)⟩
            obtain ⟨b, off, hXA, hbB, hbr⟩ := (HS.out.n.below (HW2.out.trans (Hb2.out.mono HW2.out.size))).rowAt nodeV_len HS.out.ln hf
            subst hXA
            have Hst := Lib.hid (map_take_succ (fun x => (⟨(objL (nodeFs x)).toArray⟩ : ByteArray)) hf)
            have Hx := Lib.hid (G.out.node (List.mem_of_getElem? hf))
            have z0 : wr.cell? ⟨b, off + k * 3, none⟩ = some (.string x.name) := hbr 0 _ rfl
            have z1 : wr.cell? ⟨b, off + k * 3 + 1, none⟩ = some (.int .i64 x.room) := hbr 1 _ rfl
            have z2 : wr.cell? ⟨b, off + k * 3 + 2, none⟩ = some (.string x.zone) := hbr 2 _ rfl
            have hbl := block_lt_of_cell z0
            clear hbr hf
            go_wp2_with fail
            clear z0 z1 z2
            have hs0 : x.name.size ≤ 16 := by have := Hx.out; omega
            have hq0 : (quoteL x.name.data.toList).length ≤ 602 := quoteL_len _ (by omega)
            have hi1 : -1000 ≤ x.room ∧ x.room ≤ 1099511627776 := by have := Hx.out; omega
            have hq1 : (Lib.itoa x.room).length ≤ 20 := itoa_len _ (by omega) (by omega)
            have hs2 : x.zone.size ≤ 16 := by have := Hx.out; omega
            have hq2 : (quoteL x.zone.data.toList).length ≤ 602 := quoteL_len _ (by omega)
            have hne : (show TypeId from 43) ≠ 9 := by decide
            have hkn : k ≤ 40 := by omega
            obtain ⟨s0, hs0⟩ : ∃ s0 : ByteArray, ⟨([123, 34, 110, 97, 109, 101, 34, 58] ++ quoteL x.name.data.toList ++ [44, 34, 114, 111, 111, 109, 34, 58] ++ Lib.itoa x.room ++ [44, 34, 122, 111, 110, 101, 34, 58] ++ quoteL x.zone.data.toList ++ [125]).toArray⟩ = s0 := ⟨_, rfl⟩
            obtain ⟨l0, hl0⟩ : ∃ l0 : List ByteArray, ((nodes.take k).map fun x => (⟨(objL (nodeFs x)).toArray⟩ : ByteArray)) = l0 := ⟨_, rfl⟩
            have Hs0 := Lib.hid hs0
            have Hl0 := Lib.hid hl0
            rw [hl0] at Ho2
            clear hs0 hl0
            refine wp_region_phases (n := 124) (by kernel_rfl) (nodeRV wr.heap.size x k A2 c2) [16, 17] (RpAt w2.heap.size w2 wr.heap.size 43 #[.string x.name, .int .i64 x.room, .string x.zone] l0 s0 k A2 c2) ⟨0, none⟩ (by decide +kernel) (by decide +kernel) rfl ?_ ?_ ?_
            · exact ⟨(Hb2.out.alloc Hb2.out.size _).drew, Nat.le_refl _, Blk.alloc' _ _ rfl, fun _ => (Ho2.out.alloc _).drew, fun h => absurd h (by decide), fun _ => rfl, fun h => absurd h (by decide)⟩
            · refine ⟨?_, ?_, ?_, ?_, ?_, ?_, ?_, ?_, ?_, ?_, ?_, ?_, ?_, ?_, ?_, ?_, ?_, ?_, ?_, trivial⟩
              · refine ⟨rfl, .inr ⟨by decide, 0, 2, by decide +kernel, by decide +kernel, fun p γ a wx hpl hph hp hk => ?_⟩⟩
                have h1 := hk.1 6 _ rfl (by decide +kernel)
                simp [go_sem, Oper.wp, execOp, Act.eval, h1]
                exact ⟨_, rfl, rfl, hp⟩
              · refine ⟨rfl, .inr ⟨by decide, 0, 2, by decide +kernel, by decide +kernel, fun p γ a wx hpl hph hp hk => ?_⟩⟩
                have h1 := hk.1 11 _ rfl (by decide +kernel)
                simp [go_sem, Oper.wp, execOp, Act.eval, h1]
                exact ⟨_, rfl, rfl, hp⟩
              · refine ⟨rfl, .inr ⟨by decide, 0, 2, by decide +kernel, by decide +kernel, fun p γ a wx hpl hph hp hk => ?_⟩⟩
                obtain ⟨u1, h1, r1⟩ := hk.2.1 1 _ 63 rfl rfl (by decide +kernel)
                replace r1 : u1 = _ := r1
                subst r1
                have hc : wx.cell? ⟨wr.heap.size, 0, none⟩ = some (.string x.name) := hp.box.cell 0
                simp [go_sem, Oper.wp, execOp, Act.eval, h1, hc]
                exact ⟨_, rfl, rfl, hp⟩
              · refine ⟨rfl, .inr ⟨by decide, 0, 2, by decide +kernel, by decide +kernel, fun p γ a wx hpl hph hp hk => ?_⟩⟩
                obtain ⟨u1, h1, r1⟩ := hk.2.1 2 _ 64 rfl rfl (by decide +kernel)
                replace r1 : u1 = _ := r1
                subst r1
                simp [go_sem, Oper.wp, execOp, Act.eval, h1]
                refine (rQuote_any x.name wx (by omega)).mono ?_
                rintro e w' ⟨rfl, hb⟩
                exact ⟨_, rfl, StrIs.of (by omega), hp.up hb⟩
              · refine ⟨rfl, .inr ⟨by decide, 0, 2, by decide +kernel, by decide +kernel, fun p γ a wx hpl hph hp hk => ?_⟩⟩
                obtain ⟨u1, h1, t1, rfl, e1, n1⟩ := hk.2.1 3 _ 65 rfl rfl (by decide +kernel)
                have hc : ¬ 9223372036854775807 < 8 + t1.size := by omega
                simp [go_sem, Oper.wp, execOp, Act.eval, h1, hc]
                exact ⟨_, rfl, StrIs.pre e1 n1 [123, 34, 110, 97, 109, 101, 34, 58] (by simp), hp⟩
              · refine ⟨rfl, .inr ⟨by decide, 0, 2, by decide +kernel, by decide +kernel, fun p γ a wx hpl hph hp hk => ?_⟩⟩
                obtain ⟨u1, h1, t1, rfl, e1, n1⟩ := hk.2.1 4 _ 66 rfl rfl (by decide +kernel)
                have hc : ¬ 9223372036854775807 < t1.size + 8 := by omega
                simp [go_sem, Oper.wp, execOp, Act.eval, h1, hc]
                exact ⟨_, rfl, StrIs.post e1 n1 [44, 34, 114, 111, 111, 109, 34, 58] (by simp), hp⟩
              · refine ⟨rfl, .inr ⟨by decide, 0, 2, by decide +kernel, by decide +kernel, fun p γ a wx hpl hph hp hk => ?_⟩⟩
                have h1 := hk.1 11 _ rfl (by decide +kernel)
                simp [go_sem, Oper.wp, execOp, Act.eval, h1]
                exact ⟨_, rfl, rfl, hp⟩
              · refine ⟨rfl, .inr ⟨by decide, 0, 2, by decide +kernel, by decide +kernel, fun p γ a wx hpl hph hp hk => ?_⟩⟩
                obtain ⟨u1, h1, r1⟩ := hk.2.1 6 _ 68 rfl rfl (by decide +kernel)
                replace r1 : u1 = _ := r1
                subst r1
                have hc : wx.cell? ⟨wr.heap.size, 1, none⟩ = some (.int .i64 x.room) := hp.box.cell 1
                simp [go_sem, Oper.wp, execOp, Act.eval, h1, hc]
                exact ⟨_, rfl, rfl, hp⟩
              · refine ⟨rfl, .inr ⟨by decide, 0, 2, by decide +kernel, by decide +kernel, fun p γ a wx hpl hph hp hk => ?_⟩⟩
                obtain ⟨u1, h1, r1⟩ := hk.2.1 7 _ 69 rfl rfl (by decide +kernel)
                replace r1 : u1 = _ := r1
                subst r1
                simp [go_sem, Oper.wp, execOp, Act.eval, h1]
                refine (dig_any x.room wx (by omega) (by omega)).mono ?_
                rintro e w' ⟨rfl, hb⟩
                exact ⟨_, rfl, StrIs.of (by omega), hp.up hb⟩
              · refine ⟨rfl, .inr ⟨by decide, 0, 2, by decide +kernel, by decide +kernel, fun p γ a wx hpl hph hp hk => ?_⟩⟩
                obtain ⟨u1, h1, t1, rfl, e1, n1⟩ := hk.2.1 5 _ 67 rfl rfl (by decide +kernel)
                obtain ⟨u2, h2, t2, rfl, e2, n2⟩ := hk.2.1 8 _ 70 rfl rfl (by decide +kernel)
                have hc : ¬ 9223372036854775807 < t1.size + t2.size := by omega
                simp [go_sem, Oper.wp, execOp, Act.eval, h1, h2, hc]
                exact ⟨_, rfl, StrIs.cat e1 n1 e2 n2 (by omega), hp⟩
              · refine ⟨rfl, .inr ⟨by decide, 0, 2, by decide +kernel, by decide +kernel, fun p γ a wx hpl hph hp hk => ?_⟩⟩
                obtain ⟨u1, h1, t1, rfl, e1, n1⟩ := hk.2.1 9 _ 71 rfl rfl (by decide +kernel)
                have hc : ¬ 9223372036854775807 < t1.size + 8 := by omega
                simp [go_sem, Oper.wp, execOp, Act.eval, h1, hc]
                exact ⟨_, rfl, StrIs.post e1 n1 [44, 34, 122, 111, 110, 101, 34, 58] (by simp), hp⟩
              · refine ⟨rfl, .inr ⟨by decide, 0, 2, by decide +kernel, by decide +kernel, fun p γ a wx hpl hph hp hk => ?_⟩⟩
                have h1 := hk.1 11 _ rfl (by decide +kernel)
                simp [go_sem, Oper.wp, execOp, Act.eval, h1]
                exact ⟨_, rfl, rfl, hp⟩
              · refine ⟨rfl, .inr ⟨by decide, 0, 2, by decide +kernel, by decide +kernel, fun p γ a wx hpl hph hp hk => ?_⟩⟩
                obtain ⟨u1, h1, r1⟩ := hk.2.1 11 _ 73 rfl rfl (by decide +kernel)
                replace r1 : u1 = _ := r1
                subst r1
                have hc : wx.cell? ⟨wr.heap.size, 2, none⟩ = some (.string x.zone) := hp.box.cell 2
                simp [go_sem, Oper.wp, execOp, Act.eval, h1, hc]
                exact ⟨_, rfl, rfl, hp⟩
              · refine ⟨rfl, .inr ⟨by decide, 0, 2, by decide +kernel, by decide +kernel, fun p γ a wx hpl hph hp hk => ?_⟩⟩
                obtain ⟨u1, h1, r1⟩ := hk.2.1 12 _ 74 rfl rfl (by decide +kernel)
                replace r1 : u1 = _ := r1
                subst r1
                simp [go_sem, Oper.wp, execOp, Act.eval, h1]
                refine (rQuote_any x.zone wx (by omega)).mono ?_
                rintro e w' ⟨rfl, hb⟩
                exact ⟨_, rfl, StrIs.of (by omega), hp.up hb⟩
              · refine ⟨rfl, .inr ⟨by decide, 0, 2, by decide +kernel, by decide +kernel, fun p γ a wx hpl hph hp hk => ?_⟩⟩
                obtain ⟨u1, h1, t1, rfl, e1, n1⟩ := hk.2.1 10 _ 72 rfl rfl (by decide +kernel)
                obtain ⟨u2, h2, t2, rfl, e2, n2⟩ := hk.2.1 13 _ 75 rfl rfl (by decide +kernel)
                have hc : ¬ 9223372036854775807 < t1.size + t2.size := by omega
                simp [go_sem, Oper.wp, execOp, Act.eval, h1, h2, hc]
                exact ⟨_, rfl, StrIs.cat e1 n1 e2 n2 (by omega), hp⟩
              · refine ⟨rfl, .inr ⟨by decide, 0, 2, by decide +kernel, by decide +kernel, fun p γ a wx hpl hph hp hk => ?_⟩⟩
                obtain ⟨u1, h1, t1, rfl, e1, n1⟩ := hk.2.1 14 _ 76 rfl rfl (by decide +kernel)
                have hc : ¬ 9223372036854775807 < t1.size + 1 := by omega
                simp [go_sem, Oper.wp, execOp, Act.eval, h1, hc]
                exact ⟨_, rfl, StrIs.post e1 n1 [125] (by simp), hp⟩
              · refine ⟨rfl, .inl ⟨0, rfl, fun γ a wx hp hk => ?_⟩⟩
                obtain ⟨u1, h1, t1, rfl, e1, n1⟩ := hk.2.1 15 _ 77 rfl rfl (by decide +kernel)
                simp [go_sem, Oper.wp, execOp, Act.eval, h1]
                obtain rfl := (StrIs.ba e1).trans Hs0.out
                refine ⟨_, rfl, ⟨wx.heap.size, γ.q⟩, fun j v hj h => ?_, rfl, ⟨?_, hp.ge, hp.box.alloc _, fun _ => (hp.row (by decide)).alloc _, fun _ => heap_alloc_new wx _, fun _ => hp.none_ (by decide), fun h => absurd h (by decide)⟩⟩
                · exact nodeRV_tr hj h
                · exact hp.below.trans ((Below.refl _ _).alloc (Nat.le_trans hp.ge hp.below.size) _)
              · refine ⟨rfl, .inl ⟨1, rfl, fun γ a wx hp hk => ?_⟩⟩
                obtain ⟨u1, h1, r1⟩ := hk.2.1 0 _ 62 rfl rfl (by decide +kernel)
                replace r1 : u1 = _ := r1
                subst r1
                obtain ⟨u2, h2, r2⟩ := hk.2.1 16 _ 78 rfl rfl (by decide +kernel)
                replace r2 : u2 = _ := r2
                subst r2
                refine wp_push_rec strV _ _ 90 9 (.string ⟨#[]⟩) 1 16 rfl Tryz.underlying90 infoStrR rfl (by decide) strV_len strV_oneR w2.heap.size A2 k c2 l0 ?_ (hp.row (by decide)) s0 γ.g 1 (fun j v hj => ?_) ?_ (by omega) (by unfold maxLen; omega) (Nat.le_trans hp.ge hp.below.size) ?_
                · simp only [Act.eval, Array.getD_eq_getD_getElem?, h1, Option.getD_some]
                · rw [Nat.zero_add, (hp.lit rfl).cell j, List.getElem?_toArray]; exact hj
                · simp only [Act.eval, Array.getD_eq_getD_getElem?, h2, Option.getD_some]
                · intro A' c' w' ho hg
                  exact ⟨_, ⟨γ.g, some (A', c')⟩, rfl, fun j v hj h => nodeRV_tr2 (hp.none_ (by decide)) h, ⟨A', c', rfl, rfl⟩, ⟨hp.below.trans (hg.below (Nat.le_trans hp.ge hp.below.size) fun k hk => ((hp.row (by decide)).lt k hk).1), hp.ge, Blk.grewE hp.box hg (hp.row (by decide)) hne, fun h => absurd h (by decide), fun h => absurd h (by decide), fun h => absurd h (by decide), fun _ => ⟨A', c', rfl, ho⟩⟩⟩
              · refine ⟨rfl, .inr ⟨by decide, 0, 2, by decide +kernel, by decide +kernel, fun p γ a wx hpl hph hp hk => ?_⟩⟩
                obtain ⟨u1, h1, A', c', e1, rfl⟩ := hk.2.1 17 _ 79 rfl rfl (by decide +kernel)
                simp [go_sem, Oper.wp, execOp, Act.eval, h1]
                exact ⟨_, rfl, ⟨A', c', e1, rfl⟩, hp⟩
            · intro γ a wx hd
              have hp := hd.ph
              obtain ⟨fv, rfl, hfv⟩ := hd.frame [62, 63, 64, 65, 66, 67, 68, 69, 70, 71, 72, 73, 74, 75, 76, 77, 78, 79, 6] rfl
              obtain ⟨A', c', e1, h5⟩ := hfv 18 _ 6 rfl rfl
              obtain ⟨A2, c2, e2, ho⟩ := hp.new rfl
              rw [e1] at e2
              obtain ⟨rfl, rfl⟩ := Prod.mk.inj (Option.some.inj e2)
              have Ho2 := Lib.hid ho
              have Hb2 := Lib.hid hp.below
              clear hd hp hfv e1 e2 ho
              simp only [List.foldl_cons, List.foldl_nil, List.setIfInBounds_toArray, List.set_cons_succ, List.set_cons_zero, h5]
              clear h5
              go_wp2_with fail
              go_roundw
              case rel => exact ⟨A', c', k + 1, rfl, by go_num, by omega, by
                rw [Hst.out, Hl0.out, ← node_flat, Hs0.out]; exact Ho2.out, Hb2.out⟩
              case measure => simp [intOf]; omega
          · have hkn : nn = k := by omega
            have Hall := Lib.hid (show nodes.take k = nodes from List.take_of_length_le (by have := HS.out.ln; dsimp only at this; omega))
            rw [Hall.out] at Ho2
            clear hlt Hall hk
            subst hkn
            obtain ⟨w3, rfl⟩ : ∃ w3 : World, w3 = wr := ⟨_, rfl⟩
            have HW3 := Lib.hid (HW2.out.trans (Hb2.out.mono HW2.out.size))
            have HB4 := Lib.hid (HB3.out.below Hb2.out HB3.out.lt)
            have HO1 := Lib.hid (ownU_below Ho1.out Hb2.out)
            have x3 : w3.cell? ⟨w.heap.size, 3, none⟩ = some (.slice al nl cl) := HB4.out.cell 3
            clear HB3 Hb2 Ho1
            go_wp2_with fail
            clear x3
            go_loopw [7, 84] (fun v i wr => RpInv (fun x => objL (leaseFs x)) w3.heap.size leases nl w3 v i wr) (fun _ i _ => nl - (intOf i).toNat)
            case atStart => exact ⟨none, 0, 0, rfl, rfl, Nat.zero_le _, World.ownsRow_nil _ _ _ _, Below.refl _ _⟩
            case round =>
              obtain ⟨A3, c3, k, rfl, rfl, hk, ho, hb⟩ := hrel
              have Ho3 := Lib.hid ho
              have Hb3 := Lib.hid hb
              clear ho hb
              by_cases hlt : k < nl
              · obtain ⟨x, hf⟩ : ∃ x, leases[k]? = some x := ⟨_, List.getElem?_eq_getElem (by have := HS.out.ll; dsimp only at this; omega)⟩
                obtain ⟨b, off, hXA, hbB, hbr⟩ := (HS.out.l.below (HW3.out.trans (Hb3.out.mono HW3.out.size))).rowAt leaseV_len HS.out.ll hf
                subst hXA
                have Hst := Lib.hid (map_take_succ (fun x => (⟨(objL (leaseFs x)).toArray⟩ : ByteArray)) hf)
                have Hx := Lib.hid (G.out.lease (List.mem_of_getElem? hf))
                have z0 : wr.cell? ⟨b, off + k * 3, none⟩ = some (.string x.job) := hbr 0 _ rfl
                have z1 : wr.cell? ⟨b, off + k * 3 + 1, none⟩ = some (.string x.node) := hbr 1 _ rfl
                have z2 : wr.cell? ⟨b, off + k * 3 + 2, none⟩ = some (.int .i64 x.till) := hbr 2 _ rfl
                have hbl := block_lt_of_cell z0
                clear hbr hf
                go_wp2_with fail
                clear z0 z1 z2
                have hs0 : x.job.size ≤ 16 := by have := Hx.out; omega
                have hq0 : (quoteL x.job.data.toList).length ≤ 602 := quoteL_len _ (by omega)
                have hs1 : x.node.size ≤ 16 := by have := Hx.out; omega
                have hq1 : (quoteL x.node.data.toList).length ≤ 602 := quoteL_len _ (by omega)
                have hi2 : -1000 ≤ x.till ∧ x.till ≤ 1099511627776 := by have := Hx.out; omega
                have hq2 : (Lib.itoa x.till).length ≤ 20 := itoa_len _ (by omega) (by omega)
                have hne : (show TypeId from 47) ≠ 9 := by decide
                have hkn : k ≤ 40 := by omega
                obtain ⟨s0, hs0⟩ : ∃ s0 : ByteArray, ⟨([123, 34, 106, 111, 98, 34, 58] ++ quoteL x.job.data.toList ++ [44, 34, 110, 111, 100, 101, 34, 58] ++ quoteL x.node.data.toList ++ [44, 34, 117, 110, 116, 105, 108, 34, 58] ++ Lib.itoa x.till ++ [125]).toArray⟩ = s0 := ⟨_, rfl⟩
                obtain ⟨l0, hl0⟩ : ∃ l0 : List ByteArray, ((leases.take k).map fun x => (⟨(objL (leaseFs x)).toArray⟩ : ByteArray)) = l0 := ⟨_, rfl⟩
                have Hs0 := Lib.hid hs0
                have Hl0 := Lib.hid hl0
                rw [hl0] at Ho3
                clear hs0 hl0
                refine wp_region_phases (n := 124) (by kernel_rfl) (leaseRV wr.heap.size x k A3 c3) [16, 17] (RpAt w3.heap.size w3 wr.heap.size 47 #[.string x.job, .string x.node, .int .i64 x.till] l0 s0 k A3 c3) ⟨0, none⟩ (by decide +kernel) (by decide +kernel) rfl ?_ ?_ ?_
                · exact ⟨(Hb3.out.alloc Hb3.out.size _).drew, Nat.le_refl _, Blk.alloc' _ _ rfl, fun _ => (Ho3.out.alloc _).drew, fun h => absurd h (by decide), fun _ => rfl, fun h => absurd h (by decide)⟩
                · refine ⟨?_, ?_, ?_, ?_, ?_, ?_, ?_, ?_, ?_, ?_, ?_, ?_, ?_, ?_, ?_, ?_, ?_, ?_, ?_, trivial⟩
                  · refine ⟨rfl, .inr ⟨by decide, 0, 2, by decide +kernel, by decide +kernel, fun p γ a wx hpl hph hp hk => ?_⟩⟩
                    have h1 := hk.1 7 _ rfl (by decide +kernel)
                    simp [go_sem, Oper.wp, execOp, Act.eval, h1]
                    exact ⟨_, rfl, rfl, hp⟩
                  · refine ⟨rfl, .inr ⟨by decide, 0, 2, by decide +kernel, by decide +kernel, fun p γ a wx hpl hph hp hk => ?_⟩⟩
                    have h1 := hk.1 13 _ rfl (by decide +kernel)
                    simp [go_sem, Oper.wp, execOp, Act.eval, h1]
                    exact ⟨_, rfl, rfl, hp⟩
                  · refine ⟨rfl, .inr ⟨by decide, 0, 2, by decide +kernel, by decide +kernel, fun p γ a wx hpl hph hp hk => ?_⟩⟩
                    obtain ⟨u1, h1, r1⟩ := hk.2.1 1 _ 89 rfl rfl (by decide +kernel)
                    replace r1 : u1 = _ := r1
                    subst r1
                    have hc : wx.cell? ⟨wr.heap.size, 0, none⟩ = some (.string x.job) := hp.box.cell 0
                    simp [go_sem, Oper.wp, execOp, Act.eval, h1, hc]
                    exact ⟨_, rfl, rfl, hp⟩
                  · refine ⟨rfl, .inr ⟨by decide, 0, 2, by decide +kernel, by decide +kernel, fun p γ a wx hpl hph hp hk => ?_⟩⟩
                    obtain ⟨u1, h1, r1⟩ := hk.2.1 2 _ 90 rfl rfl (by decide +kernel)
                    replace r1 : u1 = _ := r1
                    subst r1
                    simp [go_sem, Oper.wp, execOp, Act.eval, h1]
                    refine (rQuote_any x.job wx (by omega)).mono ?_
                    rintro e w' ⟨rfl, hb⟩
                    exact ⟨_, rfl, StrIs.of (by omega), hp.up hb⟩
                  · refine ⟨rfl, .inr ⟨by decide, 0, 2, by decide +kernel, by decide +kernel, fun p γ a wx hpl hph hp hk => ?_⟩⟩
                    obtain ⟨u1, h1, t1, rfl, e1, n1⟩ := hk.2.1 3 _ 91 rfl rfl (by decide +kernel)
                    have hc : ¬ 9223372036854775807 < 7 + t1.size := by omega
                    simp [go_sem, Oper.wp, execOp, Act.eval, h1, hc]
                    exact ⟨_, rfl, StrIs.pre e1 n1 [123, 34, 106, 111, 98, 34, 58] (by simp), hp⟩
                  · refine ⟨rfl, .inr ⟨by decide, 0, 2, by decide +kernel, by decide +kernel, fun p γ a wx hpl hph hp hk => ?_⟩⟩
                    obtain ⟨u1, h1, t1, rfl, e1, n1⟩ := hk.2.1 4 _ 92 rfl rfl (by decide +kernel)
                    have hc : ¬ 9223372036854775807 < t1.size + 8 := by omega
                    simp [go_sem, Oper.wp, execOp, Act.eval, h1, hc]
                    exact ⟨_, rfl, StrIs.post e1 n1 [44, 34, 110, 111, 100, 101, 34, 58] (by simp), hp⟩
                  · refine ⟨rfl, .inr ⟨by decide, 0, 2, by decide +kernel, by decide +kernel, fun p γ a wx hpl hph hp hk => ?_⟩⟩
                    have h1 := hk.1 13 _ rfl (by decide +kernel)
                    simp [go_sem, Oper.wp, execOp, Act.eval, h1]
                    exact ⟨_, rfl, rfl, hp⟩
                  · refine ⟨rfl, .inr ⟨by decide, 0, 2, by decide +kernel, by decide +kernel, fun p γ a wx hpl hph hp hk => ?_⟩⟩
                    obtain ⟨u1, h1, r1⟩ := hk.2.1 6 _ 94 rfl rfl (by decide +kernel)
                    replace r1 : u1 = _ := r1
                    subst r1
                    have hc : wx.cell? ⟨wr.heap.size, 1, none⟩ = some (.string x.node) := hp.box.cell 1
                    simp [go_sem, Oper.wp, execOp, Act.eval, h1, hc]
                    exact ⟨_, rfl, rfl, hp⟩
                  · refine ⟨rfl, .inr ⟨by decide, 0, 2, by decide +kernel, by decide +kernel, fun p γ a wx hpl hph hp hk => ?_⟩⟩
                    obtain ⟨u1, h1, r1⟩ := hk.2.1 7 _ 95 rfl rfl (by decide +kernel)
                    replace r1 : u1 = _ := r1
                    subst r1
                    simp [go_sem, Oper.wp, execOp, Act.eval, h1]
                    refine (rQuote_any x.node wx (by omega)).mono ?_
                    rintro e w' ⟨rfl, hb⟩
                    exact ⟨_, rfl, StrIs.of (by omega), hp.up hb⟩
                  · refine ⟨rfl, .inr ⟨by decide, 0, 2, by decide +kernel, by decide +kernel, fun p γ a wx hpl hph hp hk => ?_⟩⟩
                    obtain ⟨u1, h1, t1, rfl, e1, n1⟩ := hk.2.1 5 _ 93 rfl rfl (by decide +kernel)
                    obtain ⟨u2, h2, t2, rfl, e2, n2⟩ := hk.2.1 8 _ 96 rfl rfl (by decide +kernel)
                    have hc : ¬ 9223372036854775807 < t1.size + t2.size := by omega
                    simp [go_sem, Oper.wp, execOp, Act.eval, h1, h2, hc]
                    exact ⟨_, rfl, StrIs.cat e1 n1 e2 n2 (by omega), hp⟩
                  · refine ⟨rfl, .inr ⟨by decide, 0, 2, by decide +kernel, by decide +kernel, fun p γ a wx hpl hph hp hk => ?_⟩⟩
                    obtain ⟨u1, h1, t1, rfl, e1, n1⟩ := hk.2.1 9 _ 97 rfl rfl (by decide +kernel)
                    have hc : ¬ 9223372036854775807 < t1.size + 9 := by omega
                    simp [go_sem, Oper.wp, execOp, Act.eval, h1, hc]
                    exact ⟨_, rfl, StrIs.post e1 n1 [44, 34, 117, 110, 116, 105, 108, 34, 58] (by simp), hp⟩
                  · refine ⟨rfl, .inr ⟨by decide, 0, 2, by decide +kernel, by decide +kernel, fun p γ a wx hpl hph hp hk => ?_⟩⟩
                    have h1 := hk.1 13 _ rfl (by decide +kernel)
                    simp [go_sem, Oper.wp, execOp, Act.eval, h1]
                    exact ⟨_, rfl, rfl, hp⟩
                  · refine ⟨rfl, .inr ⟨by decide, 0, 2, by decide +kernel, by decide +kernel, fun p γ a wx hpl hph hp hk => ?_⟩⟩
                    obtain ⟨u1, h1, r1⟩ := hk.2.1 11 _ 99 rfl rfl (by decide +kernel)
                    replace r1 : u1 = _ := r1
                    subst r1
                    have hc : wx.cell? ⟨wr.heap.size, 2, none⟩ = some (.int .i64 x.till) := hp.box.cell 2
                    simp [go_sem, Oper.wp, execOp, Act.eval, h1, hc]
                    exact ⟨_, rfl, rfl, hp⟩
                  · refine ⟨rfl, .inr ⟨by decide, 0, 2, by decide +kernel, by decide +kernel, fun p γ a wx hpl hph hp hk => ?_⟩⟩
                    obtain ⟨u1, h1, r1⟩ := hk.2.1 12 _ 100 rfl rfl (by decide +kernel)
                    replace r1 : u1 = _ := r1
                    subst r1
                    simp [go_sem, Oper.wp, execOp, Act.eval, h1]
                    refine (dig_any x.till wx (by omega) (by omega)).mono ?_
                    rintro e w' ⟨rfl, hb⟩
                    exact ⟨_, rfl, StrIs.of (by omega), hp.up hb⟩
                  · refine ⟨rfl, .inr ⟨by decide, 0, 2, by decide +kernel, by decide +kernel, fun p γ a wx hpl hph hp hk => ?_⟩⟩
                    obtain ⟨u1, h1, t1, rfl, e1, n1⟩ := hk.2.1 10 _ 98 rfl rfl (by decide +kernel)
                    obtain ⟨u2, h2, t2, rfl, e2, n2⟩ := hk.2.1 13 _ 101 rfl rfl (by decide +kernel)
                    have hc : ¬ 9223372036854775807 < t1.size + t2.size := by omega
                    simp [go_sem, Oper.wp, execOp, Act.eval, h1, h2, hc]
                    exact ⟨_, rfl, StrIs.cat e1 n1 e2 n2 (by omega), hp⟩
                  · refine ⟨rfl, .inr ⟨by decide, 0, 2, by decide +kernel, by decide +kernel, fun p γ a wx hpl hph hp hk => ?_⟩⟩
                    obtain ⟨u1, h1, t1, rfl, e1, n1⟩ := hk.2.1 14 _ 102 rfl rfl (by decide +kernel)
                    have hc : ¬ 9223372036854775807 < t1.size + 1 := by omega
                    simp [go_sem, Oper.wp, execOp, Act.eval, h1, hc]
                    exact ⟨_, rfl, StrIs.post e1 n1 [125] (by simp), hp⟩
                  · refine ⟨rfl, .inl ⟨0, rfl, fun γ a wx hp hk => ?_⟩⟩
                    obtain ⟨u1, h1, t1, rfl, e1, n1⟩ := hk.2.1 15 _ 103 rfl rfl (by decide +kernel)
                    simp [go_sem, Oper.wp, execOp, Act.eval, h1]
                    obtain rfl := (StrIs.ba e1).trans Hs0.out
                    refine ⟨_, rfl, ⟨wx.heap.size, γ.q⟩, fun j v hj h => ?_, rfl, ⟨?_, hp.ge, hp.box.alloc _, fun _ => (hp.row (by decide)).alloc _, fun _ => heap_alloc_new wx _, fun _ => hp.none_ (by decide), fun h => absurd h (by decide)⟩⟩
                    · exact leaseRV_tr hj h
                    · exact hp.below.trans ((Below.refl _ _).alloc (Nat.le_trans hp.ge hp.below.size) _)
                  · refine ⟨rfl, .inl ⟨1, rfl, fun γ a wx hp hk => ?_⟩⟩
                    obtain ⟨u1, h1, r1⟩ := hk.2.1 0 _ 88 rfl rfl (by decide +kernel)
                    replace r1 : u1 = _ := r1
                    subst r1
                    obtain ⟨u2, h2, r2⟩ := hk.2.1 16 _ 104 rfl rfl (by decide +kernel)
                    replace r2 : u2 = _ := r2
                    subst r2
                    refine wp_push_rec strV _ _ 90 9 (.string ⟨#[]⟩) 1 16 rfl Tryz.underlying90 infoStrR rfl (by decide) strV_len strV_oneR w3.heap.size A3 k c3 l0 ?_ (hp.row (by decide)) s0 γ.g 1 (fun j v hj => ?_) ?_ (by omega) (by unfold maxLen; omega) (Nat.le_trans hp.ge hp.below.size) ?_
                    · simp only [Act.eval, Array.getD_eq_getD_getElem?, h1, Option.getD_some]
                    · rw [Nat.zero_add, (hp.lit rfl).cell j, List.getElem?_toArray]; exact hj
                    · simp only [Act.eval, Array.getD_eq_getD_getElem?, h2, Option.getD_some]
                    · intro A' c' w' ho hg
                      exact ⟨_, ⟨γ.g, some (A', c')⟩, rfl, fun j v hj h => leaseRV_tr2 (hp.none_ (by decide)) h, ⟨A', c', rfl, rfl⟩, ⟨hp.below.trans (hg.below (Nat.le_trans hp.ge hp.below.size) fun k hk => ((hp.row (by decide)).lt k hk).1), hp.ge, Blk.grewE hp.box hg (hp.row (by decide)) hne, fun h => absurd h (by decide), fun h => absurd h (by decide), fun h => absurd h (by decide), fun _ => ⟨A', c', rfl, ho⟩⟩⟩
                  · refine ⟨rfl, .inr ⟨by decide, 0, 2, by decide +kernel, by decide +kernel, fun p γ a wx hpl hph hp hk => ?_⟩⟩
                    obtain ⟨u1, h1, A', c', e1, rfl⟩ := hk.2.1 17 _ 105 rfl rfl (by decide +kernel)
                    simp [go_sem, Oper.wp, execOp, Act.eval, h1]
                    exact ⟨_, rfl, ⟨A', c', e1, rfl⟩, hp⟩
                · intro γ a wx hd
                  have hp := hd.ph
                  obtain ⟨fv, rfl, hfv⟩ := hd.frame [88, 89, 90, 91, 92, 93, 94, 95, 96, 97, 98, 99, 100, 101, 102, 103, 104, 105, 7] rfl
                  obtain ⟨A', c', e1, h5⟩ := hfv 18 _ 7 rfl rfl
                  obtain ⟨A2, c2, e2, ho⟩ := hp.new rfl
                  rw [e1] at e2
                  obtain ⟨rfl, rfl⟩ := Prod.mk.inj (Option.some.inj e2)
                  have Ho2 := Lib.hid ho
                  have Hb2 := Lib.hid hp.below
                  clear hd hp hfv e1 e2 ho
                  simp only [List.foldl_cons, List.foldl_nil, List.setIfInBounds_toArray, List.set_cons_succ, List.set_cons_zero, h5]
                  clear h5
                  go_wp2_with fail
                  go_roundw
                  case rel => exact ⟨A', c', k + 1, rfl, by go_num, by omega, by
                    rw [Hst.out, Hl0.out, ← lease_flat, Hs0.out]; exact Ho2.out, Hb2.out⟩
                  case measure => simp [intOf]; omega
              · have hkn : nl = k := by omega
                have Hall := Lib.hid (show leases.take k = leases from List.take_of_length_le (by have := HS.out.ll; dsimp only at this; omega))
                rw [Hall.out] at Ho3
                clear hlt Hall hk
                subst hkn
                obtain ⟨w4, rfl⟩ : ∃ w4 : World, w4 = wr := ⟨_, rfl⟩
                have HW4 := Lib.hid (HW3.out.trans (Hb3.out.mono HW3.out.size))
                have HB5 := Lib.hid (HB4.out.below Hb3.out HB4.out.lt)
                have HP1 := Lib.hid (ownU_below HO1.out Hb3.out)
                have HP2 := Lib.hid (ownU_below Ho2.out Hb3.out)
                have y0 : w4.cell? ⟨w.heap.size, 0, none⟩ = some (.int .i64 rev) := HB5.out.cell 0
                clear HB4 Hb3 HO1 Ho2
                go_wp2_with fail
                refine Calls.mono (dig_any rev _ (by omega) (by omega)) ?_
                clear y0
                rintro e w5 ⟨rfl, hb5⟩
                obtain ⟨t0, ht0⟩ : ∃ t0 : ByteArray, ⟨(Lib.itoa rev).toArray⟩ = t0 := ⟨_, rfl⟩
                rw [ht0]
                have e0 : t0.data.toList = Lib.itoa rev := by subst ht0; simp
                have n0 : t0.size ≤ 20 := by subst ht0; show (Lib.itoa rev).toArray.size ≤ 20; rw [List.size_toArray]; exact itoa_len rev (by omega) (by omega)
                clear ht0
                have HP1' := Lib.hid (ownU_below HP1.out hb5)
                have HP2' := Lib.hid (ownU_below HP2.out hb5)
                have HP3' := Lib.hid (ownU_below Ho3.out hb5)
                have HW5 := Lib.hid (HW4.out.trans (hb5.mono HW4.out.size))
                have lj : jobs.length = nj := HS.out.lj
                have ln : nodes.length = nn := HS.out.ln
                have ll : leases.length = nl := HS.out.ll
                have J1 := Lib.hid (fun W ho => join_own w1.heap.size A1 nj c1 (jobs.map fun x => (⟨(objL (jobFs x)).toArray⟩ : ByteArray)) W ho (by rw [List.length_map, lj]) (by omega) (job_jlen G.out))
                have J2 := Lib.hid (fun W ho => join_own w2.heap.size A2 nn c2 (nodes.map fun x => (⟨(objL (nodeFs x)).toArray⟩ : ByteArray)) W ho (by rw [List.length_map, ln]) (by omega) (node_jlen G.out))
                have J3 := Lib.hid (fun W ho => join_own w3.heap.size A3 nl c3 (leases.map fun x => (⟨(objL (leaseFs x)).toArray⟩ : ByteArray)) W ho (by rw [List.length_map, ll]) (by omega) (lease_jlen G.out))
                rw [job_join ⟨rev, jobs, nodes, leases⟩] at J1
                rw [node_join ⟨rev, jobs, nodes, leases⟩] at J2
                rw [lease_join ⟨rev, jobs, nodes, leases⟩] at J3
                have E0 := Lib.hid e0
                clear e0 lj ln ll hb5 HP1 HP2 Ho3 HW4
                go_wp2_with fail
                refine Calls.mono (J1.out _ HP1'.out) ?_
                rintro e w6 ⟨⟨u1, rfl, t1, rfl, e1, n1⟩, hb6⟩
                have HP2 := Lib.hid (ownU_below HP2'.out hb6)
                have HP3 := Lib.hid (ownU_below HP3'.out hb6)
                have HW6 := Lib.hid (HW5.out.trans (hb6.mono HW5.out.size))
                have E1 := Lib.hid e1
                clear e1 hb6 HP2' HP3' HW5 HP1' J1
                go_wp2_with fail
                refine Calls.mono (J2.out _ HP2.out) ?_
                rintro e w7 ⟨⟨u2, rfl, t2, rfl, e2, n2⟩, hb7⟩
                have HP3' := Lib.hid (ownU_below HP3.out hb7)
                have HW7 := Lib.hid (HW6.out.trans (hb7.mono HW6.out.size))
                have E2 := Lib.hid e2
                clear e2 hb7 HP2 HP3 HW6 J2
                go_wp2_with fail
                refine Calls.mono (J3.out _ HP3'.out) ?_
                rintro e w8 ⟨⟨u3, rfl, t3, rfl, e3, n3⟩, hb8⟩
                have HW8 := Lib.hid (HW7.out.trans (hb8.mono HW7.out.size))
                have E3 := Lib.hid e3
                clear e3 hb8 HP3' HW7 J3
                go_wp2
                go_ret2
                refine Hf.out _ _ ?_ HW8.out
                have q1 : quoteL (⟨#[106, 111, 98, 115]⟩ : ByteArray).data.toList = [34, 106, 111, 98, 115, 34] := by decide
                have q2 : quoteL (⟨#[110, 111, 100, 101, 115]⟩ : ByteArray).data.toList = [34, 110, 111, 100, 101, 115, 34] := by decide
                have q3 : quoteL (⟨#[108, 101, 97, 115, 101, 115]⟩ : ByteArray).data.toList = [34, 108, 101, 97, 115, 101, 115, 34] := by decide
                simp only [ByteArray.toList_data_append, E0.out, E1.out, E2.out, E3.out, printL, arrL, q1, q2, q3]
                simp
  · obtain ⟨E, hE⟩ : ∃ E, checkE st = E := ⟨_, rfl⟩
    have Hf := Lib.hid (fun (W : World) (hb : Below w.heap.size w W) => (show PrPost st w (.returned (.tuple #[.string ⟨#[]⟩, .int .i64 E])) W from ⟨by unfold printF; rw [if_pos hc, hE], hb⟩))
    rw [hE] at H1 hc
    clear hb1 hB1 hS HS hE
    have e1 : (E == 0) = false := beq_eq_false_iff_ne.2 hc
    have e2 : (E != 0) = true := by simpa using hc
    clear hc
    obtain ⟨rev, jobs, nodes, leases⟩ := st
    obtain ⟨aj, nj, cj, an, nn, cn, al, nl, cl⟩ := x
    simp only [stC] at *
    go_enter Tryz.func24, Tryz.ntmps24
    go_wp2_with fail
    refine Calls.mono H1.out ?_
    rintro e w1 ⟨rfl, hb⟩
    have Hb2 := Lib.hid (Hb1.out.trans (hb.mono Hb1.out.size))
    clear hb
    go_wp2
    go_ret2
    exact Hf.out _ Hb2.out
end Go.Proofs.YtcodhhabfacnjaaGreatDoor
