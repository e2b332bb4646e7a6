/- Of the proof of a statement: NumRow, FolT. -/
import Derived.Test.YtjgnnobccecpeaaGreatDoorRFoSt
set_option linter.unusedVariables false
set_option linter.unusedSimpArgs false
set_option maxRecDepth 100000
set_option maxHeartbeats 8000000
/- A row of numbers of the call's own, whose whole block is numbers: what lies elsewhere and begins with a text stays. -/
namespace Go.Proofs.YtjgnnobccecpeaaGreatDoor
open Go.Lib (hid)
open Go.RowKit
theorem ints_len (l : List Int) : (ints l).length = l.length := by simp [ints]
theorem ints_app (l k : List Int) : ints (l ++ k) = ints l ++ ints k := by simp [ints]
theorem infoInt : (Tryz.prog.info? 3).map (fun i => (i.zero, i.size, i.bytes)) = some (some (.int .i64 0), 1, 8) := by kernel_rfl
theorem infoErrno : (Tryz.prog.info? 29).map (fun i => (i.zero, i.size, i.bytes)) = some (some (.int .i64 0), 1, 8) := by kernel_rfl
def NumRow (w : World) (B : Nat) (e : TypeId) (v : Value) (zs : List Int) : Prop :=
 (v = .slice none 0 0 ∧ zs = []) ∨ ∃ g more, v = .slice (some ⟨g, 0, none⟩) zs.length (zs ++ more).length ∧ B ≤ g ∧ (zs ++ more).length ≤ maxLen ∧ Blk w g e (ints (zs ++ more)).toArray
theorem NumRow.lt {w : World} {B : Nat} {e : TypeId} {v : Value} {zs : List Int} (h : NumRow w B e v zs) {g : Nat} (hg : v.ownBlock = some g) : B ≤ g ∧ g < w.heap.size := by
 rcases h with ⟨rfl, _⟩ | ⟨q, more, rfl, hB, _, hb⟩
 · cases hg
 · injection hg with hg
   subst hg
   exact ⟨hB, hb.lt⟩
theorem NumRow.keep {w w' : World} {B : Nat} {e : TypeId} {v : Value} {zs : List Int} (h : NumRow w B e v zs) (hk : ∀ g, v.ownBlock = some g → w'.heap[g]? = w.heap[g]?) : NumRow w' B e v zs := by
 rcases h with h | ⟨g, more, rfl, hB, hm, hb⟩
 · exact .inl h
 · exact .inr ⟨g, more, rfl, hB, hm, (hk g rfl).trans hb⟩
theorem ints_noStr (l : List Int) : ∀ v ∈ (ints l).toArray, ∀ s, v ≠ .string s := by
 intro v hv s e
 subst e
 simp [ints] at hv
theorem NumRow.slAt {w : World} {B : Nat} {e : TypeId} {v : Value} {zs : List Int} (h : NumRow w B e v zs) : ∃ A c, v = .slice A zs.length c ∧ SlAt w w.heap.size 1 A zs.length (ints zs) := by
 rcases h with ⟨rfl, rfl⟩ | ⟨g, more, rfl, hB, hm, hb⟩
 · exact ⟨none, 0, rfl, SlAt.nil⟩
 · refine ⟨_, _, rfl, ⟨by rw [ints_len, Nat.mul_one], fun _ => ⟨g, 0, rfl, hb.lt, fun j u hu => ?_⟩⟩⟩
   have := hb.cell (0 + j)
   rw [this, Nat.zero_add]
   simp only [List.getElem?_toArray]
   rw [ints_app, List.getElem?_append_left (List.getElem?_eq_some_iff.1 hu).1]
   exact hu
structure Pushed (w w' : World) (B : Nat) (v v' : Value) : Prop where
 grew : Grew w w' v v'
 text : ∀ (C sz n : Nat) (A : Option Addr) (xs : List Value), SlAt w C sz A n xs → (0 < n → ∃ s, xs[0]? = some (.string s)) → SlAt w' C sz A n xs
section
variable {P : Program} {w : World} {ops : Array Oper} {rest : List Oper} {o : Oper} {a : Act} {Q : Exit → Act → World → Prop}
theorem zero_ints (k : Nat) : Builtin.zeroCells (Value.cells (.int .i64 0)) k = (ints (List.replicate k 0)).toArray := by
 have h : ∀ k, (Builtin.zeroCells (Value.cells (.int .i64 0)) k).toList = ints (List.replicate k 0) := by
  intro k
  simp only [Builtin.zeroCells, Value.cells, ints, Array.toList_map, Array.toList_range, List.map_replicate]
  apply List.ext_getElem
  · simp
  · intro j h1 h2
    simp [Nat.mod_one]
 rw [← h k]
theorem below_text {w w' : World} (hb : Below w.heap.size w w') (C sz n : Nat) (A : Option Addr) (xs : List Value) (h : SlAt w C sz A n xs) : SlAt w' C sz A n xs :=
 ⟨h.len, fun hn => by
  obtain ⟨b, off, e, hB, hr⟩ := h.at_ hn
  refine ⟨b, off, e, hB, fun j u hu => ?_⟩
  have h1 := hr j u hu
  exact (hb.cell (p := ⟨b, off + j, none⟩) (by
   rcases Nat.lt_or_ge b w.heap.size with h' | h'
   · exact h'
   · simp [World.cell?, Array.getElem?_eq_none h'] at h1)).trans h1⟩
theorem run_push {t ty e : TypeId} {B : Nat} {v : Value} {zs : List Int} {x : Int} {i : TypeInfo} (ht : P.underlying t = some (.slice e)) (hi : P.info? e = some i) (hz : i.zero = some (.int .i64 0)) (hz1 : i.size = 1) (hz2 : i.bytes = 8) (hr : NumRow w B e v zs) (hB : B ≤ w.heap.size) (hm : zs.length ≤ 1048576) :
 ∃ v' w', (Builtin.append_ #[t, t] ty #[v, .slice (some ⟨w.heap.size, 0, none⟩) 1 1]).run P (w.alloc (.cells #[.int .i64 x] e)) = .ok v' w' ∧ NumRow w' B e v' (zs ++ [x]) ∧ Pushed w w' B v v' := by
 obtain ⟨w1, hw1⟩ : ∃ w1, w.alloc (.cells #[.int .i64 x] e) = w1 := ⟨_, rfl⟩
 have hs1 : w1.heap.size = w.heap.size + 1 := by rw [← hw1]; simp
 have hb1 : Below w.heap.size w w1 := by rw [← hw1]; exact (Below.refl _ _).alloc (Nat.le_refl _) _
 have hnew : ∀ j u, (ints [x])[j]? = some u → w1.cell? ((⟨w.heap.size, 0, none⟩ : Addr).add j) = some u := by rw [← hw1]; exact cell_one_new w _ e
 have hgc := fun old => grownCap_ge w1 (zs.length + 1) old e
 have hgm := fun old => grownCap_le_maxLen w1 (zs.length + 1) old e (by unfold maxLen; omega)
 have hnewrow : ∀ old, Pushed w (w1.drew.alloc (.cells ((ints (zs ++ [x])).toArray ++ Builtin.zeroCells (Value.cells (.int .i64 0)) (grownCap w1 (zs.length + 1) old e - (zs.length + 1))) e)) B v (.slice (some ⟨w1.heap.size, 0, none⟩) (zs.length + 1) (grownCap w1 (zs.length + 1) old e)) ∧
  NumRow (w1.drew.alloc (.cells ((ints (zs ++ [x])).toArray ++ Builtin.zeroCells (Value.cells (.int .i64 0)) (grownCap w1 (zs.length + 1) old e - (zs.length + 1))) e)) B e (.slice (some ⟨w1.heap.size, 0, none⟩) (zs.length + 1) (grownCap w1 (zs.length + 1) old e)) (zs ++ [x]) := by
  intro old
  obtain ⟨k, hk⟩ : ∃ k, grownCap w1 (zs.length + 1) old e = zs.length + 1 + k := ⟨_, (Nat.add_sub_cancel' (hgc old)).symm⟩
  have hgm' := hgm old
  rw [hk, Nat.add_sub_cancel_left, zero_ints] at *
  have hl : ((zs ++ [x]) ++ List.replicate k 0).length = zs.length + 1 + k := by simp; omega
  have hz : (zs ++ [x]).length = zs.length + 1 := by simp
  have hbz : Below w.heap.size w (w1.drew.alloc (.cells ((ints (zs ++ [x])).toArray ++ (ints (List.replicate k 0)).toArray) e)) := hb1.drew.alloc hb1.size _
  refine ⟨⟨⟨grow_of_below hbz, .inr ⟨w1.heap.size, rfl, by omega⟩⟩, fun C sz n A xs h _ => below_text hbz C sz n A xs h⟩, .inr ⟨w1.heap.size, List.replicate k 0, by rw [hl, hz], by omega, by rw [hl]; exact hgm', ?_⟩⟩
  have h := heap_alloc_new w1.drew (.cells ((ints (zs ++ [x])).toArray ++ (ints (List.replicate k 0)).toArray) e)
  rw [ints_app (zs ++ [x])]
  simpa [Blk] using h
 rw [hw1]
 rcases hr with ⟨rfl, rfl⟩ | ⟨g, more, rfl, hg, hcm, hb⟩
 · have hr := run_append_nil (P := P) w1 t ty e i _ ht hi hz ⟨w.heap.size, 0, none⟩ 1 1 (ints [x]) (by rw [hz1]; rfl) hnew (by omega) (by omega) (by omega)
   exact ⟨_, _, hr, (hnewrow 0).2, (hnewrow 0).1⟩
 · have hbw1 : Blk w1 g e (ints (zs ++ more)).toArray := hb.below hb1 hb.lt
   cases more with
   | cons y more =>
    have hr := run_append_room (P := P) w1 t ty e i ht hi g zs.length (zs ++ y :: more).length _ hbw1 ⟨w.heap.size, 0, none⟩ 1 1 (ints [x]) (by rw [hz1]; rfl) hnew (by intro u hu; simp [ints] at hu; subst hu; rfl) (by simp) (by simp [ints, hz1])
    have hcs : (((ints (zs ++ y :: more)).toArray.toList.take (zs.length * i.size) ++ ints [x] ++ (ints (zs ++ y :: more)).toArray.toList.drop (zs.length * i.size + (ints [x]).length)).toArray : Array Value) = (ints ((zs ++ [x]) ++ more)).toArray := by
     rw [hz1, Nat.mul_one]
     simp only [ints_app, List.append_assoc]
     congr 1
     rw [List.take_left' (ints_len zs)]
     congr 2
     rw [ints_len, show ([x] : List Int).length = 1 from rfl, ← ints_len zs, List.drop_append]
     simp [ints]
    rw [hcs] at hr
    have hgr : w1.grownBy (w1.setRow g (ints ((zs ++ [x]) ++ more)).toArray) (some g) := ⟨rfl, rfl, rfl, by simp, fun k _ hk => setRow_other w1 g k _ (fun e => hk (by simp [e]))⟩
    refine ⟨_, _, hr, .inr ⟨g, more, by simp, hg, by simpa using hcm, setRow_heap w1 g _ _ e _ hbw1⟩, ⟨⟨grow_of_grow hb1 hgr, .inl rfl⟩, fun C sz n A xs h h0 => ?_⟩⟩
    exact blk_noStr (below_text hb1 C sz n A xs h) hbw1 (ints_noStr _) h0 hgr
   | nil =>
    rw [List.append_nil] at *
    have hr := run_append_grow (P := P) w1 t ty e i _ ht hi hz ⟨g, 0, none⟩ zs.length zs.length (ints zs) (by rw [hz1, ints_len, Nat.mul_one]) (fun j u hu => by rw [Addr.add_lit]; have := hbw1.cell (0 + j); rw [this, Nat.zero_add]; simpa using hu) ⟨w.heap.size, 0, none⟩ 1 1 (ints [x]) (by rw [hz1]; rfl) hnew (by omega) (by omega) (growslice_fits (by omega) (by rw [hz2]; omega))
    rw [show (ints zs).toArray ++ (ints [x]).toArray = (ints (zs ++ [x])).toArray by rw [ints_app]; simp] at hr
    exact ⟨_, _, hr, (hnewrow zs.length).2, (hnewrow zs.length).1⟩
theorem push_num (hgd : o.guard = none) (s x : Operand) (t e : TypeId) (ho : o.op = .call { callee := .builtin .append, args := #[s, x], argTypes := #[t, t] }) (ht : P.underlying t = some (.slice e)) (hinfo : (P.info? e).map (fun i => (i.zero, i.size, i.bytes)) = some (some (.int .i64 0), 1, 8))
 (B : Nat) (v : Value) (zs : List Int) (hs : a.eval s = v) (hr : NumRow w B e v zs) (z : Int) (g : Nat) (hg : w.heap.size = g) (hx : a.eval x = .slice (some ⟨g, 0, none⟩) 1 1) (hm : zs.length ≤ 1048576) (hB : B ≤ w.heap.size)
 (h : ∀ v' w', NumRow w' B e v' (zs ++ [z]) → Pushed w w' B v v' → wpList P ops Q rest (a.put o.dst v') w') : wpList P ops Q (o :: rest) a (w.alloc (.cells #[.int .i64 z] e)) := by
 subst hg
 obtain ⟨i0, hi, hz0, hz1, hz2⟩ := info_parts hinfo
 obtain ⟨v', w', hrun, h1, h2⟩ := run_push (P := P) (w := w) (t := t) (ty := o.type) (x := z) ht hi hz0 hz1 hz2 hr hB hm
 refine wpList_plain hgd fun _ hK => ?_
 unfold Oper.wp execOp
 simp only [ho, resolve, invoke, builtin, Sem.run_bind, Sem.run_pure, Result.andThen_ok, List.map_toArray, List.map_cons, List.map_nil, hs, hx, hrun]
 exact hK _ _ (h v' w' h1 h2)
end
theorem StAt.pushed {w w' : World} {B C : Nat} {v v' : Value} {st : StateD} {x : StA} (h : StAt w C st x) (hp : Pushed w w' B v v') : StAt w' C st x :=
 ⟨hp.text _ _ _ _ _ h.j (fun hn => first_of JobD.name (fun a => ⟨_, rfl⟩) h.lj hn), hp.text _ _ _ _ _ h.n (fun hn => first_of NodeD.name (fun a => ⟨_, rfl⟩) h.ln hn), hp.text _ _ _ _ _ h.l (fun hn => first_of LeaseD.job (fun a => ⟨_, rfl⟩) h.ll hn),
  h.lj, h.ln, h.ll, h.bj, h.bn, h.bl, h.oj, h.on_, h.ol⟩
theorem Pushed.below {w w' : World} {B : Nat} {e : TypeId} {v v' : Value} {zs : List Int} (hr : NumRow w B e v zs) (hp : Pushed w w' B v v') (hB : B ≤ w.heap.size) : Below B w w' := hp.grew.below hB (fun _ hg => (hr.lt hg).1)
end Go.Proofs.YtjgnnobccecpeaaGreatDoor
/- Two rows of numbers of the call's own. -/
namespace Go.Proofs.YtjgnnobccecpeaaGreatDoor
open Go.Lib (hid)
open Go.RowKit
structure TwoAt (w : World) (B : Nat) (m e : Value) (ms es : List Int) : Prop where
 rm : NumRow w B 3 m ms
 re : NumRow w B 29 e es
 d : ∀ g, m.ownBlock = some g → e.ownBlock ≠ some g
theorem NumRow.grown2 {w w' : World} {B a b : Nat} {e : TypeId} {v : Value} {zs : List Int} (h : NumRow w B e v zs) (hg : Grown2 w w' a b) (ha : a < B) (hb : b < B) : NumRow w' B e v zs :=
 h.keep (fun g hgg => hg.block g (h.lt hgg).2 (by have := (h.lt hgg).1; omega) (by have := (h.lt hgg).1; omega))
theorem NumRow.below {w w' : World} {B : Nat} {e : TypeId} {v : Value} {zs : List Int} (h : NumRow w B e v zs) (hb : Below w.heap.size w w') : NumRow w' B e v zs := h.keep (fun g hgg => hb.block g (h.lt hgg).2)
theorem NumRow.grow {w w' : World} {B g : Nat} {e : TypeId} {v : Value} {zs : List Int} (h : NumRow w B e v zs) (hg : w.grownBy w' (some g)) (hB : g < B) : NumRow w' B e v zs :=
 h.keep (fun k hk => hg.block k (h.lt hk).2 (fun e => by injection e with e; have := (h.lt hk).1; omega))
theorem TwoAt.grown2 {w w' : World} {B a b : Nat} {m e : Value} {ms es : List Int} (h : TwoAt w B m e ms es) (hg : Grown2 w w' a b) (ha : a < B) (hb : b < B) : TwoAt w' B m e ms es := ⟨h.rm.grown2 hg ha hb, h.re.grown2 hg ha hb, h.d⟩
theorem TwoAt.below {w w' : World} {B : Nat} {m e : Value} {ms es : List Int} (h : TwoAt w B m e ms es) (hb : Below w.heap.size w w') : TwoAt w' B m e ms es := ⟨h.rm.below hb, h.re.below hb, h.d⟩
theorem TwoAt.grow {w w' : World} {B g : Nat} {m e : Value} {ms es : List Int} (h : TwoAt w B m e ms es) (hg : w.grownBy w' (some g)) (hB : g < B) : TwoAt w' B m e ms es := ⟨h.rm.grow hg hB, h.re.grow hg hB, h.d⟩
theorem TwoAt.nil (w : World) (B : Nat) : TwoAt w B (.slice none 0 0) (.slice none 0 0) [] [] := ⟨.inl ⟨rfl, rfl⟩, .inl ⟨rfl, rfl⟩, fun g h => by cases h⟩
theorem two_keep {w w' : World} {B : Nat} {t : TypeId} {u u' v : Value} {zs : List Int} (hv : NumRow w B t v zs) (g : Grew w w' u u') (d : ∀ g, u.ownBlock = some g → v.ownBlock ≠ some g) : NumRow w' B t v zs ∧ ∀ g, u'.ownBlock = some g → v.ownBlock ≠ some g := by
 constructor
 · exact hv.keep (fun k hk => g.grown.block k (hv.lt hk).2 (fun e => d k e.symm hk))
 · intro k hk e
   rcases g.own with h | ⟨q, h, hq⟩
   · exact d k (h ▸ hk) e
   · rw [h] at hk
     injection hk with hk
     have := (hv.lt e).2
     omega
theorem TwoAt.push {w w1 w2 : World} {B : Nat} {m e m' e' : Value} {ms es : List Int} {x y : Int} (h : TwoAt w B m e ms es) (h1 : NumRow w1 B 3 m' (ms ++ [x])) (p1 : Pushed w w1 B m m') (h2 : NumRow w2 B 29 e' (es ++ [y])) (p2 : Pushed w1 w2 B e e') : TwoAt w2 B m' e' (ms ++ [x]) (es ++ [y]) := by
 obtain ⟨k1, k2⟩ := two_keep h.re p1.grew h.d
 obtain ⟨k3, k4⟩ := two_keep h1 p2.grew (fun g h h' => k2 g h' h)
 exact ⟨k3, h2, fun g a b => k4 g b a⟩
def Okay (cur : Option StateD) : Prop := ∀ s, cur = some s → checkE s = 0
theorem decF_chk {b : ByteArray} {v : Int} {st : StateD} (h : decF b v = (st, 0)) : checkE st = 0 := by
 unfold decF at h
 split at h
 · injection h with h1 h2; omega
 · split at h
   · rename_i e _
     injection h with h1 h2
     subst h1
     decide
   · split at h
     · rename_i h0
       injection h with h1 h2
       subst h1; exact h0
     · rename_i h0
       injection h with h1 h2
       exact absurd h2 h0
theorem applyF_chk {s st : StateD} {d : DeltaD} (h : applyF s d = (st, 0)) : checkE st = 0 := by
 unfold applyF at h
 split at h
 · rename_i h0; injection h with h1 h2; exact absurd h2 h0
 · split at h
   · rename_i h0; injection h with h1 h2; exact absurd h2 h0
   · split at h
     · injection h with h1 h2; omega
     · split at h
       · injection h with h1 h2; omega
       · split at h
         · rename_i h0; injection h with h1 h2; exact absurd h2 h0
         · rename_i h0; injection h with h1 h2; subst h1; exact Classical.not_not.1 h0
end Go.Proofs.YtjgnnobccecpeaaGreatDoor
