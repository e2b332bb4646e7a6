/- Of the proof of a statement: RBetween. -/
import Derived.Test.YtjgnnobccecpeaaGreatDoorPBetween
set_option linter.unusedVariables false
set_option linter.unusedSimpArgs false
set_option maxRecDepth 100000
set_option maxHeartbeats 8000000
/- The walk of the reference's Between. -/
namespace Go.Proofs.YtjgnnobccecpeaaGreatDoor
open Go.Lib (hid)
open Go.RowKit
def RowK (w : World) (base B : Nat) (e : TypeId) (sz : Nat) (v : Value) (n : Nat) (xs : List Value) : Prop := w.ownsRow base e sz v n xs ∧ ∀ q, v.ownBlock = some q → q < B
theorem RowK.kept {w w' : World} {base B sz n : Nat} {e : TypeId} {v : Value} {xs : List Value} (h : RowK w base B e sz v n xs) (hb : Below w.heap.size w w') : RowK w' base B e sz v n xs := ⟨ownU_below h.1 hb, h.2⟩
theorem RowK.more {w : World} {base B B' sz n : Nat} {e : TypeId} {v : Value} {xs : List Value} (h : RowK w base B e sz v n xs) (hb : B ≤ B') : RowK w base B' e sz v n xs := ⟨h.1, fun q hq => Nat.lt_of_lt_of_le (h.2 q hq) hb⟩
theorem RowK.set {w : World} {base B sz n D i : Nat} {e : TypeId} {v u : Value} {xs : List Value} (h : RowK w base B e sz v n xs) (hD : D < base) : RowK (w.setCell ⟨D, i, none⟩ u) base B e sz v n xs := ⟨own_set_low h.1 hD, h.2⟩
theorem RowK.grew {w w' : World} {base B sz n : Nat} {e : TypeId} {v u u' : Value} {xs : List Value} (h : RowK w base B e sz v n xs) (hg : Grew w w' u u') (hu : ∀ k, u.ownBlock = some k → B ≤ k) : RowK w' base B e sz v n xs := by
 obtain ⟨⟨h1, h2 | ⟨q, cap, cur, hv, hq, hgq, r⟩⟩, hB⟩ := h
 · exact ⟨⟨h1, .inl h2⟩, hB⟩
 · have hlt : q < w.heap.size := (Array.getElem?_eq_some_iff.1 hgq).1
   have hqB := hB q (by rw [hv]; simp [Value.ownBlock])
   exact ⟨⟨h1, .inr ⟨q, cap, cur, hv, hq, (hg.grown.block q hlt (fun e1 => by have := hu q e1.symm; omega)).trans hgq, r⟩⟩, hB⟩
theorem RowK.of {w : World} {base b sz n : Nat} {e : TypeId} {v : Value} {xs : List Value} (h : w.ownsRow base e sz v n xs) (hb : b ≤ base) : RowK w b w.heap.size e sz v n xs := ⟨ownT_base h hb, fun q hq => (h.lt q hq).2⟩
theorem BtAt.grew {w0 w w' : World} {ca cb cd : Array Value} {v v' : Value} (h : BtAt w0 w ca cb cd) (hg : Grew w w' v v') (hv : ∀ k, v.ownBlock = some k → w0.heap.size + 4 ≤ k) : BtAt w0 w' ca cb cd :=
 have h4 : w0.heap.size + 4 ≤ w.heap.size := h.d.lt
 have hb := hg.below (B := w0.heap.size + 4) h4 hv
 ⟨h.below.trans (hb.mono (by omega)), h.a.below hb (by omega), h.b.below hb (by omega), h.r.below hb (by omega), h.d.below hb (by omega)⟩
theorem rbetween_any (a b : StateD) (x y : StA) (w : World) (hA : StAt w w.heap.size a x) (hB : StAt w w.heap.size b y) (h1 : x.nj ≤ 1000) (h2 : x.nn ≤ 1000) (h3 : x.nl ≤ 1000) (h4 : y.nj ≤ 1000) (h5 : y.nn ≤ 1000) (h6 : y.nl ≤ 1000) :
 Calls Tryz.prog 40 #[.agg (stC a x), .agg (stC b y)] w (BtPost a b w) := by
 obtain ⟨ra, ja, na, la⟩ := a
 obtain ⟨aj, nj, cj, an, nn, cn, al, nl, cl⟩ := x
 obtain ⟨rb, jb, nb, lb⟩ := b
 obtain ⟨bj, mj, dj, bn, mn, dn, bl, ml, dl⟩ := y
 unfold stC
 dsimp only at *
 obtain ⟨q1, q2, q3, q4, q5⟩ := four_blk w #[.int .i64 ra, .slice aj nj cj, .slice an nn cn, .slice al nl cl] #[.int .i64 rb, .slice bj mj dj, .slice bn mn dn, .slice bl ml dl] zDel #[.int .i64 ra, .int .i64 rb, .slice none 0 0, .slice none 0 0, .slice none 0 0, .slice none 0 0, .slice none 0 0, .slice none 0 0] (ta := 26) (tb := 26) (tc := 49) (td := 49)
 have H0 := hid (show BtAt w ((((w.alloc (.cells #[.int .i64 ra, .slice aj nj cj, .slice an nn cn, .slice al nl cl] 26)).alloc (.cells #[.int .i64 rb, .slice bj mj dj, .slice bn mn dn, .slice bl ml dl] 26)).alloc (.cells zDel 49)).alloc (.cells #[.int .i64 ra, .int .i64 rb, .slice none 0 0, .slice none 0 0, .slice none 0 0, .slice none 0 0, .slice none 0 0, .slice none 0 0] 49)) #[.int .i64 ra, .slice aj nj cj, .slice an nn cn, .slice al nl cl] #[.int .i64 rb, .slice bj mj dj, .slice bn mn dn, .slice bl ml dl] _ from ⟨q5, q1, q2, q3, q4⟩)
 have HA := hid hA
 have HB := hid hB
 have hsz0 : w.heap.size + 4 ≤ ((((w.alloc (.cells #[.int .i64 ra, .slice aj nj cj, .slice an nn cn, .slice al nl cl] 26)).alloc (.cells #[.int .i64 rb, .slice bj mj dj, .slice bn mn dn, .slice bl ml dl] 26)).alloc (.cells zDel 49)).alloc (.cells #[.int .i64 ra, .int .i64 rb, .slice none 0 0, .slice none 0 0, .slice none 0 0, .slice none 0 0, .slice none 0 0, .slice none 0 0] 49)).heap.size := by simp
 generalize hW0 : ((((w.alloc (.cells #[.int .i64 ra, .slice aj nj cj, .slice an nn cn, .slice al nl cl] 26)).alloc (.cells #[.int .i64 rb, .slice bj mj dj, .slice bn mn dn, .slice bl ml dl] 26)).alloc (.cells zDel 49)).alloc (.cells #[.int .i64 ra, .int .i64 rb, .slice none 0 0, .slice none 0 0, .slice none 0 0, .slice none 0 0, .slice none 0 0, .slice none 0 0] 49)) = W0 at H0 hsz0
 have HW0 := hid hW0
 clear q1 q2 q3 q4 q5 hA hB hW0
 go_enter Tryz.func40, Tryz.ntmps40
 have yb0 : W0.cell? ⟨w.heap.size + 1, 1, none⟩ = some (.slice bj mj dj) := H0.out.b.cell 1
 go_wp2
 rw [HW0.out]
 go_loopw [26] (fun i wr => ∃ (k : Nat) (A : Option Addr) (c : Nat) (l : List JobD), k ≤ mj ∧ i = .int .i64 k ∧ l = ((jb.take k).filter fun x => !ja.any (eqB x)) ∧ BtAt w wr #[.int .i64 ra, .slice aj nj cj, .slice an nn cn, .slice al nl cl] #[.int .i64 rb, .slice bj mj dj, .slice bn mn dn, .slice bl ml dl] #[.int .i64 ra, .int .i64 rb, .slice A l.length c, .slice none 0 0, .slice none 0 0, .slice none 0 0, .slice none 0 0, .slice none 0 0] ∧ W0.heap.size ≤ wr.heap.size ∧ wr.ownsRow W0.heap.size 38 5 (.slice A l.length c) l.length (rowsV jobV l)) (fun i _ => mj - (intOf i).toNat)
 case atStart => exact ⟨0, none, 0, [], Nat.zero_le _, rfl, by simp, H0.out, Nat.le_refl _, World.ownsRow_nil _ _ _ _⟩
 case round =>
  clear H0 yb0
  obtain ⟨k, A, c, l, hk, rfl, hl, hat, hwr, ho⟩ := hrel
  have HAt := hid hat
  have Ho := hid ho
  have HL := hid hl
  have hll : l.length ≤ k := by rw [hl]; exact filter_len _ _ _
  have hd4 := hat.d.lt
  clear hl ho
  have yo : wr.cell? ⟨w.heap.size, 1, none⟩ = some (.slice aj nj cj) := hat.a.cell 1
  have yd : wr.cell? ⟨w.heap.size + 3, 2, none⟩ = some (.slice A l.length c) := hat.d.cell 2
  by_cases hlt : k < mj
  · obtain ⟨r, hf⟩ : ∃ r, jb[k]? = some r := ⟨_, List.getElem?_eq_getElem (by have := HB.out.lj; dsimp only at this; omega)⟩
    obtain ⟨bb, off, hao, hbB, hc⟩ := (HB.out.j.below hat.below).rec_ jobV_len HB.out.lj hf
    dsimp only at hao
    subst hao
    have Hf := hid hf
    obtain ⟨name, prio, need, tries, tag⟩ := r
    obtain ⟨e0, e1, e2, e3, e4⟩ := rc5 hc
    have hbs := hat.below.size
    have hlb : bb < wr.heap.size := by omega
    have hX : Below wr.heap.size wr (wr.alloc (.cells #[.string name, .int .i64 prio, .int .i64 need, .int .i64 tries, .string tag] 38)) := (Below.refl _ _).alloc (Nat.le_refl _) _
    have HX := hid (show Blk (wr.alloc (.cells #[.string name, .int .i64 prio, .int .i64 need, .int .i64 tries, .string tag] 38)) wr.heap.size 38 #[.string name, .int .i64 prio, .int .i64 need, .int .i64 tries, .string tag] from heap_alloc_new wr _)
    have hAX := hat.kept hX
    have HAX := hid hAX
    have hl0 := hat.a.lt
    have hl1 := hat.b.lt
    have yo2 : (wr.alloc (.cells #[.string name, .int .i64 prio, .int .i64 need, .int .i64 tries, .string tag] 38)).cell? ⟨w.heap.size, 1, none⟩ = some (.slice aj nj cj) := hAX.a.cell 1
    have HOX := hid (ownU_below Ho.out hX)
    have HC := hid (rhas_job ⟨name, prio, need, tries, tag⟩ ja aj nj cj (wr.alloc (.cells #[.string name, .int .i64 prio, .int .i64 need, .int .i64 tries, .string tag] 38)) ((HA.out.j.below hAX.below).more hAX.below.size) HA.out.lj (by first | omega | (dsimp only; omega)))
    rw [show (Value.agg (jobV ⟨name, prio, need, tries, tag⟩).toArray) = .agg #[.string name, .int .i64 prio, .int .i64 need, .int .i64 tries, .string tag] from rfl] at HC
    clear hc hf hX hAX hat
    go_wp2_with fail
    refine Calls.mono HC.out ?_
    rintro e w3 ⟨rfl, hb3⟩
    have HA3 := hid (HAX.out.kept hb3)
    have HO3 := hid (ownU_below HOX.out hb3)
    have hX3 := HX.out.below hb3 HX.out.lt
    have hxl := hX3.lt
    have hd43 := HA3.out.d.lt
    have yd : w3.cell? ⟨w.heap.size + 3, 2, none⟩ = some (.slice A l.length c) := HA3.out.d.cell 2
    obtain ⟨j0, j1, j2, j3, j4⟩ := Blk.c5 (hX3)
    have hs3 := hb3.size
    rw [show (wr.alloc (.cells #[.string name, .int .i64 prio, .int .i64 need, .int .i64 tries, .string tag] 38)).heap.size = wr.heap.size + 1 by simp] at hs3
    clear hb3 HC HX HAX HOX hX3 e0 e1 e2 e3 e4 yo yo2
    cases hany : ja.any (eqB ⟨name, prio, need, tries, tag⟩)
    · have Hst := hid (filter_yes (p := fun x => !ja.any (eqB x)) Hf.out (by simp only [hany]; rfl))
      clear hany
      have hbr : W0.heap.size ≤ w3.heap.size := by omega
      go_wp2_with (at_builtin; refine push_rec jobV rfl _ _ 22 38 (.agg #[.string ⟨#[]⟩, .int .i64 0, .int .i64 0, .int .i64 0, .string ⟨#[]⟩]) 5 56 rfl Tryz.underlying22 infoJobT rfl (by decide) jobV_len jobV_oneT W0.heap.size _ _ _ l rfl HO3.out _ ⟨name, prio, need, tries, tag⟩ rfl _ (by simp) rfl (by omega) (by unfold maxLen; omega) hbr ?_; intro A2 c2 w4 ho4 hg4; have HA4 := HA3.out.grew hg4 (fun k hk => by have := (HO3.out.lt k hk).1; omega); have d1 : w4.cell? ⟨w.heap.size + 3, 2, none⟩ = some (.slice A l.length c) := HA4.d.cell 2; have z1 : w4.frozen? ⟨w.heap.size + 3, 2, none⟩ = false := HA4.d.thaw 2; have hd4 := HA4.d.lt)
      go_roundw
      case rel =>
       have hlen : (l ++ [(⟨name, prio, need, tries, tag⟩ : JobD)]).length = l.length + 1 := by simp
       have hat5 : BtAt w (w4.setCell ⟨w.heap.size + 3, 2, none⟩ (.slice A2 (l.length + 1) c2)) _ _ #[.int .i64 ra, .int .i64 rb, .slice A2 (l.length + 1) c2, .slice none 0 0, .slice none 0 0, .slice none 0 0, .slice none 0 0, .slice none 0 0] := HA4.set rfl
       have hbs4 := hg4.grown.size
       refine ⟨k + 1, A2, c2, (l ++ [(⟨name, prio, need, tries, tag⟩ : JobD)]), by omega, by go_num, by rw [Hst.out, ← HL.out], ?_, by simp [World.setCell]; omega, ?_⟩
       · rw [hlen]; exact hat5
       · rw [hlen]; exact own_set_low ho4 (by omega)
      case measure => simp [intOf]; omega
    · have Hst := hid (filter_no (p := fun x => !ja.any (eqB x)) Hf.out (by simp only [hany]; rfl))
      clear hany
      go_wp2
      go_roundw
      case rel => exact ⟨k + 1, A, c, l, by omega, by go_num, by rw [Hst.out, ← HL.out], HA3.out, by omega, HO3.out⟩
      case measure => simp [intOf]; omega
  · obtain rfl : mj = k := by omega
    have hnew : l = (newL ja jb) := by rw [HL.out, filter_all _ (by have := HB.out.lj; dsimp only at this; omega)]; rfl
    subst hnew
    clear HL
    have cS0_ := c
    obtain ⟨S0, hS0⟩ : ∃ s, s = A := ⟨_, rfl⟩
    obtain ⟨cS0, hc0⟩ : ∃ s, s = c := ⟨_, rfl⟩
    subst hS0
    subst hc0
    have HR0 := hid (RowK.of Ho.out (show w.heap.size + 4 ≤ W0.heap.size by omega))
    obtain ⟨wr0, hWn⟩ : ∃ W, W = wr := ⟨_, rfl⟩
    subst hWn
    have HT0 := HAt
    have yb1 : wr0.cell? ⟨w.heap.size + 1, 2, none⟩ = some (.slice bn mn dn) := hat.b.cell 2
    clear yo yd Ho HAt hat hlt hk hll hd4
    go_wp2
    go_loopw [45] (fun i wr => ∃ (k : Nat) (A : Option Addr) (c : Nat) (l : List NodeD), k ≤ mn ∧ i = .int .i64 k ∧ l = ((nb.take k).filter fun x => !na.any (eqB x)) ∧ BtAt w wr #[.int .i64 ra, .slice aj nj cj, .slice an nn cn, .slice al nl cl] #[.int .i64 rb, .slice bj mj dj, .slice bn mn dn, .slice bl ml dl] #[.int .i64 ra, .int .i64 rb, .slice S0 (newL ja jb).length cS0, .slice A l.length c, .slice none 0 0, .slice none 0 0, .slice none 0 0, .slice none 0 0] ∧ wr0.heap.size ≤ wr.heap.size ∧ wr.ownsRow wr0.heap.size 40 3 (.slice A l.length c) l.length (rowsV nodeV l) ∧ RowK wr (w.heap.size + 4) wr0.heap.size 38 5 (.slice S0 (newL ja jb).length cS0) (newL ja jb).length (rowsV jobV (newL ja jb))) (fun i _ => mn - (intOf i).toNat)
    case atStart => exact ⟨0, none, 0, [], Nat.zero_le _, rfl, by simp, HT0.out, Nat.le_refl _, World.ownsRow_nil _ _ _ _, HR0.out⟩
    case round =>
     clear HT0 yb1 HR0
     obtain ⟨k, A, c, l, hk, rfl, hl, hat, hwr, ho, hr0⟩ := hrel
     have HAt := hid hat
     have Ho := hid ho
     have HL := hid hl
     have hll : l.length ≤ k := by rw [hl]; exact filter_len _ _ _
     have hd4 := hat.d.lt
     have HR0 := hid hr0
     clear hl ho hr0
     have yo : wr.cell? ⟨w.heap.size, 2, none⟩ = some (.slice an nn cn) := hat.a.cell 2
     have yd : wr.cell? ⟨w.heap.size + 3, 3, none⟩ = some (.slice A l.length c) := hat.d.cell 3
     by_cases hlt : k < mn
     · obtain ⟨r, hf⟩ : ∃ r, nb[k]? = some r := ⟨_, List.getElem?_eq_getElem (by have := HB.out.ln; dsimp only at this; omega)⟩
       obtain ⟨bb, off, hao, hbB, hc⟩ := (HB.out.n.below hat.below).rec_ nodeV_len HB.out.ln hf
       dsimp only at hao
       subst hao
       have Hf := hid hf
       obtain ⟨name, room, zone⟩ := r
       obtain ⟨e0, e1, e2⟩ := rc3 hc
       have hbs := hat.below.size
       have hlb : bb < wr.heap.size := by omega
       have hX : Below wr.heap.size wr (wr.alloc (.cells #[.string name, .int .i64 room, .string zone] 40)) := (Below.refl _ _).alloc (Nat.le_refl _) _
       have HX := hid (show Blk (wr.alloc (.cells #[.string name, .int .i64 room, .string zone] 40)) wr.heap.size 40 #[.string name, .int .i64 room, .string zone] from heap_alloc_new wr _)
       have hAX := hat.kept hX
       have HAX := hid hAX
       have hl0 := hat.a.lt
       have hl1 := hat.b.lt
       have yo2 : (wr.alloc (.cells #[.string name, .int .i64 room, .string zone] 40)).cell? ⟨w.heap.size, 2, none⟩ = some (.slice an nn cn) := hAX.a.cell 2
       have HOX := hid (ownU_below Ho.out hX)
       have HR0 := hid (HR0.out.kept hX)
       have HC := hid (rhas_node ⟨name, room, zone⟩ na an nn cn (wr.alloc (.cells #[.string name, .int .i64 room, .string zone] 40)) ((HA.out.n.below hAX.below).more hAX.below.size) HA.out.ln (by first | omega | (dsimp only; omega)))
       rw [show (Value.agg (nodeV ⟨name, room, zone⟩).toArray) = .agg #[.string name, .int .i64 room, .string zone] from rfl] at HC
       clear hc hf hX hAX hat
       go_wp2_with fail
       refine Calls.mono HC.out ?_
       rintro e w3 ⟨rfl, hb3⟩
       have HA3 := hid (HAX.out.kept hb3)
       have HO3 := hid (ownU_below HOX.out hb3)
       have hX3 := HX.out.below hb3 HX.out.lt
       have hxl := hX3.lt
       have hd43 := HA3.out.d.lt
       have yd : w3.cell? ⟨w.heap.size + 3, 3, none⟩ = some (.slice A l.length c) := HA3.out.d.cell 3
       have HR0 := hid (HR0.out.kept hb3)
       have j0 : w3.cell? ⟨wr.heap.size, 0, none⟩ = some (.string name) := hX3.cell 0
       have j1 : w3.cell? ⟨wr.heap.size, 1, none⟩ = some (.int .i64 room) := hX3.cell 1
       have j2 : w3.cell? ⟨wr.heap.size, 2, none⟩ = some (.string zone) := hX3.cell 2
       have hs3 := hb3.size
       rw [show (wr.alloc (.cells #[.string name, .int .i64 room, .string zone] 40)).heap.size = wr.heap.size + 1 by simp] at hs3
       clear hb3 HC HX HAX HOX hX3 e0 e1 e2 yo yo2
       cases hany : na.any (eqB ⟨name, room, zone⟩)
       · have Hst := hid (filter_yes (p := fun x => !na.any (eqB x)) Hf.out (by simp only [hany]; rfl))
         clear hany
         have hbr : wr0.heap.size ≤ w3.heap.size := by omega
         go_wp2_with (at_builtin; refine push_rec nodeV rfl _ _ 23 40 (.agg #[.string ⟨#[]⟩, .int .i64 0, .string ⟨#[]⟩]) 3 40 rfl Tryz.underlying23 infoNodeT rfl (by decide) nodeV_len nodeV_oneT wr0.heap.size _ _ _ l rfl HO3.out _ ⟨name, room, zone⟩ rfl _ (by simp) rfl (by omega) (by unfold maxLen; omega) hbr ?_; intro A2 c2 w4 ho4 hg4; have HA4 := HA3.out.grew hg4 (fun k hk => by have := (HO3.out.lt k hk).1; omega); have d1 : w4.cell? ⟨w.heap.size + 3, 3, none⟩ = some (.slice A l.length c) := HA4.d.cell 3; have z1 : w4.frozen? ⟨w.heap.size + 3, 3, none⟩ = false := HA4.d.thaw 3; have hd4 := HA4.d.lt)
         go_roundw
         case rel =>
          have hlen : (l ++ [(⟨name, room, zone⟩ : NodeD)]).length = l.length + 1 := by simp
          have hat5 : BtAt w (w4.setCell ⟨w.heap.size + 3, 3, none⟩ (.slice A2 (l.length + 1) c2)) _ _ #[.int .i64 ra, .int .i64 rb, .slice S0 (newL ja jb).length cS0, .slice A2 (l.length + 1) c2, .slice none 0 0, .slice none 0 0, .slice none 0 0, .slice none 0 0] := HA4.set rfl
          have hbs4 := hg4.grown.size
          refine ⟨k + 1, A2, c2, (l ++ [(⟨name, room, zone⟩ : NodeD)]), by omega, by go_num, by rw [Hst.out, ← HL.out], ?_, by simp [World.setCell]; omega, ?_, (HR0.out.grew hg4 (fun k hk => (HO3.out.lt k hk).1)).set (by omega)⟩
          · rw [hlen]; exact hat5
          · rw [hlen]; exact own_set_low ho4 (by omega)
         case measure => simp [intOf]; omega
       · have Hst := hid (filter_no (p := fun x => !na.any (eqB x)) Hf.out (by simp only [hany]; rfl))
         clear hany
         go_wp2
         go_roundw
         case rel => exact ⟨k + 1, A, c, l, by omega, by go_num, by rw [Hst.out, ← HL.out], HA3.out, by omega, HO3.out, HR0.out⟩
         case measure => simp [intOf]; omega
     · obtain rfl : mn = k := by omega
       have hnew : l = (newL na nb) := by rw [HL.out, filter_all _ (by have := HB.out.ln; dsimp only at this; omega)]; rfl
       subst hnew
       clear HL
       have cS1_ := c
       obtain ⟨S1, hS1⟩ : ∃ s, s = A := ⟨_, rfl⟩
       obtain ⟨cS1, hc1⟩ : ∃ s, s = c := ⟨_, rfl⟩
       subst hS1
       subst hc1
       have HR1 := hid (RowK.of Ho.out (show w.heap.size + 4 ≤ wr0.heap.size by omega))
       have HR0 := hid (HR0.out.more hwr)
       obtain ⟨wr1, hWn⟩ : ∃ W, W = wr := ⟨_, rfl⟩
       subst hWn
       have HT1 := HAt
       have yb2 : wr1.cell? ⟨w.heap.size + 1, 3, none⟩ = some (.slice bl ml dl) := hat.b.cell 3
       clear yo yd Ho HAt hat hlt hk hll hd4
       go_wp2
       go_loopw [64] (fun i wr => ∃ (k : Nat) (A : Option Addr) (c : Nat) (l : List LeaseD), k ≤ ml ∧ i = .int .i64 k ∧ l = ((lb.take k).filter fun x => !la.any (eqB x)) ∧ BtAt w wr #[.int .i64 ra, .slice aj nj cj, .slice an nn cn, .slice al nl cl] #[.int .i64 rb, .slice bj mj dj, .slice bn mn dn, .slice bl ml dl] #[.int .i64 ra, .int .i64 rb, .slice S0 (newL ja jb).length cS0, .slice S1 (newL na nb).length cS1, .slice A l.length c, .slice none 0 0, .slice none 0 0, .slice none 0 0] ∧ wr1.heap.size ≤ wr.heap.size ∧ wr.ownsRow wr1.heap.size 42 3 (.slice A l.length c) l.length (rowsV leaseV l) ∧ RowK wr (w.heap.size + 4) wr1.heap.size 38 5 (.slice S0 (newL ja jb).length cS0) (newL ja jb).length (rowsV jobV (newL ja jb)) ∧ RowK wr (w.heap.size + 4) wr1.heap.size 40 3 (.slice S1 (newL na nb).length cS1) (newL na nb).length (rowsV nodeV (newL na nb))) (fun i _ => ml - (intOf i).toNat)
       case atStart => exact ⟨0, none, 0, [], Nat.zero_le _, rfl, by simp, HT1.out, Nat.le_refl _, World.ownsRow_nil _ _ _ _, HR0.out, HR1.out⟩
       case round =>
        clear HT1 yb2 HR0 HR1
        obtain ⟨k, A, c, l, hk, rfl, hl, hat, hwr, ho, hr0, hr1⟩ := hrel
        have HAt := hid hat
        have Ho := hid ho
        have HL := hid hl
        have hll : l.length ≤ k := by rw [hl]; exact filter_len _ _ _
        have hd4 := hat.d.lt
        have HR0 := hid hr0
        have HR1 := hid hr1
        clear hl ho hr0 hr1
        have yo : wr.cell? ⟨w.heap.size, 3, none⟩ = some (.slice al nl cl) := hat.a.cell 3
        have yd : wr.cell? ⟨w.heap.size + 3, 4, none⟩ = some (.slice A l.length c) := hat.d.cell 4
        by_cases hlt : k < ml
        · obtain ⟨r, hf⟩ : ∃ r, lb[k]? = some r := ⟨_, List.getElem?_eq_getElem (by have := HB.out.ll; dsimp only at this; omega)⟩
          obtain ⟨bb, off, hao, hbB, hc⟩ := (HB.out.l.below hat.below).rec_ leaseV_len HB.out.ll hf
          dsimp only at hao
          subst hao
          have Hf := hid hf
          obtain ⟨job, node, till⟩ := r
          obtain ⟨e0, e1, e2⟩ := rc3 hc
          have hbs := hat.below.size
          have hlb : bb < wr.heap.size := by omega
          have hX : Below wr.heap.size wr (wr.alloc (.cells #[.string job, .string node, .int .i64 till] 42)) := (Below.refl _ _).alloc (Nat.le_refl _) _
          have HX := hid (show Blk (wr.alloc (.cells #[.string job, .string node, .int .i64 till] 42)) wr.heap.size 42 #[.string job, .string node, .int .i64 till] from heap_alloc_new wr _)
          have hAX := hat.kept hX
          have HAX := hid hAX
          have hl0 := hat.a.lt
          have hl1 := hat.b.lt
          have yo2 : (wr.alloc (.cells #[.string job, .string node, .int .i64 till] 42)).cell? ⟨w.heap.size, 3, none⟩ = some (.slice al nl cl) := hAX.a.cell 3
          have HOX := hid (ownU_below Ho.out hX)
          have HR0 := hid (HR0.out.kept hX)
          have HR1 := hid (HR1.out.kept hX)
          have HC := hid (rhas_lease ⟨job, node, till⟩ la al nl cl (wr.alloc (.cells #[.string job, .string node, .int .i64 till] 42)) ((HA.out.l.below hAX.below).more hAX.below.size) HA.out.ll (by first | omega | (dsimp only; omega)))
          rw [show (Value.agg (leaseV ⟨job, node, till⟩).toArray) = .agg #[.string job, .string node, .int .i64 till] from rfl] at HC
          clear hc hf hX hAX hat
          go_wp2_with fail
          refine Calls.mono HC.out ?_
          rintro e w3 ⟨rfl, hb3⟩
          have HA3 := hid (HAX.out.kept hb3)
          have HO3 := hid (ownU_below HOX.out hb3)
          have hX3 := HX.out.below hb3 HX.out.lt
          have hxl := hX3.lt
          have hd43 := HA3.out.d.lt
          have yd : w3.cell? ⟨w.heap.size + 3, 4, none⟩ = some (.slice A l.length c) := HA3.out.d.cell 4
          have HR0 := hid (HR0.out.kept hb3)
          have HR1 := hid (HR1.out.kept hb3)
          have j0 : w3.cell? ⟨wr.heap.size, 0, none⟩ = some (.string job) := hX3.cell 0
          have j1 : w3.cell? ⟨wr.heap.size, 1, none⟩ = some (.string node) := hX3.cell 1
          have j2 : w3.cell? ⟨wr.heap.size, 2, none⟩ = some (.int .i64 till) := hX3.cell 2
          have hs3 := hb3.size
          rw [show (wr.alloc (.cells #[.string job, .string node, .int .i64 till] 42)).heap.size = wr.heap.size + 1 by simp] at hs3
          clear hb3 HC HX HAX HOX hX3 e0 e1 e2 yo yo2
          cases hany : la.any (eqB ⟨job, node, till⟩)
          · have Hst := hid (filter_yes (p := fun x => !la.any (eqB x)) Hf.out (by simp only [hany]; rfl))
            clear hany
            have hbr : wr1.heap.size ≤ w3.heap.size := by omega
            go_wp2_with (at_builtin; refine push_rec leaseV rfl _ _ 24 42 (.agg #[.string ⟨#[]⟩, .string ⟨#[]⟩, .int .i64 0]) 3 40 rfl Tryz.underlying24 infoLeaseT rfl (by decide) leaseV_len leaseV_oneT wr1.heap.size _ _ _ l rfl HO3.out _ ⟨job, node, till⟩ rfl _ (by simp) rfl (by omega) (by unfold maxLen; omega) hbr ?_; intro A2 c2 w4 ho4 hg4; have HA4 := HA3.out.grew hg4 (fun k hk => by have := (HO3.out.lt k hk).1; omega); have d1 : w4.cell? ⟨w.heap.size + 3, 4, none⟩ = some (.slice A l.length c) := HA4.d.cell 4; have z1 : w4.frozen? ⟨w.heap.size + 3, 4, none⟩ = false := HA4.d.thaw 4; have hd4 := HA4.d.lt)
            go_roundw
            case rel =>
             have hlen : (l ++ [(⟨job, node, till⟩ : LeaseD)]).length = l.length + 1 := by simp
             have hat5 : BtAt w (w4.setCell ⟨w.heap.size + 3, 4, none⟩ (.slice A2 (l.length + 1) c2)) _ _ #[.int .i64 ra, .int .i64 rb, .slice S0 (newL ja jb).length cS0, .slice S1 (newL na nb).length cS1, .slice A2 (l.length + 1) c2, .slice none 0 0, .slice none 0 0, .slice none 0 0] := HA4.set rfl
             have hbs4 := hg4.grown.size
             refine ⟨k + 1, A2, c2, (l ++ [(⟨job, node, till⟩ : LeaseD)]), by omega, by go_num, by rw [Hst.out, ← HL.out], ?_, by simp [World.setCell]; omega, ?_, (HR0.out.grew hg4 (fun k hk => (HO3.out.lt k hk).1)).set (by omega), (HR1.out.grew hg4 (fun k hk => (HO3.out.lt k hk).1)).set (by omega)⟩
             · rw [hlen]; exact hat5
             · rw [hlen]; exact own_set_low ho4 (by omega)
            case measure => simp [intOf]; omega
          · have Hst := hid (filter_no (p := fun x => !la.any (eqB x)) Hf.out (by simp only [hany]; rfl))
            clear hany
            go_wp2
            go_roundw
            case rel => exact ⟨k + 1, A, c, l, by omega, by go_num, by rw [Hst.out, ← HL.out], HA3.out, by omega, HO3.out, HR0.out, HR1.out⟩
            case measure => simp [intOf]; omega
        · obtain rfl : ml = k := by omega
          have hnew : l = (newL la lb) := by rw [HL.out, filter_all _ (by have := HB.out.ll; dsimp only at this; omega)]; rfl
          subst hnew
          clear HL
          have cS2_ := c
          obtain ⟨S2, hS2⟩ : ∃ s, s = A := ⟨_, rfl⟩
          obtain ⟨cS2, hc2⟩ : ∃ s, s = c := ⟨_, rfl⟩
          subst hS2
          subst hc2
          have HR2 := hid (RowK.of Ho.out (show w.heap.size + 4 ≤ wr1.heap.size by omega))
          have HR0 := hid (HR0.out.more hwr)
          have HR1 := hid (HR1.out.more hwr)
          obtain ⟨wr2, hWn⟩ : ∃ W, W = wr := ⟨_, rfl⟩
          subst hWn
          have HT2 := HAt
          have yb3 : wr2.cell? ⟨w.heap.size, 1, none⟩ = some (.slice aj nj cj) := hat.a.cell 1
          clear yo yd Ho HAt hat hlt hk hll hd4
          go_wp2
          go_loopw [83] (fun i wr => ∃ (k : Nat) (A : Option Addr) (c : Nat) (l : List ByteArray), k ≤ nj ∧ i = .int .i64 k ∧ l = (((ja.take k).filter fun x => !jb.any fun y => decide (JobD.name y = JobD.name x)).map JobD.name) ∧ BtAt w wr #[.int .i64 ra, .slice aj nj cj, .slice an nn cn, .slice al nl cl] #[.int .i64 rb, .slice bj mj dj, .slice bn mn dn, .slice bl ml dl] #[.int .i64 ra, .int .i64 rb, .slice S0 (newL ja jb).length cS0, .slice S1 (newL na nb).length cS1, .slice S2 (newL la lb).length cS2, .slice A l.length c, .slice none 0 0, .slice none 0 0] ∧ wr2.heap.size ≤ wr.heap.size ∧ wr.ownsRow wr2.heap.size 9 1 (.slice A l.length c) l.length (rowsV strV l) ∧ RowK wr (w.heap.size + 4) wr2.heap.size 38 5 (.slice S0 (newL ja jb).length cS0) (newL ja jb).length (rowsV jobV (newL ja jb)) ∧ RowK wr (w.heap.size + 4) wr2.heap.size 40 3 (.slice S1 (newL na nb).length cS1) (newL na nb).length (rowsV nodeV (newL na nb)) ∧ RowK wr (w.heap.size + 4) wr2.heap.size 42 3 (.slice S2 (newL la lb).length cS2) (newL la lb).length (rowsV leaseV (newL la lb))) (fun i _ => nj - (intOf i).toNat)
          case atStart => exact ⟨0, none, 0, [], Nat.zero_le _, rfl, by simp, HT2.out, Nat.le_refl _, World.ownsRow_nil _ _ _ _, HR0.out, HR1.out, HR2.out⟩
          case round =>
           clear HT2 yb3 HR0 HR1 HR2
           obtain ⟨k, A, c, l, hk, rfl, hl, hat, hwr, ho, hr0, hr1, hr2⟩ := hrel
           have HAt := hid hat
           have Ho := hid ho
           have HL := hid hl
           have hll : l.length ≤ k := by rw [hl, List.length_map]; exact filter_len _ _ _
           have hd4 := hat.d.lt
           have HR0 := hid hr0
           have HR1 := hid hr1
           have HR2 := hid hr2
           clear hl ho hr0 hr1 hr2
           have yo : wr.cell? ⟨w.heap.size + 1, 1, none⟩ = some (.slice bj mj dj) := hat.b.cell 1
           have yd : wr.cell? ⟨w.heap.size + 3, 5, none⟩ = some (.slice A l.length c) := hat.d.cell 5
           by_cases hlt : k < nj
           · obtain ⟨r, hf⟩ : ∃ r, ja[k]? = some r := ⟨_, List.getElem?_eq_getElem (by have := HA.out.lj; dsimp only at this; omega)⟩
             obtain ⟨bb, off, hao, hbB, hc⟩ := (HA.out.j.below hat.below).rec_ jobV_len HA.out.lj hf
             dsimp only at hao
             subst hao
             have Hf := hid hf
             obtain ⟨name, prio, need, tries, tag⟩ := r
             obtain ⟨e0, e1, e2, e3, e4⟩ := rc5 hc
             have hbs := hat.below.size
             have hlb : bb < wr.heap.size := by omega
             have hX : Below wr.heap.size wr (wr.alloc (.cells #[.string name, .int .i64 prio, .int .i64 need, .int .i64 tries, .string tag] 38)) := (Below.refl _ _).alloc (Nat.le_refl _) _
             have HX := hid (show Blk (wr.alloc (.cells #[.string name, .int .i64 prio, .int .i64 need, .int .i64 tries, .string tag] 38)) wr.heap.size 38 #[.string name, .int .i64 prio, .int .i64 need, .int .i64 tries, .string tag] from heap_alloc_new wr _)
             have hAX := hat.kept hX
             have HAX := hid hAX
             have hl0 := hat.a.lt
             have hl1 := hat.b.lt
             have yo2 : (wr.alloc (.cells #[.string name, .int .i64 prio, .int .i64 need, .int .i64 tries, .string tag] 38)).cell? ⟨w.heap.size + 1, 1, none⟩ = some (.slice bj mj dj) := hAX.b.cell 1
             have HOX := hid (ownU_below Ho.out hX)
             have HR0 := hid (HR0.out.kept hX)
             have HR1 := hid (HR1.out.kept hX)
             have HR2 := hid (HR2.out.kept hX)
             have HC := hid (jobAt_any jb name bj mj dj (wr.alloc (.cells #[.string name, .int .i64 prio, .int .i64 need, .int .i64 tries, .string tag] 38)) ((HB.out.j.below hAX.below).more hAX.below.size) HB.out.lj (by first | omega | (dsimp only; omega)))
             have Hst := hid (goneL_step (key := JobD.name) (b := jb) hf)
             have Hfa := hid (find_any JobD.name name jb)
             clear hc hf hX hAX hat
             go_wp2_with fail
             refine Calls.mono HC.out ?_
             rintro e w3 ⟨ix, rfl, hb3, hcase⟩
             have HA3 := hid (HAX.out.kept hb3)
             have HO3 := hid (ownU_below HOX.out hb3)
             have hX3 := HX.out.below hb3 HX.out.lt
             have hxl := hX3.lt
             have hd43 := HA3.out.d.lt
             have yd : w3.cell? ⟨w.heap.size + 3, 5, none⟩ = some (.slice A l.length c) := HA3.out.d.cell 5
             have HR0 := hid (HR0.out.kept hb3)
             have HR1 := hid (HR1.out.kept hb3)
             have HR2 := hid (HR2.out.kept hb3)
             obtain ⟨j0, j1, j2, j3, j4⟩ := Blk.c5 (hX3)
             have hs3 := hb3.size
             rw [show (wr.alloc (.cells #[.string name, .int .i64 prio, .int .i64 need, .int .i64 tries, .string tag] 38)).heap.size = wr.heap.size + 1 by simp] at hs3
             clear hb3 HC HX HAX HOX hX3 e0 e1 e2 e3 e4 yo yo2
             unfold jobOf at hcase
             rcases hcase with ⟨rfl, hno⟩ | ⟨kk, xx, rfl, hxx, hso⟩
             · have hany : (jb.any fun y => decide (JobD.name y = name)) = false := by rw [← Hfa.out, hno]; rfl
               have Hs := hid (Hst.out.1 hany)
               clear hany hno
               have hbr : wr2.heap.size ≤ w3.heap.size := by omega
               go_wp2_with (at_builtin; refine push_rec strV rfl _ _ 47 9 (.string ⟨#[]⟩) 1 16 rfl Tryz.underlying47 infoStrT rfl (by decide) strV_len strV_oneT wr2.heap.size _ _ _ l rfl HO3.out _ name rfl _ (by simp) rfl (by omega) (by unfold maxLen; omega) hbr ?_; intro A2 c2 w4 ho4 hg4; have HA4 := HA3.out.grew hg4 (fun k hk => by have := (HO3.out.lt k hk).1; omega); have d1 : w4.cell? ⟨w.heap.size + 3, 5, none⟩ = some (.slice A l.length c) := HA4.d.cell 5; have z1 : w4.frozen? ⟨w.heap.size + 3, 5, none⟩ = false := HA4.d.thaw 5; have hd4 := HA4.d.lt)
               go_roundw
               case rel =>
                have hlen : (l ++ [name]).length = l.length + 1 := by simp
                have hat5 : BtAt w (w4.setCell ⟨w.heap.size + 3, 5, none⟩ (.slice A2 (l.length + 1) c2)) _ _ #[.int .i64 ra, .int .i64 rb, .slice S0 (newL ja jb).length cS0, .slice S1 (newL na nb).length cS1, .slice S2 (newL la lb).length cS2, .slice A2 (l.length + 1) c2, .slice none 0 0, .slice none 0 0] := HA4.set rfl
                have hbs4 := hg4.grown.size
                refine ⟨k + 1, A2, c2, (l ++ [name]), by omega, by go_num, by rw [HL.out]; exact Hs.out.symm, ?_, by simp [World.setCell]; omega, ?_, (HR0.out.grew hg4 (fun k hk => (HO3.out.lt k hk).1)).set (by omega), (HR1.out.grew hg4 (fun k hk => (HO3.out.lt k hk).1)).set (by omega), (HR2.out.grew hg4 (fun k hk => (HO3.out.lt k hk).1)).set (by omega)⟩
                · rw [hlen]; exact hat5
                · rw [hlen]; exact own_set_low ho4 (by omega)
               case measure => simp [intOf]; omega
             · have hany : (jb.any fun y => decide (JobD.name y = name)) = true := by rw [← Hfa.out, hso]; rfl
               have Hs := hid (Hst.out.2 hany)
               have d0 : decide ((kk : Int) < 0) = false := decide_eq_false (by omega)
               clear hany hso
               go_wp2
               go_roundw
               case rel => exact ⟨k + 1, A, c, l, by omega, by go_num, by rw [HL.out]; exact Hs.out.symm, HA3.out, by omega, HO3.out, HR0.out, HR1.out, HR2.out⟩
               case measure => simp [intOf]; omega
           · obtain rfl : nj = k := by omega
             have hnew : l = (goneL JobD.name ja jb) := by rw [HL.out, filter_all _ (by have := HA.out.lj; dsimp only at this; omega)]; rfl
             subst hnew
             clear HL
             have cG0_ := c
             obtain ⟨G0, hS3⟩ : ∃ s, s = A := ⟨_, rfl⟩
             obtain ⟨cG0, hc3⟩ : ∃ s, s = c := ⟨_, rfl⟩
             subst hS3
             subst hc3
             have HR3 := hid (RowK.of Ho.out (show w.heap.size + 4 ≤ wr2.heap.size by omega))
             have HR0 := hid (HR0.out.more hwr)
             have HR1 := hid (HR1.out.more hwr)
             have HR2 := hid (HR2.out.more hwr)
             obtain ⟨wr3, hWn⟩ : ∃ W, W = wr := ⟨_, rfl⟩
             subst hWn
             have HT3 := HAt
             have yb4 : wr3.cell? ⟨w.heap.size, 2, none⟩ = some (.slice an nn cn) := hat.a.cell 2
             clear yo yd Ho HAt hat hlt hk hll hd4
             go_wp2
             go_loopw [104] (fun i wr => ∃ (k : Nat) (A : Option Addr) (c : Nat) (l : List ByteArray), k ≤ nn ∧ i = .int .i64 k ∧ l = (((na.take k).filter fun x => !nb.any fun y => decide (NodeD.name y = NodeD.name x)).map NodeD.name) ∧ BtAt w wr #[.int .i64 ra, .slice aj nj cj, .slice an nn cn, .slice al nl cl] #[.int .i64 rb, .slice bj mj dj, .slice bn mn dn, .slice bl ml dl] #[.int .i64 ra, .int .i64 rb, .slice S0 (newL ja jb).length cS0, .slice S1 (newL na nb).length cS1, .slice S2 (newL la lb).length cS2, .slice G0 (goneL JobD.name ja jb).length cG0, .slice A l.length c, .slice none 0 0] ∧ wr3.heap.size ≤ wr.heap.size ∧ wr.ownsRow wr3.heap.size 9 1 (.slice A l.length c) l.length (rowsV strV l) ∧ RowK wr (w.heap.size + 4) wr3.heap.size 38 5 (.slice S0 (newL ja jb).length cS0) (newL ja jb).length (rowsV jobV (newL ja jb)) ∧ RowK wr (w.heap.size + 4) wr3.heap.size 40 3 (.slice S1 (newL na nb).length cS1) (newL na nb).length (rowsV nodeV (newL na nb)) ∧ RowK wr (w.heap.size + 4) wr3.heap.size 42 3 (.slice S2 (newL la lb).length cS2) (newL la lb).length (rowsV leaseV (newL la lb)) ∧ RowK wr (w.heap.size + 4) wr3.heap.size 9 1 (.slice G0 (goneL JobD.name ja jb).length cG0) (goneL JobD.name ja jb).length (rowsV strV (goneL JobD.name ja jb))) (fun i _ => nn - (intOf i).toNat)
             case atStart => exact ⟨0, none, 0, [], Nat.zero_le _, rfl, by simp, HT3.out, Nat.le_refl _, World.ownsRow_nil _ _ _ _, HR0.out, HR1.out, HR2.out, HR3.out⟩
             case round =>
              clear HT3 yb4 HR0 HR1 HR2 HR3
              obtain ⟨k, A, c, l, hk, rfl, hl, hat, hwr, ho, hr0, hr1, hr2, hr3⟩ := hrel
              have HAt := hid hat
              have Ho := hid ho
              have HL := hid hl
              have hll : l.length ≤ k := by rw [hl, List.length_map]; exact filter_len _ _ _
              have hd4 := hat.d.lt
              have HR0 := hid hr0
              have HR1 := hid hr1
              have HR2 := hid hr2
              have HR3 := hid hr3
              clear hl ho hr0 hr1 hr2 hr3
              have yo : wr.cell? ⟨w.heap.size + 1, 2, none⟩ = some (.slice bn mn dn) := hat.b.cell 2
              have yd : wr.cell? ⟨w.heap.size + 3, 6, none⟩ = some (.slice A l.length c) := hat.d.cell 6
              by_cases hlt : k < nn
              · obtain ⟨r, hf⟩ : ∃ r, na[k]? = some r := ⟨_, List.getElem?_eq_getElem (by have := HA.out.ln; dsimp only at this; omega)⟩
                obtain ⟨bb, off, hao, hbB, hc⟩ := (HA.out.n.below hat.below).rec_ nodeV_len HA.out.ln hf
                dsimp only at hao
                subst hao
                have Hf := hid hf
                obtain ⟨name, room, zone⟩ := r
                obtain ⟨e0, e1, e2⟩ := rc3 hc
                have hbs := hat.below.size
                have hlb : bb < wr.heap.size := by omega
                have hX : Below wr.heap.size wr (wr.alloc (.cells #[.string name, .int .i64 room, .string zone] 40)) := (Below.refl _ _).alloc (Nat.le_refl _) _
                have HX := hid (show Blk (wr.alloc (.cells #[.string name, .int .i64 room, .string zone] 40)) wr.heap.size 40 #[.string name, .int .i64 room, .string zone] from heap_alloc_new wr _)
                have hAX := hat.kept hX
                have HAX := hid hAX
                have hl0 := hat.a.lt
                have hl1 := hat.b.lt
                have yo2 : (wr.alloc (.cells #[.string name, .int .i64 room, .string zone] 40)).cell? ⟨w.heap.size + 1, 2, none⟩ = some (.slice bn mn dn) := hAX.b.cell 2
                have HOX := hid (ownU_below Ho.out hX)
                have HR0 := hid (HR0.out.kept hX)
                have HR1 := hid (HR1.out.kept hX)
                have HR2 := hid (HR2.out.kept hX)
                have HR3 := hid (HR3.out.kept hX)
                have HC := hid (nodeAt_any nb name bn mn dn (wr.alloc (.cells #[.string name, .int .i64 room, .string zone] 40)) ((HB.out.n.below hAX.below).more hAX.below.size) HB.out.ln (by first | omega | (dsimp only; omega)))
                have Hst := hid (goneL_step (key := NodeD.name) (b := nb) hf)
                have Hfa := hid (find_any NodeD.name name nb)
                clear hc hf hX hAX hat
                go_wp2_with fail
                refine Calls.mono HC.out ?_
                rintro e w3 ⟨ix, rfl, hb3, hcase⟩
                have HA3 := hid (HAX.out.kept hb3)
                have HO3 := hid (ownU_below HOX.out hb3)
                have hX3 := HX.out.below hb3 HX.out.lt
                have hxl := hX3.lt
                have hd43 := HA3.out.d.lt
                have yd : w3.cell? ⟨w.heap.size + 3, 6, none⟩ = some (.slice A l.length c) := HA3.out.d.cell 6
                have HR0 := hid (HR0.out.kept hb3)
                have HR1 := hid (HR1.out.kept hb3)
                have HR2 := hid (HR2.out.kept hb3)
                have HR3 := hid (HR3.out.kept hb3)
                have j0 : w3.cell? ⟨wr.heap.size, 0, none⟩ = some (.string name) := hX3.cell 0
                have j1 : w3.cell? ⟨wr.heap.size, 1, none⟩ = some (.int .i64 room) := hX3.cell 1
                have j2 : w3.cell? ⟨wr.heap.size, 2, none⟩ = some (.string zone) := hX3.cell 2
                have hs3 := hb3.size
                rw [show (wr.alloc (.cells #[.string name, .int .i64 room, .string zone] 40)).heap.size = wr.heap.size + 1 by simp] at hs3
                clear hb3 HC HX HAX HOX hX3 e0 e1 e2 yo yo2
                unfold nodeOf at hcase
                rcases hcase with ⟨rfl, hno⟩ | ⟨kk, xx, rfl, hxx, hso⟩
                · have hany : (nb.any fun y => decide (NodeD.name y = name)) = false := by rw [← Hfa.out, hno]; rfl
                  have Hs := hid (Hst.out.1 hany)
                  clear hany hno
                  have hbr : wr3.heap.size ≤ w3.heap.size := by omega
                  go_wp2_with (at_builtin; refine push_rec strV rfl _ _ 47 9 (.string ⟨#[]⟩) 1 16 rfl Tryz.underlying47 infoStrT rfl (by decide) strV_len strV_oneT wr3.heap.size _ _ _ l rfl HO3.out _ name rfl _ (by simp) rfl (by omega) (by unfold maxLen; omega) hbr ?_; intro A2 c2 w4 ho4 hg4; have HA4 := HA3.out.grew hg4 (fun k hk => by have := (HO3.out.lt k hk).1; omega); have d1 : w4.cell? ⟨w.heap.size + 3, 6, none⟩ = some (.slice A l.length c) := HA4.d.cell 6; have z1 : w4.frozen? ⟨w.heap.size + 3, 6, none⟩ = false := HA4.d.thaw 6; have hd4 := HA4.d.lt)
                  go_roundw
                  case rel =>
                   have hlen : (l ++ [name]).length = l.length + 1 := by simp
                   have hat5 : BtAt w (w4.setCell ⟨w.heap.size + 3, 6, none⟩ (.slice A2 (l.length + 1) c2)) _ _ #[.int .i64 ra, .int .i64 rb, .slice S0 (newL ja jb).length cS0, .slice S1 (newL na nb).length cS1, .slice S2 (newL la lb).length cS2, .slice G0 (goneL JobD.name ja jb).length cG0, .slice A2 (l.length + 1) c2, .slice none 0 0] := HA4.set rfl
                   have hbs4 := hg4.grown.size
                   refine ⟨k + 1, A2, c2, (l ++ [name]), by omega, by go_num, by rw [HL.out]; exact Hs.out.symm, ?_, by simp [World.setCell]; omega, ?_, (HR0.out.grew hg4 (fun k hk => (HO3.out.lt k hk).1)).set (by omega), (HR1.out.grew hg4 (fun k hk => (HO3.out.lt k hk).1)).set (by omega), (HR2.out.grew hg4 (fun k hk => (HO3.out.lt k hk).1)).set (by omega), (HR3.out.grew hg4 (fun k hk => (HO3.out.lt k hk).1)).set (by omega)⟩
                   · rw [hlen]; exact hat5
                   · rw [hlen]; exact own_set_low ho4 (by omega)
                  case measure => simp [intOf]; omega
                · have hany : (nb.any fun y => decide (NodeD.name y = name)) = true := by rw [← Hfa.out, hso]; rfl
                  have Hs := hid (Hst.out.2 hany)
                  have d0 : decide ((kk : Int) < 0) = false := decide_eq_false (by omega)
                  clear hany hso
                  go_wp2
                  go_roundw
                  case rel => exact ⟨k + 1, A, c, l, by omega, by go_num, by rw [HL.out]; exact Hs.out.symm, HA3.out, by omega, HO3.out, HR0.out, HR1.out, HR2.out, HR3.out⟩
                  case measure => simp [intOf]; omega
              · obtain rfl : nn = k := by omega
                have hnew : l = (goneL NodeD.name na nb) := by rw [HL.out, filter_all _ (by have := HA.out.ln; dsimp only at this; omega)]; rfl
                subst hnew
                clear HL
                have cG1_ := c
                obtain ⟨G1, hS4⟩ : ∃ s, s = A := ⟨_, rfl⟩
                obtain ⟨cG1, hc4⟩ : ∃ s, s = c := ⟨_, rfl⟩
                subst hS4
                subst hc4
                have HR4 := hid (RowK.of Ho.out (show w.heap.size + 4 ≤ wr3.heap.size by omega))
                have HR0 := hid (HR0.out.more hwr)
                have HR1 := hid (HR1.out.more hwr)
                have HR2 := hid (HR2.out.more hwr)
                have HR3 := hid (HR3.out.more hwr)
                obtain ⟨wr4, hWn⟩ : ∃ W, W = wr := ⟨_, rfl⟩
                subst hWn
                have HT4 := HAt
                have yb5 : wr4.cell? ⟨w.heap.size, 3, none⟩ = some (.slice al nl cl) := hat.a.cell 3
                clear yo yd Ho HAt hat hlt hk hll hd4
                go_wp2
                go_loopw [125] (fun i wr => ∃ (k : Nat) (A : Option Addr) (c : Nat) (l : List ByteArray), k ≤ nl ∧ i = .int .i64 k ∧ l = (((la.take k).filter fun x => !lb.any fun y => decide (LeaseD.job y = LeaseD.job x)).map LeaseD.job) ∧ BtAt w wr #[.int .i64 ra, .slice aj nj cj, .slice an nn cn, .slice al nl cl] #[.int .i64 rb, .slice bj mj dj, .slice bn mn dn, .slice bl ml dl] #[.int .i64 ra, .int .i64 rb, .slice S0 (newL ja jb).length cS0, .slice S1 (newL na nb).length cS1, .slice S2 (newL la lb).length cS2, .slice G0 (goneL JobD.name ja jb).length cG0, .slice G1 (goneL NodeD.name na nb).length cG1, .slice A l.length c] ∧ wr4.heap.size ≤ wr.heap.size ∧ wr.ownsRow wr4.heap.size 9 1 (.slice A l.length c) l.length (rowsV strV l) ∧ RowK wr (w.heap.size + 4) wr4.heap.size 38 5 (.slice S0 (newL ja jb).length cS0) (newL ja jb).length (rowsV jobV (newL ja jb)) ∧ RowK wr (w.heap.size + 4) wr4.heap.size 40 3 (.slice S1 (newL na nb).length cS1) (newL na nb).length (rowsV nodeV (newL na nb)) ∧ RowK wr (w.heap.size + 4) wr4.heap.size 42 3 (.slice S2 (newL la lb).length cS2) (newL la lb).length (rowsV leaseV (newL la lb)) ∧ RowK wr (w.heap.size + 4) wr4.heap.size 9 1 (.slice G0 (goneL JobD.name ja jb).length cG0) (goneL JobD.name ja jb).length (rowsV strV (goneL JobD.name ja jb)) ∧ RowK wr (w.heap.size + 4) wr4.heap.size 9 1 (.slice G1 (goneL NodeD.name na nb).length cG1) (goneL NodeD.name na nb).length (rowsV strV (goneL NodeD.name na nb))) (fun i _ => nl - (intOf i).toNat)
                case atStart => exact ⟨0, none, 0, [], Nat.zero_le _, rfl, by simp, HT4.out, Nat.le_refl _, World.ownsRow_nil _ _ _ _, HR0.out, HR1.out, HR2.out, HR3.out, HR4.out⟩
                case round =>
                 clear HT4 yb5 HR0 HR1 HR2 HR3 HR4
                 obtain ⟨k, A, c, l, hk, rfl, hl, hat, hwr, ho, hr0, hr1, hr2, hr3, hr4⟩ := hrel
                 have HAt := hid hat
                 have Ho := hid ho
                 have HL := hid hl
                 have hll : l.length ≤ k := by rw [hl, List.length_map]; exact filter_len _ _ _
                 have hd4 := hat.d.lt
                 have HR0 := hid hr0
                 have HR1 := hid hr1
                 have HR2 := hid hr2
                 have HR3 := hid hr3
                 have HR4 := hid hr4
                 clear hl ho hr0 hr1 hr2 hr3 hr4
                 have yo : wr.cell? ⟨w.heap.size + 1, 3, none⟩ = some (.slice bl ml dl) := hat.b.cell 3
                 have yd : wr.cell? ⟨w.heap.size + 3, 7, none⟩ = some (.slice A l.length c) := hat.d.cell 7
                 by_cases hlt : k < nl
                 · obtain ⟨r, hf⟩ : ∃ r, la[k]? = some r := ⟨_, List.getElem?_eq_getElem (by have := HA.out.ll; dsimp only at this; omega)⟩
                   obtain ⟨bb, off, hao, hbB, hc⟩ := (HA.out.l.below hat.below).rec_ leaseV_len HA.out.ll hf
                   dsimp only at hao
                   subst hao
                   have Hf := hid hf
                   obtain ⟨job, node, till⟩ := r
                   obtain ⟨e0, e1, e2⟩ := rc3 hc
                   have hbs := hat.below.size
                   have hlb : bb < wr.heap.size := by omega
                   have hX : Below wr.heap.size wr (wr.alloc (.cells #[.string job, .string node, .int .i64 till] 42)) := (Below.refl _ _).alloc (Nat.le_refl _) _
                   have HX := hid (show Blk (wr.alloc (.cells #[.string job, .string node, .int .i64 till] 42)) wr.heap.size 42 #[.string job, .string node, .int .i64 till] from heap_alloc_new wr _)
                   have hAX := hat.kept hX
                   have HAX := hid hAX
                   have hl0 := hat.a.lt
                   have hl1 := hat.b.lt
                   have yo2 : (wr.alloc (.cells #[.string job, .string node, .int .i64 till] 42)).cell? ⟨w.heap.size + 1, 3, none⟩ = some (.slice bl ml dl) := hAX.b.cell 3
                   have HOX := hid (ownU_below Ho.out hX)
                   have HR0 := hid (HR0.out.kept hX)
                   have HR1 := hid (HR1.out.kept hX)
                   have HR2 := hid (HR2.out.kept hX)
                   have HR3 := hid (HR3.out.kept hX)
                   have HR4 := hid (HR4.out.kept hX)
                   have HC := hid (leaseAt_any lb job bl ml dl (wr.alloc (.cells #[.string job, .string node, .int .i64 till] 42)) ((HB.out.l.below hAX.below).more hAX.below.size) HB.out.ll (by first | omega | (dsimp only; omega)))
                   have Hst := hid (goneL_step (key := LeaseD.job) (b := lb) hf)
                   have Hfa := hid (find_any LeaseD.job job lb)
                   clear hc hf hX hAX hat
                   go_wp2_with fail
                   refine Calls.mono HC.out ?_
                   rintro e w3 ⟨ix, rfl, hb3, hcase⟩
                   have HA3 := hid (HAX.out.kept hb3)
                   have HO3 := hid (ownU_below HOX.out hb3)
                   have hX3 := HX.out.below hb3 HX.out.lt
                   have hxl := hX3.lt
                   have hd43 := HA3.out.d.lt
                   have yd : w3.cell? ⟨w.heap.size + 3, 7, none⟩ = some (.slice A l.length c) := HA3.out.d.cell 7
                   have HR0 := hid (HR0.out.kept hb3)
                   have HR1 := hid (HR1.out.kept hb3)
                   have HR2 := hid (HR2.out.kept hb3)
                   have HR3 := hid (HR3.out.kept hb3)
                   have HR4 := hid (HR4.out.kept hb3)
                   have j0 : w3.cell? ⟨wr.heap.size, 0, none⟩ = some (.string job) := hX3.cell 0
                   have j1 : w3.cell? ⟨wr.heap.size, 1, none⟩ = some (.string node) := hX3.cell 1
                   have j2 : w3.cell? ⟨wr.heap.size, 2, none⟩ = some (.int .i64 till) := hX3.cell 2
                   have hs3 := hb3.size
                   rw [show (wr.alloc (.cells #[.string job, .string node, .int .i64 till] 42)).heap.size = wr.heap.size + 1 by simp] at hs3
                   clear hb3 HC HX HAX HOX hX3 e0 e1 e2 yo yo2
                   unfold leaseOf at hcase
                   rcases hcase with ⟨rfl, hno⟩ | ⟨kk, xx, rfl, hxx, hso⟩
                   · have hany : (lb.any fun y => decide (LeaseD.job y = job)) = false := by rw [← Hfa.out, hno]; rfl
                     have Hs := hid (Hst.out.1 hany)
                     clear hany hno
                     have hbr : wr4.heap.size ≤ w3.heap.size := by omega
                     go_wp2_with (at_builtin; refine push_rec strV rfl _ _ 47 9 (.string ⟨#[]⟩) 1 16 rfl Tryz.underlying47 infoStrT rfl (by decide) strV_len strV_oneT wr4.heap.size _ _ _ l rfl HO3.out _ job rfl _ (by simp) rfl (by omega) (by unfold maxLen; omega) hbr ?_; intro A2 c2 w4 ho4 hg4; have HA4 := HA3.out.grew hg4 (fun k hk => by have := (HO3.out.lt k hk).1; omega); have d1 : w4.cell? ⟨w.heap.size + 3, 7, none⟩ = some (.slice A l.length c) := HA4.d.cell 7; have z1 : w4.frozen? ⟨w.heap.size + 3, 7, none⟩ = false := HA4.d.thaw 7; have hd4 := HA4.d.lt)
                     go_roundw
                     case rel =>
                      have hlen : (l ++ [job]).length = l.length + 1 := by simp
                      have hat5 : BtAt w (w4.setCell ⟨w.heap.size + 3, 7, none⟩ (.slice A2 (l.length + 1) c2)) _ _ #[.int .i64 ra, .int .i64 rb, .slice S0 (newL ja jb).length cS0, .slice S1 (newL na nb).length cS1, .slice S2 (newL la lb).length cS2, .slice G0 (goneL JobD.name ja jb).length cG0, .slice G1 (goneL NodeD.name na nb).length cG1, .slice A2 (l.length + 1) c2] := HA4.set rfl
                      have hbs4 := hg4.grown.size
                      refine ⟨k + 1, A2, c2, (l ++ [job]), by omega, by go_num, by rw [HL.out]; exact Hs.out.symm, ?_, by simp [World.setCell]; omega, ?_, (HR0.out.grew hg4 (fun k hk => (HO3.out.lt k hk).1)).set (by omega), (HR1.out.grew hg4 (fun k hk => (HO3.out.lt k hk).1)).set (by omega), (HR2.out.grew hg4 (fun k hk => (HO3.out.lt k hk).1)).set (by omega), (HR3.out.grew hg4 (fun k hk => (HO3.out.lt k hk).1)).set (by omega), (HR4.out.grew hg4 (fun k hk => (HO3.out.lt k hk).1)).set (by omega)⟩
                      · rw [hlen]; exact hat5
                      · rw [hlen]; exact own_set_low ho4 (by omega)
                     case measure => simp [intOf]; omega
                   · have hany : (lb.any fun y => decide (LeaseD.job y = job)) = true := by rw [← Hfa.out, hso]; rfl
                     have Hs := hid (Hst.out.2 hany)
                     have d0 : decide ((kk : Int) < 0) = false := decide_eq_false (by omega)
                     clear hany hso
                     go_wp2
                     go_roundw
                     case rel => exact ⟨k + 1, A, c, l, by omega, by go_num, by rw [HL.out]; exact Hs.out.symm, HA3.out, by omega, HO3.out, HR0.out, HR1.out, HR2.out, HR3.out, HR4.out⟩
                     case measure => simp [intOf]; omega
                 · obtain rfl : nl = k := by omega
                   have hnew : l = (goneL LeaseD.job la lb) := by rw [HL.out, filter_all _ (by have := HA.out.ll; dsimp only at this; omega)]; rfl
                   subst hnew
                   clear HL
                   have cG2_ := c
                   obtain ⟨G2, hS5⟩ : ∃ s, s = A := ⟨_, rfl⟩
                   obtain ⟨cG2, hc5⟩ : ∃ s, s = c := ⟨_, rfl⟩
                   subst hS5
                   subst hc5
                   have HR5 := hid (RowK.of Ho.out (show w.heap.size + 4 ≤ wr4.heap.size by omega))
                   have HR0 := hid (HR0.out.more hwr)
                   have HR1 := hid (HR1.out.more hwr)
                   have HR2 := hid (HR2.out.more hwr)
                   have HR3 := hid (HR3.out.more hwr)
                   have HR4 := hid (HR4.out.more hwr)
                   obtain ⟨wr5, hWn⟩ : ∃ W, W = wr := ⟨_, rfl⟩
                   subst hWn
                   have HT5 := HAt
                   have hrr := hat.r
                   have hrl := hrr.lt
                   obtain ⟨b0, b1, b2, b3, b4, b5, b6, b7⟩ := Blk.c8 (hat.d)
                   obtain ⟨ur0, ur1, ur2, ur3, ur4, ur5, ur6, ur7⟩ := Blk.z8 (hrr)
                   obtain ⟨sr0, sr1, sr2, sr3, sr4, sr5, sr6, sr7⟩ := Blk.c8 (hrr)
                   obtain ⟨hR4, hG4⟩ := Blk.S8 (hrr) (.int .i64 ra) (.int .i64 rb) (.slice S0 (newL ja jb).length cS0) (.slice S1 (newL na nb).length cS1) (.slice S2 (newL la lb).length cS2) (.slice G0 (goneL JobD.name ja jb).length cG0) (.slice G1 (goneL NodeD.name na nb).length cG1) (.slice G2 (goneL LeaseD.job la lb).length cG2)
                   obtain ⟨q0, q1, q2, q3, q4, q5, q6, q7⟩ := Blk.c8 hR4
                   have Hend := hid (show BtPost ⟨ra, ja, na, la⟩ ⟨rb, jb, nb, lb⟩ w (.returned (.agg #[.int .i64 ra, .int .i64 rb, .slice S0 (newL ja jb).length cS0, .slice S1 (newL na nb).length cS1, .slice S2 (newL la lb).length cS2, .slice G0 (goneL JobD.name ja jb).length cG0, .slice G1 (goneL NodeD.name na nb).length cG1, .slice G2 (goneL LeaseD.job la lb).length cG2])) _ from ⟨⟨S0, (newL ja jb).length, cS0, S1, (newL na nb).length, cS1, S2, (newL la lb).length, cS2, G0, (goneL JobD.name ja jb).length, cG0, G1, (goneL NodeD.name na nb).length, cG1, G2, (goneL LeaseD.job la lb).length, cG2⟩, rfl, ⟨⟨w.heap.size + 4, by omega, ownT_grow HR0.out.1 hG4 (by omega)⟩, ⟨w.heap.size + 4, by omega, ownT_grow HR1.out.1 hG4 (by omega)⟩, ⟨w.heap.size + 4, by omega, ownT_grow HR2.out.1 hG4 (by omega)⟩, ⟨w.heap.size + 4, by omega, ownT_grow HR3.out.1 hG4 (by omega)⟩, ⟨w.heap.size + 4, by omega, ownT_grow HR4.out.1 hG4 (by omega)⟩, ⟨w.heap.size + 4, by omega, ownT_grow HR5.out.1 hG4 (by omega)⟩, rfl, rfl, rfl, rfl, rfl, rfl⟩, grow_keep hat.below hG4 (by omega)⟩)
                   clear hrr hR4 hG4 HT5 HAt hat Ho yo yd HA HB HR0 HR1 HR2 HR3 HR4 HR5
                   go_wp2
                   refine bodyPost_ret (v := .agg #[.int .i64 ra, .int .i64 rb, .slice S0 (newL ja jb).length cS0, .slice S1 (newL na nb).length cS1, .slice S2 (newL la lb).length cS2, .slice G0 (goneL JobD.name ja jb).length cG0, .slice G1 (goneL NodeD.name na nb).length cG1, .slice G2 (goneL LeaseD.job la lb).length cG2]) (by simp [results, Tryz.results40, go_sem, *]) rfl ?_
                   exact Hend.out
end Go.Proofs.YtjgnnobccecpeaaGreatDoor
