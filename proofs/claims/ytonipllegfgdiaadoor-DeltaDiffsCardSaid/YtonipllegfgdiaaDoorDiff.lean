/- The walks of delta.Diff and of the reference's Diff. -/
import Derived.Test.YtonipllegfgdiaaDoorRBetween
import Derived.Test.YtonipllegfgdiaaDoorStTop
import Derived.Test.YtonipllegfgdiaaDoorCkSz
set_option linter.unusedVariables false
set_option linter.unusedSimpArgs false
namespace Go.Proofs.YtonipllegfgdiaaDoor
open Go.RowKit
def DiPost (a b : StateD) (w : World) (e : Ending) (w' : World) : Prop :=
  ∃ (d : DeltaD) (x : DelA) (E : Int), e = .returned (.tuple #[.agg (dC d x), .int .i64 E]) ∧ diffF a b = (d, E) ∧ DelAt w' w'.heap.size d x ∧ Below w.heap.size w w'
theorem DiPost.none_ {a b : StateD} {E : Int} {w w' : World} (h : diffF a b = (zeroDe, E)) (hb : Below w.heap.size w w') : DiPost a b w (.returned (.tuple #[.agg #[.int .i64 0, .int .i64 0, .slice none 0 0, .slice none 0 0, .slice none 0 0, .slice none 0 0, .slice none 0 0, .slice none 0 0], .int .i64 E])) w' := ⟨zeroDe, nilDA, E, rfl, h, zeroDeAt _ _, hb⟩
theorem newL_mem {α : Type} {a b : List α} {x : α} (h : x ∈ newL a b) : x ∈ b := (List.mem_filter.1 h).1
theorem goneL_mem {α : Type} {key : α → ByteArray} {a b : List α} {s : ByteArray} (h : s ∈ goneL key a b) : ∃ x ∈ a, key x = s := by
  obtain ⟨x, hx, e⟩ := List.mem_map.1 h
  exact ⟨x, (List.mem_filter.1 hx).1, e⟩
theorem between_sizes {w w' : World} {B B' : Nat} {a b : StateD} {x y : StA} (hA : StAt w B a x) (hB : StAt w' B' b y) (ha : checkE a = 0) (hb : checkE b = 0) : DeSizes (betweenD a b) := by
  obtain ⟨a1, a2, a3⟩ := ck_sizes ha
  obtain ⟨b1, b2, b3⟩ := ck_sizes hb
  exact ⟨Nat.le_trans (newL_len _ _) b1, Nat.le_trans (newL_len _ _) b2, Nat.le_trans (newL_len _ _) b3, Nat.le_trans (goneL_len _ _ _) a1, Nat.le_trans (goneL_len _ _ _) a2, Nat.le_trans (goneL_len _ _ _) a3,
    fun r hr => hB.oj r (newL_mem hr), fun r hr => hB.on_ r (newL_mem hr), fun r hr => hB.ol r (newL_mem hr),
    fun s hs => (by obtain ⟨r, hr, rfl⟩ := goneL_mem hs; exact (hA.oj r hr).1), fun s hs => (by obtain ⟨r, hr, rfl⟩ := goneL_mem hs; exact (hA.on_ r hr).1), fun s hs => (by obtain ⟨r, hr, rfl⟩ := goneL_mem hs; exact (hA.ol r hr).1)⟩
structure DiAt (w0 w : World) (ca cb : Array Value) : Prop where
  below : Below w0.heap.size w0 w
  a : Blk w w0.heap.size 26 ca
  b : Blk w (w0.heap.size + 1) 26 cb
  r : Blk w (w0.heap.size + 2) 40 #[.int .i64 0, .int .i64 0, .slice none 0 0, .slice none 0 0, .slice none 0 0, .slice none 0 0, .slice none 0 0, .slice none 0 0]
theorem DiAt.kept {w0 w w' : World} {ca cb : Array Value} (h : DiAt w0 w ca cb) (hb : Below w.heap.size w w') : DiAt w0 w' ca cb :=
  ⟨h.below.trans (hb.mono h.below.size), h.a.below hb h.a.lt, h.b.below hb h.b.lt, h.r.below hb h.r.lt⟩
theorem three_blk (w : World) (ca cb cc : Array Value) {ta tb tc : TypeId} : Blk (((w.alloc (.cells ca ta)).alloc (.cells cb tb)).alloc (.cells cc tc)) w.heap.size ta ca ∧ Blk (((w.alloc (.cells ca ta)).alloc (.cells cb tb)).alloc (.cells cc tc)) (w.heap.size + 1) tb cb ∧
    Blk (((w.alloc (.cells ca ta)).alloc (.cells cb tb)).alloc (.cells cc tc)) (w.heap.size + 2) tc cc ∧ Below w.heap.size w (((w.alloc (.cells ca ta)).alloc (.cells cb tb)).alloc (.cells cc tc)) := by
  have h1 : Blk (w.alloc (.cells ca ta)) w.heap.size ta ca := heap_alloc_new w _
  have h2 := heap_alloc_new (w.alloc (.cells ca ta)) (.cells cb tb)
  rw [show (w.alloc (.cells ca ta)).heap.size = w.heap.size + 1 by simp] at h2
  have h3 := heap_alloc_new ((w.alloc (.cells ca ta)).alloc (.cells cb tb)) (.cells cc tc)
  rw [show ((w.alloc (.cells ca ta)).alloc (.cells cb tb)).heap.size = w.heap.size + 2 by simp] at h3
  exact ⟨(h1.alloc _).alloc _, (show Blk _ _ _ _ from h2).alloc _, h3, (((Below.refl _ _).alloc (Nat.le_refl _) _).alloc (by simp) _).alloc (by simp; omega) _⟩
theorem DeOwn.low {w : World} {g g' : Nat} {d : DeltaD} {x : DelA} (h : DeOwn w g d x) (hg : g' < g) : DeOwn w g' d x := by
  obtain ⟨⟨b1, h1, o1⟩, ⟨b2, h2, o2⟩, ⟨b3, h3, o3⟩, ⟨b4, h4, o4⟩, ⟨b5, h5, o5⟩, ⟨b6, h6, o6⟩, l1, l2, l3, l4, l5, l6⟩ := h
  exact ⟨⟨b1, by omega, o1⟩, ⟨b2, by omega, o2⟩, ⟨b3, by omega, o3⟩, ⟨b4, by omega, o4⟩, ⟨b5, by omega, o5⟩, ⟨b6, by omega, o6⟩, l1, l2, l3, l4, l5, l6⟩
set_option maxRecDepth 100000 in
set_option maxHeartbeats 4000000 in
theorem ddiff_any (a b : StateD) (x y : StA) (w : World) (hA : StAt w w.heap.size a x) (hB : StAt w w.heap.size b y) (hT : Tabs w) :
    Calls Tryd.prog 24 #[.agg (stC a x), .agg (stC b y)] w (DiPost a b w) := by
  obtain ⟨ra, ja, na, la⟩ := a
  obtain ⟨aj, nj, cj, an, nn, cn, al, nl, cl⟩ := x
  obtain ⟨rb, jb, nb, lb⟩ := b
  obtain ⟨bj, mj, dj, bn, mn, dn, bl, ml, dl⟩ := y
  have Hbad := Lib.hid (fun E (h : diffF ⟨ra, ja, na, la⟩ ⟨rb, jb, nb, lb⟩ = (zeroDe, E)) w' => DiPost.none_ (w := w) (w' := w') h)
  have HA := Lib.hid hA
  have HB := Lib.hid hB
  unfold stC
  dsimp only
  obtain ⟨q1, q2, q3, q4, q5⟩ := four_blk w #[.int .i64 ra, .slice aj nj cj, .slice an nn cn, .slice al nl cl] #[.int .i64 rb, .slice bj mj dj, .slice bn mn dn, .slice bl ml dl] #[.int .i64 0, .int .i64 0, .slice none 0 0, .slice none 0 0, .slice none 0 0, .slice none 0 0, .slice none 0 0, .slice none 0 0] #[.int .i64 ra, .slice aj nj cj, .slice an nn cn, .slice al nl cl, .int .i64 rb, .slice bj mj dj, .slice bn mn dn, .slice bl ml dl] (ta := 26) (tb := 26) (tc := 40) (td := 26)
  have H0 := Lib.hid (show DiAt w ((((w.alloc (.cells #[.int .i64 ra, .slice aj nj cj, .slice an nn cn, .slice al nl cl] 26)).alloc (.cells #[.int .i64 rb, .slice bj mj dj, .slice bn mn dn, .slice bl ml dl] 26)).alloc (.cells #[.int .i64 0, .int .i64 0, .slice none 0 0, .slice none 0 0, .slice none 0 0, .slice none 0 0, .slice none 0 0, .slice none 0 0] 40)).alloc (.cells #[.int .i64 ra, .slice aj nj cj, .slice an nn cn, .slice al nl cl, .int .i64 rb, .slice bj mj dj, .slice bn mn dn, .slice bl ml dl] 26)) #[.int .i64 ra, .slice aj nj cj, .slice an nn cn, .slice al nl cl] #[.int .i64 rb, .slice bj mj dj, .slice bn mn dn, .slice bl ml dl] from ⟨q5, q1, q2, q3⟩)
  have HL0 := Lib.hid q4
  have HT := Lib.hid hT
  clear q1 q2 q3 q4 q5 hA hB hT
  go_enter Tryd.func24, Tryd.ntmps24
  go_wp2
  go_loopw [13] (fun i wr => ∃ k : Nat, k ≤ 2 ∧ i = .int .i64 k ∧ DiAt w wr #[.int .i64 ra, .slice aj nj cj, .slice an nn cn, .slice al nl cl] #[.int .i64 rb, .slice bj mj dj, .slice bn mn dn, .slice bl ml dl] ∧ Blk wr (w.heap.size + 3) 26 #[.int .i64 ra, .slice aj nj cj, .slice an nn cn, .slice al nl cl, .int .i64 rb, .slice bj mj dj, .slice bn mn dn, .slice bl ml dl] ∧ (0 < k → checkE ⟨ra, ja, na, la⟩ = 0) ∧ (1 < k → checkE ⟨rb, jb, nb, lb⟩ = 0)) (fun i _ => 2 - (intOf i).toNat)
  case atStart => exact ⟨0, by omega, rfl, H0.out, HL0.out, fun h => absurd h (by omega), fun h => absurd h (by omega)⟩
  case round =>
    clear H0 HL0
    obtain ⟨k, hk, rfl, hat, hL, hca, hcb⟩ := hrel
    have HAt := Lib.hid hat
    have HL := Lib.hid hL
    have hll := hL.lt
    have hl0 := hat.a.lt
    have hl1 := hat.b.lt
    rcases (show k = 0 ∨ k = 1 ∨ k = 2 by omega) with rfl | rfl | rfl
    · have hX : Below wr.heap.size wr (wr.alloc (.cells #[.int .i64 ra, .slice aj nj cj, .slice an nn cn, .slice al nl cl] 26)) := (Below.refl _ _).alloc (Nat.le_refl _) _
      have hC := scheck_any ⟨ra, ja, na, la⟩ ⟨aj, nj, cj, an, nn, cn, al, nl, cl⟩ (wr.alloc (.cells #[.int .i64 ra, .slice aj nj cj, .slice an nn cn, .slice al nl cl] 26)) (HA.out.upE (hat.kept hX).below) (HT.out.below (hat.kept hX).below)
      obtain ⟨E, hE⟩ : ∃ E, checkE ⟨ra, ja, na, la⟩ = E := ⟨_, rfl⟩
      rw [hE] at hC
      unfold stC at hC
      dsimp only at hC
      have HC := Lib.hid hC
      have HE := Lib.hid hE
      have HX2 := Lib.hid (hat.kept hX)
      have HLX := Lib.hid (hL.below hX hL.lt)
      
      have g0 : wr.cell? ⟨w.heap.size + 3, 0, none⟩ = some (.int .i64 ra) := hL.cell 0
      have g1 : wr.cell? ⟨w.heap.size + 3, 1, none⟩ = some (.slice aj nj cj) := hL.cell 1
      have g2 : wr.cell? ⟨w.heap.size + 3, 2, none⟩ = some (.slice an nn cn) := hL.cell 2
      have g3 : wr.cell? ⟨w.heap.size + 3, 3, none⟩ = some (.slice al nl cl) := hL.cell 3
      clear hC hE hat hL hX hca hcb HAt HL
      go_wp2_with fail
      refine Calls.mono HC.out ?_
      rintro e w3 ⟨rfl, hb3⟩
      have H3 := Lib.hid (HX2.out.kept hb3)
      have HL3 := Lib.hid (HLX.out.below hb3 HLX.out.lt)
      clear hb3 HC HX2 HLX g0 g1 g2 g3
      by_cases h0 : E = 0
      rotate_left
      · have e2 : (E != 0) = true := bne_iff_ne.2 h0
        have hrr := H3.out.r
        have hrl := hrr.lt
        have ur0 : w3.frozen? ⟨w.heap.size + 2, 0, none⟩ = false := hrr.thaw 0
        have sr0 : w3.cell? ⟨w.heap.size + 2, 0, none⟩ = some (.int .i64 0) := hrr.cell 0
        have ur1 : w3.frozen? ⟨w.heap.size + 2, 1, none⟩ = false := hrr.thaw 1
        have sr1 : w3.cell? ⟨w.heap.size + 2, 1, none⟩ = some (.int .i64 0) := hrr.cell 1
        have ur2 : w3.frozen? ⟨w.heap.size + 2, 2, none⟩ = false := hrr.thaw 2
        have sr2 : w3.cell? ⟨w.heap.size + 2, 2, none⟩ = some (.slice none 0 0) := hrr.cell 2
        have ur3 : w3.frozen? ⟨w.heap.size + 2, 3, none⟩ = false := hrr.thaw 3
        have sr3 : w3.cell? ⟨w.heap.size + 2, 3, none⟩ = some (.slice none 0 0) := hrr.cell 3
        have ur4 : w3.frozen? ⟨w.heap.size + 2, 4, none⟩ = false := hrr.thaw 4
        have sr4 : w3.cell? ⟨w.heap.size + 2, 4, none⟩ = some (.slice none 0 0) := hrr.cell 4
        have ur5 : w3.frozen? ⟨w.heap.size + 2, 5, none⟩ = false := hrr.thaw 5
        have sr5 : w3.cell? ⟨w.heap.size + 2, 5, none⟩ = some (.slice none 0 0) := hrr.cell 5
        have ur6 : w3.frozen? ⟨w.heap.size + 2, 6, none⟩ = false := hrr.thaw 6
        have sr6 : w3.cell? ⟨w.heap.size + 2, 6, none⟩ = some (.slice none 0 0) := hrr.cell 6
        have ur7 : w3.frozen? ⟨w.heap.size + 2, 7, none⟩ = false := hrr.thaw 7
        have sr7 : w3.cell? ⟨w.heap.size + 2, 7, none⟩ = some (.slice none 0 0) := hrr.cell 7
        have hR4 := (Blk.eq ((Blk.eq ((Blk.eq ((Blk.eq ((Blk.eq ((Blk.eq ((Blk.eq ((Blk.eq (hrr.set 0 (.int .i64 0)) (show _ = #[.int .i64 0, .int .i64 0, .slice none 0 0, .slice none 0 0, .slice none 0 0, .slice none 0 0, .slice none 0 0, .slice none 0 0] from rfl)).set 1 (.int .i64 0)) (show _ = #[.int .i64 0, .int .i64 0, .slice none 0 0, .slice none 0 0, .slice none 0 0, .slice none 0 0, .slice none 0 0, .slice none 0 0] from rfl)).set 2 (.slice none 0 0)) (show _ = #[.int .i64 0, .int .i64 0, .slice none 0 0, .slice none 0 0, .slice none 0 0, .slice none 0 0, .slice none 0 0, .slice none 0 0] from rfl)).set 3 (.slice none 0 0)) (show _ = #[.int .i64 0, .int .i64 0, .slice none 0 0, .slice none 0 0, .slice none 0 0, .slice none 0 0, .slice none 0 0, .slice none 0 0] from rfl)).set 4 (.slice none 0 0)) (show _ = #[.int .i64 0, .int .i64 0, .slice none 0 0, .slice none 0 0, .slice none 0 0, .slice none 0 0, .slice none 0 0, .slice none 0 0] from rfl)).set 5 (.slice none 0 0)) (show _ = #[.int .i64 0, .int .i64 0, .slice none 0 0, .slice none 0 0, .slice none 0 0, .slice none 0 0, .slice none 0 0, .slice none 0 0] from rfl)).set 6 (.slice none 0 0)) (show _ = #[.int .i64 0, .int .i64 0, .slice none 0 0, .slice none 0 0, .slice none 0 0, .slice none 0 0, .slice none 0 0, .slice none 0 0] from rfl)).set 7 (.slice none 0 0)) (show _ = #[.int .i64 0, .int .i64 0, .slice none 0 0, .slice none 0 0, .slice none 0 0, .slice none 0 0, .slice none 0 0, .slice none 0 0] from rfl))
        have q0 := (show _ = (some (.int .i64 0) : Option Value) from hR4.cell 0)
        have q1 := (show _ = (some (.int .i64 0) : Option Value) from hR4.cell 1)
        have q2 := (show _ = (some (.slice none 0 0) : Option Value) from hR4.cell 2)
        have q3 := (show _ = (some (.slice none 0 0) : Option Value) from hR4.cell 3)
        have q4 := (show _ = (some (.slice none 0 0) : Option Value) from hR4.cell 4)
        have q5 := (show _ = (some (.slice none 0 0) : Option Value) from hR4.cell 5)
        have q6 := (show _ = (some (.slice none 0 0) : Option Value) from hR4.cell 6)
        have q7 := (show _ = (some (.slice none 0 0) : Option Value) from hR4.cell 7)
        have hG4 := (bes_set (bes_set (bes_set (bes_set (bes_set (bes_set (bes_set (bes_set (grow_refl w3 (w.heap.size + 2)) 0 (.int .i64 0)) 1 (.int .i64 0)) 2 (.slice none 0 0)) 3 (.slice none 0 0)) 4 (.slice none 0 0)) 5 (.slice none 0 0)) 6 (.slice none 0 0)) 7 (.slice none 0 0))
        have Hend := Lib.hid (Hbad.out E (by rw [diffF_a (by rw [HE.out]; exact h0), HE.out]) _ (grow_keep H3.out.below hG4 (by omega)))
        clear hrr hR4 hG4
        go_wp2
        refine bodyPost_ret (v := .tuple #[.agg #[.int .i64 0, .int .i64 0, .slice none 0 0, .slice none 0 0, .slice none 0 0, .slice none 0 0, .slice none 0 0, .slice none 0 0], .int .i64 E]) (by simp [results, Tryd.results24, go_sem, *]) rfl ?_
        exact Hend.out
      · subst h0
        go_wp2
        go_roundw
        case rel => exact ⟨1, by omega, by go_num, H3.out, HL3.out, fun _ => HE.out, fun h => absurd h (by omega)⟩
        case measure => simp [intOf]
    · have hX : Below wr.heap.size wr (wr.alloc (.cells #[.int .i64 rb, .slice bj mj dj, .slice bn mn dn, .slice bl ml dl] 26)) := (Below.refl _ _).alloc (Nat.le_refl _) _
      have hC := scheck_any ⟨rb, jb, nb, lb⟩ ⟨bj, mj, dj, bn, mn, dn, bl, ml, dl⟩ (wr.alloc (.cells #[.int .i64 rb, .slice bj mj dj, .slice bn mn dn, .slice bl ml dl] 26)) (HB.out.upE (hat.kept hX).below) (HT.out.below (hat.kept hX).below)
      obtain ⟨E, hE⟩ : ∃ E, checkE ⟨rb, jb, nb, lb⟩ = E := ⟨_, rfl⟩
      rw [hE] at hC
      unfold stC at hC
      dsimp only at hC
      have HC := Lib.hid hC
      have HE := Lib.hid hE
      have HX2 := Lib.hid (hat.kept hX)
      have HLX := Lib.hid (hL.below hX hL.lt)
      have Ha := Lib.hid (hca (by omega))
      have g0 : wr.cell? ⟨w.heap.size + 3, 4, none⟩ = some (.int .i64 rb) := hL.cell 4
      have g1 : wr.cell? ⟨w.heap.size + 3, 5, none⟩ = some (.slice bj mj dj) := hL.cell 5
      have g2 : wr.cell? ⟨w.heap.size + 3, 6, none⟩ = some (.slice bn mn dn) := hL.cell 6
      have g3 : wr.cell? ⟨w.heap.size + 3, 7, none⟩ = some (.slice bl ml dl) := hL.cell 7
      clear hC hE hat hL hX hca hcb HAt HL
      go_wp2_with fail
      refine Calls.mono HC.out ?_
      rintro e w3 ⟨rfl, hb3⟩
      have H3 := Lib.hid (HX2.out.kept hb3)
      have HL3 := Lib.hid (HLX.out.below hb3 HLX.out.lt)
      clear hb3 HC HX2 HLX g0 g1 g2 g3
      by_cases h0 : E = 0
      rotate_left
      · have e2 : (E != 0) = true := bne_iff_ne.2 h0
        have hrr := H3.out.r
        have hrl := hrr.lt
        have ur0 : w3.frozen? ⟨w.heap.size + 2, 0, none⟩ = false := hrr.thaw 0
        have sr0 : w3.cell? ⟨w.heap.size + 2, 0, none⟩ = some (.int .i64 0) := hrr.cell 0
        have ur1 : w3.frozen? ⟨w.heap.size + 2, 1, none⟩ = false := hrr.thaw 1
        have sr1 : w3.cell? ⟨w.heap.size + 2, 1, none⟩ = some (.int .i64 0) := hrr.cell 1
        have ur2 : w3.frozen? ⟨w.heap.size + 2, 2, none⟩ = false := hrr.thaw 2
        have sr2 : w3.cell? ⟨w.heap.size + 2, 2, none⟩ = some (.slice none 0 0) := hrr.cell 2
        have ur3 : w3.frozen? ⟨w.heap.size + 2, 3, none⟩ = false := hrr.thaw 3
        have sr3 : w3.cell? ⟨w.heap.size + 2, 3, none⟩ = some (.slice none 0 0) := hrr.cell 3
        have ur4 : w3.frozen? ⟨w.heap.size + 2, 4, none⟩ = false := hrr.thaw 4
        have sr4 : w3.cell? ⟨w.heap.size + 2, 4, none⟩ = some (.slice none 0 0) := hrr.cell 4
        have ur5 : w3.frozen? ⟨w.heap.size + 2, 5, none⟩ = false := hrr.thaw 5
        have sr5 : w3.cell? ⟨w.heap.size + 2, 5, none⟩ = some (.slice none 0 0) := hrr.cell 5
        have ur6 : w3.frozen? ⟨w.heap.size + 2, 6, none⟩ = false := hrr.thaw 6
        have sr6 : w3.cell? ⟨w.heap.size + 2, 6, none⟩ = some (.slice none 0 0) := hrr.cell 6
        have ur7 : w3.frozen? ⟨w.heap.size + 2, 7, none⟩ = false := hrr.thaw 7
        have sr7 : w3.cell? ⟨w.heap.size + 2, 7, none⟩ = some (.slice none 0 0) := hrr.cell 7
        have hR4 := (Blk.eq ((Blk.eq ((Blk.eq ((Blk.eq ((Blk.eq ((Blk.eq ((Blk.eq ((Blk.eq (hrr.set 0 (.int .i64 0)) (show _ = #[.int .i64 0, .int .i64 0, .slice none 0 0, .slice none 0 0, .slice none 0 0, .slice none 0 0, .slice none 0 0, .slice none 0 0] from rfl)).set 1 (.int .i64 0)) (show _ = #[.int .i64 0, .int .i64 0, .slice none 0 0, .slice none 0 0, .slice none 0 0, .slice none 0 0, .slice none 0 0, .slice none 0 0] from rfl)).set 2 (.slice none 0 0)) (show _ = #[.int .i64 0, .int .i64 0, .slice none 0 0, .slice none 0 0, .slice none 0 0, .slice none 0 0, .slice none 0 0, .slice none 0 0] from rfl)).set 3 (.slice none 0 0)) (show _ = #[.int .i64 0, .int .i64 0, .slice none 0 0, .slice none 0 0, .slice none 0 0, .slice none 0 0, .slice none 0 0, .slice none 0 0] from rfl)).set 4 (.slice none 0 0)) (show _ = #[.int .i64 0, .int .i64 0, .slice none 0 0, .slice none 0 0, .slice none 0 0, .slice none 0 0, .slice none 0 0, .slice none 0 0] from rfl)).set 5 (.slice none 0 0)) (show _ = #[.int .i64 0, .int .i64 0, .slice none 0 0, .slice none 0 0, .slice none 0 0, .slice none 0 0, .slice none 0 0, .slice none 0 0] from rfl)).set 6 (.slice none 0 0)) (show _ = #[.int .i64 0, .int .i64 0, .slice none 0 0, .slice none 0 0, .slice none 0 0, .slice none 0 0, .slice none 0 0, .slice none 0 0] from rfl)).set 7 (.slice none 0 0)) (show _ = #[.int .i64 0, .int .i64 0, .slice none 0 0, .slice none 0 0, .slice none 0 0, .slice none 0 0, .slice none 0 0, .slice none 0 0] from rfl))
        have q0 := (show _ = (some (.int .i64 0) : Option Value) from hR4.cell 0)
        have q1 := (show _ = (some (.int .i64 0) : Option Value) from hR4.cell 1)
        have q2 := (show _ = (some (.slice none 0 0) : Option Value) from hR4.cell 2)
        have q3 := (show _ = (some (.slice none 0 0) : Option Value) from hR4.cell 3)
        have q4 := (show _ = (some (.slice none 0 0) : Option Value) from hR4.cell 4)
        have q5 := (show _ = (some (.slice none 0 0) : Option Value) from hR4.cell 5)
        have q6 := (show _ = (some (.slice none 0 0) : Option Value) from hR4.cell 6)
        have q7 := (show _ = (some (.slice none 0 0) : Option Value) from hR4.cell 7)
        have hG4 := (bes_set (bes_set (bes_set (bes_set (bes_set (bes_set (bes_set (bes_set (grow_refl w3 (w.heap.size + 2)) 0 (.int .i64 0)) 1 (.int .i64 0)) 2 (.slice none 0 0)) 3 (.slice none 0 0)) 4 (.slice none 0 0)) 5 (.slice none 0 0)) 6 (.slice none 0 0)) 7 (.slice none 0 0))
        have Hend := Lib.hid (Hbad.out E (by rw [diffF_b Ha.out (by rw [HE.out]; exact h0), HE.out]) _ (grow_keep H3.out.below hG4 (by omega)))
        clear hrr hR4 hG4
        go_wp2
        refine bodyPost_ret (v := .tuple #[.agg #[.int .i64 0, .int .i64 0, .slice none 0 0, .slice none 0 0, .slice none 0 0, .slice none 0 0, .slice none 0 0, .slice none 0 0], .int .i64 E]) (by simp [results, Tryd.results24, go_sem, *]) rfl ?_
        exact Hend.out
      · subst h0
        go_wp2
        go_roundw
        case rel => exact ⟨2, by omega, by go_num, H3.out, HL3.out, fun _ => Ha.out, fun _ => HE.out⟩
        case measure => simp [intOf]
    · have HEa := Lib.hid (hca (by omega))
      have HEb := Lib.hid (hcb (by omega))
      have v0 : wr.cell? ⟨w.heap.size, 0, none⟩ = some (.int .i64 ra) := hat.a.cell 0
      have v1 : wr.cell? ⟨w.heap.size + 1, 0, none⟩ = some (.int .i64 rb) := hat.b.cell 0
      clear hca hcb hat hL
      by_cases hold : rb ≤ ra
      · have d1 : decide (rb ≤ ra) = true := decide_eq_true hold
        have hrr := HAt.out.r
        have hrl := hrr.lt
        have ur0 : wr.frozen? ⟨w.heap.size + 2, 0, none⟩ = false := hrr.thaw 0
        have sr0 : wr.cell? ⟨w.heap.size + 2, 0, none⟩ = some (.int .i64 0) := hrr.cell 0
        have ur1 : wr.frozen? ⟨w.heap.size + 2, 1, none⟩ = false := hrr.thaw 1
        have sr1 : wr.cell? ⟨w.heap.size + 2, 1, none⟩ = some (.int .i64 0) := hrr.cell 1
        have ur2 : wr.frozen? ⟨w.heap.size + 2, 2, none⟩ = false := hrr.thaw 2
        have sr2 : wr.cell? ⟨w.heap.size + 2, 2, none⟩ = some (.slice none 0 0) := hrr.cell 2
        have ur3 : wr.frozen? ⟨w.heap.size + 2, 3, none⟩ = false := hrr.thaw 3
        have sr3 : wr.cell? ⟨w.heap.size + 2, 3, none⟩ = some (.slice none 0 0) := hrr.cell 3
        have ur4 : wr.frozen? ⟨w.heap.size + 2, 4, none⟩ = false := hrr.thaw 4
        have sr4 : wr.cell? ⟨w.heap.size + 2, 4, none⟩ = some (.slice none 0 0) := hrr.cell 4
        have ur5 : wr.frozen? ⟨w.heap.size + 2, 5, none⟩ = false := hrr.thaw 5
        have sr5 : wr.cell? ⟨w.heap.size + 2, 5, none⟩ = some (.slice none 0 0) := hrr.cell 5
        have ur6 : wr.frozen? ⟨w.heap.size + 2, 6, none⟩ = false := hrr.thaw 6
        have sr6 : wr.cell? ⟨w.heap.size + 2, 6, none⟩ = some (.slice none 0 0) := hrr.cell 6
        have ur7 : wr.frozen? ⟨w.heap.size + 2, 7, none⟩ = false := hrr.thaw 7
        have sr7 : wr.cell? ⟨w.heap.size + 2, 7, none⟩ = some (.slice none 0 0) := hrr.cell 7
        have hR4 := (Blk.eq ((Blk.eq ((Blk.eq ((Blk.eq ((Blk.eq ((Blk.eq ((Blk.eq ((Blk.eq (hrr.set 0 (.int .i64 0)) (show _ = #[.int .i64 0, .int .i64 0, .slice none 0 0, .slice none 0 0, .slice none 0 0, .slice none 0 0, .slice none 0 0, .slice none 0 0] from rfl)).set 1 (.int .i64 0)) (show _ = #[.int .i64 0, .int .i64 0, .slice none 0 0, .slice none 0 0, .slice none 0 0, .slice none 0 0, .slice none 0 0, .slice none 0 0] from rfl)).set 2 (.slice none 0 0)) (show _ = #[.int .i64 0, .int .i64 0, .slice none 0 0, .slice none 0 0, .slice none 0 0, .slice none 0 0, .slice none 0 0, .slice none 0 0] from rfl)).set 3 (.slice none 0 0)) (show _ = #[.int .i64 0, .int .i64 0, .slice none 0 0, .slice none 0 0, .slice none 0 0, .slice none 0 0, .slice none 0 0, .slice none 0 0] from rfl)).set 4 (.slice none 0 0)) (show _ = #[.int .i64 0, .int .i64 0, .slice none 0 0, .slice none 0 0, .slice none 0 0, .slice none 0 0, .slice none 0 0, .slice none 0 0] from rfl)).set 5 (.slice none 0 0)) (show _ = #[.int .i64 0, .int .i64 0, .slice none 0 0, .slice none 0 0, .slice none 0 0, .slice none 0 0, .slice none 0 0, .slice none 0 0] from rfl)).set 6 (.slice none 0 0)) (show _ = #[.int .i64 0, .int .i64 0, .slice none 0 0, .slice none 0 0, .slice none 0 0, .slice none 0 0, .slice none 0 0, .slice none 0 0] from rfl)).set 7 (.slice none 0 0)) (show _ = #[.int .i64 0, .int .i64 0, .slice none 0 0, .slice none 0 0, .slice none 0 0, .slice none 0 0, .slice none 0 0, .slice none 0 0] from rfl))
        have q0 := (show _ = (some (.int .i64 0) : Option Value) from hR4.cell 0)
        have q1 := (show _ = (some (.int .i64 0) : Option Value) from hR4.cell 1)
        have q2 := (show _ = (some (.slice none 0 0) : Option Value) from hR4.cell 2)
        have q3 := (show _ = (some (.slice none 0 0) : Option Value) from hR4.cell 3)
        have q4 := (show _ = (some (.slice none 0 0) : Option Value) from hR4.cell 4)
        have q5 := (show _ = (some (.slice none 0 0) : Option Value) from hR4.cell 5)
        have q6 := (show _ = (some (.slice none 0 0) : Option Value) from hR4.cell 6)
        have q7 := (show _ = (some (.slice none 0 0) : Option Value) from hR4.cell 7)
        have hG4 := (bes_set (bes_set (bes_set (bes_set (bes_set (bes_set (bes_set (bes_set (grow_refl wr (w.heap.size + 2)) 0 (.int .i64 0)) 1 (.int .i64 0)) 2 (.slice none 0 0)) 3 (.slice none 0 0)) 4 (.slice none 0 0)) 5 (.slice none 0 0)) 6 (.slice none 0 0)) 7 (.slice none 0 0))
        have Hend := Lib.hid (Hbad.out 1 (diffF_old HEa.out HEb.out hold) _ (grow_keep HAt.out.below hG4 (by omega)))
        clear hrr hR4 hG4
        go_wp2
        refine bodyPost_ret (v := .tuple #[.agg #[.int .i64 0, .int .i64 0, .slice none 0 0, .slice none 0 0, .slice none 0 0, .slice none 0 0, .slice none 0 0, .slice none 0 0], .int .i64 1]) (by simp [results, Tryd.results24, go_sem, *]) rfl ?_
        exact Hend.out
      · have d1 : decide (rb ≤ ra) = false := decide_eq_false hold
        have m0 : wr.cell? ⟨w.heap.size, 0, none⟩ = some (.int .i64 ra) := HAt.out.a.cell 0
        have n0 : wr.cell? ⟨w.heap.size + 1, 0, none⟩ = some (.int .i64 rb) := HAt.out.b.cell 0
        have m1 : wr.cell? ⟨w.heap.size, 1, none⟩ = some (.slice aj nj cj) := HAt.out.a.cell 1
        have n1 : wr.cell? ⟨w.heap.size + 1, 1, none⟩ = some (.slice bj mj dj) := HAt.out.b.cell 1
        have m2 : wr.cell? ⟨w.heap.size, 2, none⟩ = some (.slice an nn cn) := HAt.out.a.cell 2
        have n2 : wr.cell? ⟨w.heap.size + 1, 2, none⟩ = some (.slice bn mn dn) := HAt.out.b.cell 2
        have m3 : wr.cell? ⟨w.heap.size, 3, none⟩ = some (.slice al nl cl) := HAt.out.a.cell 3
        have n3 : wr.cell? ⟨w.heap.size + 1, 3, none⟩ = some (.slice bl ml dl) := HAt.out.b.cell 3
        have hzA := ck_sizes HEa.out
        have hzB := ck_sizes HEb.out
        have k1 := HA.out.lj
        have k2 := HA.out.ln
        have k3 := HA.out.ll
        have k4 := HB.out.lj
        have k5 := HB.out.ln
        have k6 := HB.out.ll
        dsimp only at hzA hzB k1 k2 k3 k4 k5 k6
        have hBw := between_any ⟨ra, ja, na, la⟩ ⟨rb, jb, nb, lb⟩ ⟨aj, nj, cj, an, nn, cn, al, nl, cl⟩ ⟨bj, mj, dj, bn, mn, dn, bl, ml, dl⟩ wr (HA.out.upE HAt.out.below) (HB.out.upE HAt.out.below) (by dsimp only; omega) (by dsimp only; omega) (by dsimp only; omega) (by dsimp only; omega) (by dsimp only; omega) (by dsimp only; omega)
        unfold stC at hBw
        dsimp only at hBw
        have HBw := Lib.hid hBw
        clear hBw k1 k2 k3 k4 k5 k6 hzA hzB
        go_wp2_with fail
        refine Calls.mono HBw.out ?_
        rintro e w9 ⟨xd, rfl, hO, hb9⟩
        obtain ⟨y0, p0, e0, y1, p1, e1, y2, p2, e2, y3, p3, e3, y4, p4, e4, y5, p5, e5⟩ := xd
        rw [show dC (betweenD ⟨ra, ja, na, la⟩ ⟨rb, jb, nb, lb⟩) ⟨y0, p0, e0, y1, p1, e1, y2, p2, e2, y3, p3, e3, y4, p4, e4, y5, p5, e5⟩ = #[.int .i64 ra, .int .i64 rb, .slice y0 p0 e0, .slice y1 p1 e1, .slice y2 p2 e2, .slice y3 p3 e3, .slice y4 p4 e4, .slice y5 p5 e5] from rfl]
        have hk := HAt.out.kept hb9
        have hrr := hk.r
        have hrl := hrr.lt
        have hwr := hb9.size
        have hw3 : w.heap.size + 2 < (wr).heap.size := HAt.out.r.lt
        have ur0 : w9.frozen? ⟨w.heap.size + 2, 0, none⟩ = false := hrr.thaw 0
        have sr0 : w9.cell? ⟨w.heap.size + 2, 0, none⟩ = some (.int .i64 0) := hrr.cell 0
        have ur1 : w9.frozen? ⟨w.heap.size + 2, 1, none⟩ = false := hrr.thaw 1
        have sr1 : w9.cell? ⟨w.heap.size + 2, 1, none⟩ = some (.int .i64 0) := hrr.cell 1
        have ur2 : w9.frozen? ⟨w.heap.size + 2, 2, none⟩ = false := hrr.thaw 2
        have sr2 : w9.cell? ⟨w.heap.size + 2, 2, none⟩ = some (.slice none 0 0) := hrr.cell 2
        have ur3 : w9.frozen? ⟨w.heap.size + 2, 3, none⟩ = false := hrr.thaw 3
        have sr3 : w9.cell? ⟨w.heap.size + 2, 3, none⟩ = some (.slice none 0 0) := hrr.cell 3
        have ur4 : w9.frozen? ⟨w.heap.size + 2, 4, none⟩ = false := hrr.thaw 4
        have sr4 : w9.cell? ⟨w.heap.size + 2, 4, none⟩ = some (.slice none 0 0) := hrr.cell 4
        have ur5 : w9.frozen? ⟨w.heap.size + 2, 5, none⟩ = false := hrr.thaw 5
        have sr5 : w9.cell? ⟨w.heap.size + 2, 5, none⟩ = some (.slice none 0 0) := hrr.cell 5
        have ur6 : w9.frozen? ⟨w.heap.size + 2, 6, none⟩ = false := hrr.thaw 6
        have sr6 : w9.cell? ⟨w.heap.size + 2, 6, none⟩ = some (.slice none 0 0) := hrr.cell 6
        have ur7 : w9.frozen? ⟨w.heap.size + 2, 7, none⟩ = false := hrr.thaw 7
        have sr7 : w9.cell? ⟨w.heap.size + 2, 7, none⟩ = some (.slice none 0 0) := hrr.cell 7
        have hR4 := (Blk.eq ((Blk.eq ((Blk.eq ((Blk.eq ((Blk.eq ((Blk.eq ((Blk.eq ((Blk.eq (hrr.set 0 (.int .i64 ra)) (show _ = #[.int .i64 ra, .int .i64 0, .slice none 0 0, .slice none 0 0, .slice none 0 0, .slice none 0 0, .slice none 0 0, .slice none 0 0] from rfl)).set 1 (.int .i64 rb)) (show _ = #[.int .i64 ra, .int .i64 rb, .slice none 0 0, .slice none 0 0, .slice none 0 0, .slice none 0 0, .slice none 0 0, .slice none 0 0] from rfl)).set 2 (.slice y0 p0 e0)) (show _ = #[.int .i64 ra, .int .i64 rb, .slice y0 p0 e0, .slice none 0 0, .slice none 0 0, .slice none 0 0, .slice none 0 0, .slice none 0 0] from rfl)).set 3 (.slice y1 p1 e1)) (show _ = #[.int .i64 ra, .int .i64 rb, .slice y0 p0 e0, .slice y1 p1 e1, .slice none 0 0, .slice none 0 0, .slice none 0 0, .slice none 0 0] from rfl)).set 4 (.slice y2 p2 e2)) (show _ = #[.int .i64 ra, .int .i64 rb, .slice y0 p0 e0, .slice y1 p1 e1, .slice y2 p2 e2, .slice none 0 0, .slice none 0 0, .slice none 0 0] from rfl)).set 5 (.slice y3 p3 e3)) (show _ = #[.int .i64 ra, .int .i64 rb, .slice y0 p0 e0, .slice y1 p1 e1, .slice y2 p2 e2, .slice y3 p3 e3, .slice none 0 0, .slice none 0 0] from rfl)).set 6 (.slice y4 p4 e4)) (show _ = #[.int .i64 ra, .int .i64 rb, .slice y0 p0 e0, .slice y1 p1 e1, .slice y2 p2 e2, .slice y3 p3 e3, .slice y4 p4 e4, .slice none 0 0] from rfl)).set 7 (.slice y5 p5 e5)) (show _ = #[.int .i64 ra, .int .i64 rb, .slice y0 p0 e0, .slice y1 p1 e1, .slice y2 p2 e2, .slice y3 p3 e3, .slice y4 p4 e4, .slice y5 p5 e5] from rfl))
        have q0 := (show _ = (some (.int .i64 ra) : Option Value) from hR4.cell 0)
        have q1 := (show _ = (some (.int .i64 rb) : Option Value) from hR4.cell 1)
        have q2 := (show _ = (some (.slice y0 p0 e0) : Option Value) from hR4.cell 2)
        have q3 := (show _ = (some (.slice y1 p1 e1) : Option Value) from hR4.cell 3)
        have q4 := (show _ = (some (.slice y2 p2 e2) : Option Value) from hR4.cell 4)
        have q5 := (show _ = (some (.slice y3 p3 e3) : Option Value) from hR4.cell 5)
        have q6 := (show _ = (some (.slice y4 p4 e4) : Option Value) from hR4.cell 6)
        have q7 := (show _ = (some (.slice y5 p5 e5) : Option Value) from hR4.cell 7)
        have hG4 := (bes_set (bes_set (bes_set (bes_set (bes_set (bes_set (bes_set (bes_set (grow_refl w9 (w.heap.size + 2)) 0 (.int .i64 ra)) 1 (.int .i64 rb)) 2 (.slice y0 p0 e0)) 3 (.slice y1 p1 e1)) 4 (.slice y2 p2 e2)) 5 (.slice y3 p3 e3)) 6 (.slice y4 p4 e4)) 7 (.slice y5 p5 e5))
        have hO2 : DeOwn _ (w.heap.size + 2) (betweenD ⟨ra, ja, na, la⟩ ⟨rb, jb, nb, lb⟩) ⟨y0, p0, e0, y1, p1, e1, y2, p2, e2, y3, p3, e3, y4, p4, e4, y5, p5, e5⟩ := hO.low hw3
        have hAt := (hO2.grow hG4).at_ (between_sizes HA.out HB.out HEa.out HEb.out)
        have Hend := Lib.hid (show DiPost ⟨ra, ja, na, la⟩ ⟨rb, jb, nb, lb⟩ w (.returned (.tuple #[.agg #[.int .i64 ra, .int .i64 rb, .slice y0 p0 e0, .slice y1 p1 e1, .slice y2 p2 e2, .slice y3 p3 e3, .slice y4 p4 e4, .slice y5 p5 e5], .int .i64 0])) _ from ⟨betweenD ⟨ra, ja, na, la⟩ ⟨rb, jb, nb, lb⟩, ⟨y0, p0, e0, y1, p1, e1, y2, p2, e2, y3, p3, e3, y4, p4, e4, y5, p5, e5⟩, 0, rfl, diffF_ok HEa.out HEb.out (by show ¬ (rb ≤ ra); omega), hAt, grow_keep hk.below hG4 (by omega)⟩)
        clear hrr hR4 hG4 hO hO2 hAt hk hb9 HBw v0 v1 HAt m0 n0 m1 n1 m2 n2 m3 n3
        go_wp2
        refine bodyPost_ret (v := .tuple #[.agg #[.int .i64 ra, .int .i64 rb, .slice y0 p0 e0, .slice y1 p1 e1, .slice y2 p2 e2, .slice y3 p3 e3, .slice y4 p4 e4, .slice y5 p5 e5], .int .i64 0]) (by simp [results, Tryd.results24, go_sem, *]) rfl ?_
        exact Hend.out
set_option maxRecDepth 100000 in
set_option maxHeartbeats 4000000 in
theorem rdiff_any (a b : StateD) (x y : StA) (w : World) (hA : StAt w w.heap.size a x) (hB : StAt w w.heap.size b y) :
    Calls Tryd.prog 25 #[.agg (stC a x), .agg (stC b y)] w (DiPost a b w) := by
  obtain ⟨ra, ja, na, la⟩ := a
  obtain ⟨aj, nj, cj, an, nn, cn, al, nl, cl⟩ := x
  obtain ⟨rb, jb, nb, lb⟩ := b
  obtain ⟨bj, mj, dj, bn, mn, dn, bl, ml, dl⟩ := y
  have Hbad := Lib.hid (fun E (h : diffF ⟨ra, ja, na, la⟩ ⟨rb, jb, nb, lb⟩ = (zeroDe, E)) w' => DiPost.none_ (w := w) (w' := w') h)
  have HA := Lib.hid hA
  have HB := Lib.hid hB
  unfold stC
  dsimp only
  obtain ⟨q1, q2, q3, q5⟩ := three_blk w #[.int .i64 ra, .slice aj nj cj, .slice an nn cn, .slice al nl cl] #[.int .i64 rb, .slice bj mj dj, .slice bn mn dn, .slice bl ml dl] #[.int .i64 0, .int .i64 0, .slice none 0 0, .slice none 0 0, .slice none 0 0, .slice none 0 0, .slice none 0 0, .slice none 0 0] (ta := 26) (tb := 26) (tc := 40)
  have H0 := Lib.hid (show DiAt w (((w.alloc (.cells #[.int .i64 ra, .slice aj nj cj, .slice an nn cn, .slice al nl cl] 26)).alloc (.cells #[.int .i64 rb, .slice bj mj dj, .slice bn mn dn, .slice bl ml dl] 26)).alloc (.cells #[.int .i64 0, .int .i64 0, .slice none 0 0, .slice none 0 0, .slice none 0 0, .slice none 0 0, .slice none 0 0, .slice none 0 0] 40)) #[.int .i64 ra, .slice aj nj cj, .slice an nn cn, .slice al nl cl] #[.int .i64 rb, .slice bj mj dj, .slice bn mn dn, .slice bl ml dl] from ⟨q5, q1, q2, q3⟩)
  have hC := rcheck_any ⟨ra, ja, na, la⟩ ⟨aj, nj, cj, an, nn, cn, al, nl, cl⟩ (((w.alloc (.cells #[.int .i64 ra, .slice aj nj cj, .slice an nn cn, .slice al nl cl] 26)).alloc (.cells #[.int .i64 rb, .slice bj mj dj, .slice bn mn dn, .slice bl ml dl] 26)).alloc (.cells #[.int .i64 0, .int .i64 0, .slice none 0 0, .slice none 0 0, .slice none 0 0, .slice none 0 0, .slice none 0 0, .slice none 0 0] 40)) (hA.upE q5)
  obtain ⟨E, hE⟩ : ∃ E, checkE ⟨ra, ja, na, la⟩ = E := ⟨_, rfl⟩
  unfold RCPost stC at hC
  dsimp only at hC
  rw [hE] at hC
  have HC := Lib.hid hC
  have HEa := Lib.hid hE
  clear q1 q2 q3 q5 hA hB hC hE
  go_enter Tryd.func25, Tryd.ntmps25
  go_wp2_with fail
  refine Calls.mono HC.out ?_
  rintro e w3 ⟨rfl, hb3⟩
  have H3 := Lib.hid (H0.out.kept hb3)
  have hl0 := H3.out.a.lt
  have hl1 := H3.out.b.lt
  clear hb3 HC H0
  by_cases h0 : E = 0
  rotate_left
  · have e2 : (E != 0) = true := bne_iff_ne.2 h0
    have hrr := H3.out.r
    have hrl := hrr.lt
    have ur0 : w3.frozen? ⟨w.heap.size + 2, 0, none⟩ = false := hrr.thaw 0
    have sr0 : w3.cell? ⟨w.heap.size + 2, 0, none⟩ = some (.int .i64 0) := hrr.cell 0
    have ur1 : w3.frozen? ⟨w.heap.size + 2, 1, none⟩ = false := hrr.thaw 1
    have sr1 : w3.cell? ⟨w.heap.size + 2, 1, none⟩ = some (.int .i64 0) := hrr.cell 1
    have ur2 : w3.frozen? ⟨w.heap.size + 2, 2, none⟩ = false := hrr.thaw 2
    have sr2 : w3.cell? ⟨w.heap.size + 2, 2, none⟩ = some (.slice none 0 0) := hrr.cell 2
    have ur3 : w3.frozen? ⟨w.heap.size + 2, 3, none⟩ = false := hrr.thaw 3
    have sr3 : w3.cell? ⟨w.heap.size + 2, 3, none⟩ = some (.slice none 0 0) := hrr.cell 3
    have ur4 : w3.frozen? ⟨w.heap.size + 2, 4, none⟩ = false := hrr.thaw 4
    have sr4 : w3.cell? ⟨w.heap.size + 2, 4, none⟩ = some (.slice none 0 0) := hrr.cell 4
    have ur5 : w3.frozen? ⟨w.heap.size + 2, 5, none⟩ = false := hrr.thaw 5
    have sr5 : w3.cell? ⟨w.heap.size + 2, 5, none⟩ = some (.slice none 0 0) := hrr.cell 5
    have ur6 : w3.frozen? ⟨w.heap.size + 2, 6, none⟩ = false := hrr.thaw 6
    have sr6 : w3.cell? ⟨w.heap.size + 2, 6, none⟩ = some (.slice none 0 0) := hrr.cell 6
    have ur7 : w3.frozen? ⟨w.heap.size + 2, 7, none⟩ = false := hrr.thaw 7
    have sr7 : w3.cell? ⟨w.heap.size + 2, 7, none⟩ = some (.slice none 0 0) := hrr.cell 7
    have hR4 := (Blk.eq ((Blk.eq ((Blk.eq ((Blk.eq ((Blk.eq ((Blk.eq ((Blk.eq ((Blk.eq (hrr.set 0 (.int .i64 0)) (show _ = #[.int .i64 0, .int .i64 0, .slice none 0 0, .slice none 0 0, .slice none 0 0, .slice none 0 0, .slice none 0 0, .slice none 0 0] from rfl)).set 1 (.int .i64 0)) (show _ = #[.int .i64 0, .int .i64 0, .slice none 0 0, .slice none 0 0, .slice none 0 0, .slice none 0 0, .slice none 0 0, .slice none 0 0] from rfl)).set 2 (.slice none 0 0)) (show _ = #[.int .i64 0, .int .i64 0, .slice none 0 0, .slice none 0 0, .slice none 0 0, .slice none 0 0, .slice none 0 0, .slice none 0 0] from rfl)).set 3 (.slice none 0 0)) (show _ = #[.int .i64 0, .int .i64 0, .slice none 0 0, .slice none 0 0, .slice none 0 0, .slice none 0 0, .slice none 0 0, .slice none 0 0] from rfl)).set 4 (.slice none 0 0)) (show _ = #[.int .i64 0, .int .i64 0, .slice none 0 0, .slice none 0 0, .slice none 0 0, .slice none 0 0, .slice none 0 0, .slice none 0 0] from rfl)).set 5 (.slice none 0 0)) (show _ = #[.int .i64 0, .int .i64 0, .slice none 0 0, .slice none 0 0, .slice none 0 0, .slice none 0 0, .slice none 0 0, .slice none 0 0] from rfl)).set 6 (.slice none 0 0)) (show _ = #[.int .i64 0, .int .i64 0, .slice none 0 0, .slice none 0 0, .slice none 0 0, .slice none 0 0, .slice none 0 0, .slice none 0 0] from rfl)).set 7 (.slice none 0 0)) (show _ = #[.int .i64 0, .int .i64 0, .slice none 0 0, .slice none 0 0, .slice none 0 0, .slice none 0 0, .slice none 0 0, .slice none 0 0] from rfl))
    have q0 := (show _ = (some (.int .i64 0) : Option Value) from hR4.cell 0)
    have q1 := (show _ = (some (.int .i64 0) : Option Value) from hR4.cell 1)
    have q2 := (show _ = (some (.slice none 0 0) : Option Value) from hR4.cell 2)
    have q3 := (show _ = (some (.slice none 0 0) : Option Value) from hR4.cell 3)
    have q4 := (show _ = (some (.slice none 0 0) : Option Value) from hR4.cell 4)
    have q5 := (show _ = (some (.slice none 0 0) : Option Value) from hR4.cell 5)
    have q6 := (show _ = (some (.slice none 0 0) : Option Value) from hR4.cell 6)
    have q7 := (show _ = (some (.slice none 0 0) : Option Value) from hR4.cell 7)
    have hG4 := (bes_set (bes_set (bes_set (bes_set (bes_set (bes_set (bes_set (bes_set (grow_refl w3 (w.heap.size + 2)) 0 (.int .i64 0)) 1 (.int .i64 0)) 2 (.slice none 0 0)) 3 (.slice none 0 0)) 4 (.slice none 0 0)) 5 (.slice none 0 0)) 6 (.slice none 0 0)) 7 (.slice none 0 0))
    have Hend := Lib.hid (Hbad.out E (by rw [diffF_a (by rw [HEa.out]; exact h0), HEa.out]) _ (grow_keep H3.out.below hG4 (by omega)))
    clear hrr hR4 hG4
    go_wp2
    refine bodyPost_ret (v := .tuple #[.agg #[.int .i64 0, .int .i64 0, .slice none 0 0, .slice none 0 0, .slice none 0 0, .slice none 0 0, .slice none 0 0, .slice none 0 0], .int .i64 E]) (by simp [results, Tryd.results25, go_sem, *]) rfl ?_
    exact Hend.out
  subst h0
  have hC := rcheck_any ⟨rb, jb, nb, lb⟩ ⟨bj, mj, dj, bn, mn, dn, bl, ml, dl⟩ w3 (HB.out.upE H3.out.below)
  obtain ⟨E, hE⟩ : ∃ E, checkE ⟨rb, jb, nb, lb⟩ = E := ⟨_, rfl⟩
  unfold RCPost stC at hC
  dsimp only at hC
  rw [hE] at hC
  have HC := Lib.hid hC
  have HEb := Lib.hid hE
  have g0 : w3.cell? ⟨w.heap.size + 1, 0, none⟩ = some (.int .i64 rb) := H3.out.b.cell 0
  have g1 : w3.cell? ⟨w.heap.size + 1, 1, none⟩ = some (.slice bj mj dj) := H3.out.b.cell 1
  have g2 : w3.cell? ⟨w.heap.size + 1, 2, none⟩ = some (.slice bn mn dn) := H3.out.b.cell 2
  have g3 : w3.cell? ⟨w.heap.size + 1, 3, none⟩ = some (.slice bl ml dl) := H3.out.b.cell 3
  clear hC hE
  go_wp2_with fail
  refine Calls.mono HC.out ?_
  rintro e w4 ⟨rfl, hb4⟩
  have H4 := Lib.hid (H3.out.kept hb4)
  clear hb4 HC g0 g1 g2 g3 hl0 hl1 H3
  have hl0 := H4.out.a.lt
  have hl1 := H4.out.b.lt
  by_cases h0 : E = 0
  rotate_left
  · have e2 : (E != 0) = true := bne_iff_ne.2 h0
    have hrr := H4.out.r
    have hrl := hrr.lt
    have ur0 : w4.frozen? ⟨w.heap.size + 2, 0, none⟩ = false := hrr.thaw 0
    have sr0 : w4.cell? ⟨w.heap.size + 2, 0, none⟩ = some (.int .i64 0) := hrr.cell 0
    have ur1 : w4.frozen? ⟨w.heap.size + 2, 1, none⟩ = false := hrr.thaw 1
    have sr1 : w4.cell? ⟨w.heap.size + 2, 1, none⟩ = some (.int .i64 0) := hrr.cell 1
    have ur2 : w4.frozen? ⟨w.heap.size + 2, 2, none⟩ = false := hrr.thaw 2
    have sr2 : w4.cell? ⟨w.heap.size + 2, 2, none⟩ = some (.slice none 0 0) := hrr.cell 2
    have ur3 : w4.frozen? ⟨w.heap.size + 2, 3, none⟩ = false := hrr.thaw 3
    have sr3 : w4.cell? ⟨w.heap.size + 2, 3, none⟩ = some (.slice none 0 0) := hrr.cell 3
    have ur4 : w4.frozen? ⟨w.heap.size + 2, 4, none⟩ = false := hrr.thaw 4
    have sr4 : w4.cell? ⟨w.heap.size + 2, 4, none⟩ = some (.slice none 0 0) := hrr.cell 4
    have ur5 : w4.frozen? ⟨w.heap.size + 2, 5, none⟩ = false := hrr.thaw 5
    have sr5 : w4.cell? ⟨w.heap.size + 2, 5, none⟩ = some (.slice none 0 0) := hrr.cell 5
    have ur6 : w4.frozen? ⟨w.heap.size + 2, 6, none⟩ = false := hrr.thaw 6
    have sr6 : w4.cell? ⟨w.heap.size + 2, 6, none⟩ = some (.slice none 0 0) := hrr.cell 6
    have ur7 : w4.frozen? ⟨w.heap.size + 2, 7, none⟩ = false := hrr.thaw 7
    have sr7 : w4.cell? ⟨w.heap.size + 2, 7, none⟩ = some (.slice none 0 0) := hrr.cell 7
    have hR4 := (Blk.eq ((Blk.eq ((Blk.eq ((Blk.eq ((Blk.eq ((Blk.eq ((Blk.eq ((Blk.eq (hrr.set 0 (.int .i64 0)) (show _ = #[.int .i64 0, .int .i64 0, .slice none 0 0, .slice none 0 0, .slice none 0 0, .slice none 0 0, .slice none 0 0, .slice none 0 0] from rfl)).set 1 (.int .i64 0)) (show _ = #[.int .i64 0, .int .i64 0, .slice none 0 0, .slice none 0 0, .slice none 0 0, .slice none 0 0, .slice none 0 0, .slice none 0 0] from rfl)).set 2 (.slice none 0 0)) (show _ = #[.int .i64 0, .int .i64 0, .slice none 0 0, .slice none 0 0, .slice none 0 0, .slice none 0 0, .slice none 0 0, .slice none 0 0] from rfl)).set 3 (.slice none 0 0)) (show _ = #[.int .i64 0, .int .i64 0, .slice none 0 0, .slice none 0 0, .slice none 0 0, .slice none 0 0, .slice none 0 0, .slice none 0 0] from rfl)).set 4 (.slice none 0 0)) (show _ = #[.int .i64 0, .int .i64 0, .slice none 0 0, .slice none 0 0, .slice none 0 0, .slice none 0 0, .slice none 0 0, .slice none 0 0] from rfl)).set 5 (.slice none 0 0)) (show _ = #[.int .i64 0, .int .i64 0, .slice none 0 0, .slice none 0 0, .slice none 0 0, .slice none 0 0, .slice none 0 0, .slice none 0 0] from rfl)).set 6 (.slice none 0 0)) (show _ = #[.int .i64 0, .int .i64 0, .slice none 0 0, .slice none 0 0, .slice none 0 0, .slice none 0 0, .slice none 0 0, .slice none 0 0] from rfl)).set 7 (.slice none 0 0)) (show _ = #[.int .i64 0, .int .i64 0, .slice none 0 0, .slice none 0 0, .slice none 0 0, .slice none 0 0, .slice none 0 0, .slice none 0 0] from rfl))
    have q0 := (show _ = (some (.int .i64 0) : Option Value) from hR4.cell 0)
    have q1 := (show _ = (some (.int .i64 0) : Option Value) from hR4.cell 1)
    have q2 := (show _ = (some (.slice none 0 0) : Option Value) from hR4.cell 2)
    have q3 := (show _ = (some (.slice none 0 0) : Option Value) from hR4.cell 3)
    have q4 := (show _ = (some (.slice none 0 0) : Option Value) from hR4.cell 4)
    have q5 := (show _ = (some (.slice none 0 0) : Option Value) from hR4.cell 5)
    have q6 := (show _ = (some (.slice none 0 0) : Option Value) from hR4.cell 6)
    have q7 := (show _ = (some (.slice none 0 0) : Option Value) from hR4.cell 7)
    have hG4 := (bes_set (bes_set (bes_set (bes_set (bes_set (bes_set (bes_set (bes_set (grow_refl w4 (w.heap.size + 2)) 0 (.int .i64 0)) 1 (.int .i64 0)) 2 (.slice none 0 0)) 3 (.slice none 0 0)) 4 (.slice none 0 0)) 5 (.slice none 0 0)) 6 (.slice none 0 0)) 7 (.slice none 0 0))
    have Hend := Lib.hid (Hbad.out E (by rw [diffF_b HEa.out (by rw [HEb.out]; exact h0), HEb.out]) _ (grow_keep H4.out.below hG4 (by omega)))
    clear hrr hR4 hG4
    go_wp2
    refine bodyPost_ret (v := .tuple #[.agg #[.int .i64 0, .int .i64 0, .slice none 0 0, .slice none 0 0, .slice none 0 0, .slice none 0 0, .slice none 0 0, .slice none 0 0], .int .i64 E]) (by simp [results, Tryd.results25, go_sem, *]) rfl ?_
    exact Hend.out
  subst h0
  have v0 : w4.cell? ⟨w.heap.size, 0, none⟩ = some (.int .i64 ra) := H4.out.a.cell 0
  have v1 : w4.cell? ⟨w.heap.size + 1, 0, none⟩ = some (.int .i64 rb) := H4.out.b.cell 0
  by_cases hold : rb ≤ ra
  · have d1 : decide (rb ≤ ra) = true := decide_eq_true hold
    have hrr := H4.out.r
    have hrl := hrr.lt
    have ur0 : w4.frozen? ⟨w.heap.size + 2, 0, none⟩ = false := hrr.thaw 0
    have sr0 : w4.cell? ⟨w.heap.size + 2, 0, none⟩ = some (.int .i64 0) := hrr.cell 0
    have ur1 : w4.frozen? ⟨w.heap.size + 2, 1, none⟩ = false := hrr.thaw 1
    have sr1 : w4.cell? ⟨w.heap.size + 2, 1, none⟩ = some (.int .i64 0) := hrr.cell 1
    have ur2 : w4.frozen? ⟨w.heap.size + 2, 2, none⟩ = false := hrr.thaw 2
    have sr2 : w4.cell? ⟨w.heap.size + 2, 2, none⟩ = some (.slice none 0 0) := hrr.cell 2
    have ur3 : w4.frozen? ⟨w.heap.size + 2, 3, none⟩ = false := hrr.thaw 3
    have sr3 : w4.cell? ⟨w.heap.size + 2, 3, none⟩ = some (.slice none 0 0) := hrr.cell 3
    have ur4 : w4.frozen? ⟨w.heap.size + 2, 4, none⟩ = false := hrr.thaw 4
    have sr4 : w4.cell? ⟨w.heap.size + 2, 4, none⟩ = some (.slice none 0 0) := hrr.cell 4
    have ur5 : w4.frozen? ⟨w.heap.size + 2, 5, none⟩ = false := hrr.thaw 5
    have sr5 : w4.cell? ⟨w.heap.size + 2, 5, none⟩ = some (.slice none 0 0) := hrr.cell 5
    have ur6 : w4.frozen? ⟨w.heap.size + 2, 6, none⟩ = false := hrr.thaw 6
    have sr6 : w4.cell? ⟨w.heap.size + 2, 6, none⟩ = some (.slice none 0 0) := hrr.cell 6
    have ur7 : w4.frozen? ⟨w.heap.size + 2, 7, none⟩ = false := hrr.thaw 7
    have sr7 : w4.cell? ⟨w.heap.size + 2, 7, none⟩ = some (.slice none 0 0) := hrr.cell 7
    have hR4 := (Blk.eq ((Blk.eq ((Blk.eq ((Blk.eq ((Blk.eq ((Blk.eq ((Blk.eq ((Blk.eq (hrr.set 0 (.int .i64 0)) (show _ = #[.int .i64 0, .int .i64 0, .slice none 0 0, .slice none 0 0, .slice none 0 0, .slice none 0 0, .slice none 0 0, .slice none 0 0] from rfl)).set 1 (.int .i64 0)) (show _ = #[.int .i64 0, .int .i64 0, .slice none 0 0, .slice none 0 0, .slice none 0 0, .slice none 0 0, .slice none 0 0, .slice none 0 0] from rfl)).set 2 (.slice none 0 0)) (show _ = #[.int .i64 0, .int .i64 0, .slice none 0 0, .slice none 0 0, .slice none 0 0, .slice none 0 0, .slice none 0 0, .slice none 0 0] from rfl)).set 3 (.slice none 0 0)) (show _ = #[.int .i64 0, .int .i64 0, .slice none 0 0, .slice none 0 0, .slice none 0 0, .slice none 0 0, .slice none 0 0, .slice none 0 0] from rfl)).set 4 (.slice none 0 0)) (show _ = #[.int .i64 0, .int .i64 0, .slice none 0 0, .slice none 0 0, .slice none 0 0, .slice none 0 0, .slice none 0 0, .slice none 0 0] from rfl)).set 5 (.slice none 0 0)) (show _ = #[.int .i64 0, .int .i64 0, .slice none 0 0, .slice none 0 0, .slice none 0 0, .slice none 0 0, .slice none 0 0, .slice none 0 0] from rfl)).set 6 (.slice none 0 0)) (show _ = #[.int .i64 0, .int .i64 0, .slice none 0 0, .slice none 0 0, .slice none 0 0, .slice none 0 0, .slice none 0 0, .slice none 0 0] from rfl)).set 7 (.slice none 0 0)) (show _ = #[.int .i64 0, .int .i64 0, .slice none 0 0, .slice none 0 0, .slice none 0 0, .slice none 0 0, .slice none 0 0, .slice none 0 0] from rfl))
    have q0 := (show _ = (some (.int .i64 0) : Option Value) from hR4.cell 0)
    have q1 := (show _ = (some (.int .i64 0) : Option Value) from hR4.cell 1)
    have q2 := (show _ = (some (.slice none 0 0) : Option Value) from hR4.cell 2)
    have q3 := (show _ = (some (.slice none 0 0) : Option Value) from hR4.cell 3)
    have q4 := (show _ = (some (.slice none 0 0) : Option Value) from hR4.cell 4)
    have q5 := (show _ = (some (.slice none 0 0) : Option Value) from hR4.cell 5)
    have q6 := (show _ = (some (.slice none 0 0) : Option Value) from hR4.cell 6)
    have q7 := (show _ = (some (.slice none 0 0) : Option Value) from hR4.cell 7)
    have hG4 := (bes_set (bes_set (bes_set (bes_set (bes_set (bes_set (bes_set (bes_set (grow_refl w4 (w.heap.size + 2)) 0 (.int .i64 0)) 1 (.int .i64 0)) 2 (.slice none 0 0)) 3 (.slice none 0 0)) 4 (.slice none 0 0)) 5 (.slice none 0 0)) 6 (.slice none 0 0)) 7 (.slice none 0 0))
    have Hend := Lib.hid (Hbad.out 1 (diffF_old HEa.out HEb.out hold) _ (grow_keep H4.out.below hG4 (by omega)))
    clear hrr hR4 hG4
    go_wp2
    refine bodyPost_ret (v := .tuple #[.agg #[.int .i64 0, .int .i64 0, .slice none 0 0, .slice none 0 0, .slice none 0 0, .slice none 0 0, .slice none 0 0, .slice none 0 0], .int .i64 1]) (by simp [results, Tryd.results25, go_sem, *]) rfl ?_
    exact Hend.out
  have d1 : decide (rb ≤ ra) = false := decide_eq_false hold
  have m0 : w4.cell? ⟨w.heap.size, 0, none⟩ = some (.int .i64 ra) := H4.out.a.cell 0
  have n0 : w4.cell? ⟨w.heap.size + 1, 0, none⟩ = some (.int .i64 rb) := H4.out.b.cell 0
  have m1 : w4.cell? ⟨w.heap.size, 1, none⟩ = some (.slice aj nj cj) := H4.out.a.cell 1
  have n1 : w4.cell? ⟨w.heap.size + 1, 1, none⟩ = some (.slice bj mj dj) := H4.out.b.cell 1
  have m2 : w4.cell? ⟨w.heap.size, 2, none⟩ = some (.slice an nn cn) := H4.out.a.cell 2
  have n2 : w4.cell? ⟨w.heap.size + 1, 2, none⟩ = some (.slice bn mn dn) := H4.out.b.cell 2
  have m3 : w4.cell? ⟨w.heap.size, 3, none⟩ = some (.slice al nl cl) := H4.out.a.cell 3
  have n3 : w4.cell? ⟨w.heap.size + 1, 3, none⟩ = some (.slice bl ml dl) := H4.out.b.cell 3
  have hzA := ck_sizes HEa.out
  have hzB := ck_sizes HEb.out
  have k1 := HA.out.lj
  have k2 := HA.out.ln
  have k3 := HA.out.ll
  have k4 := HB.out.lj
  have k5 := HB.out.ln
  have k6 := HB.out.ll
  dsimp only at hzA hzB k1 k2 k3 k4 k5 k6
  have hBw := rbetween_any ⟨ra, ja, na, la⟩ ⟨rb, jb, nb, lb⟩ ⟨aj, nj, cj, an, nn, cn, al, nl, cl⟩ ⟨bj, mj, dj, bn, mn, dn, bl, ml, dl⟩ w4 (HA.out.upE H4.out.below) (HB.out.upE H4.out.below) (by dsimp only; omega) (by dsimp only; omega) (by dsimp only; omega) (by dsimp only; omega) (by dsimp only; omega) (by dsimp only; omega)
  unfold stC at hBw
  dsimp only at hBw
  have HBw := Lib.hid hBw
  clear hBw k1 k2 k3 k4 k5 k6 hzA hzB
  go_wp2_with fail
  refine Calls.mono HBw.out ?_
  rintro e w9 ⟨xd, rfl, hO, hb9⟩
  obtain ⟨y0, p0, e0, y1, p1, e1, y2, p2, e2, y3, p3, e3, y4, p4, e4, y5, p5, e5⟩ := xd
  rw [show dC (betweenD ⟨ra, ja, na, la⟩ ⟨rb, jb, nb, lb⟩) ⟨y0, p0, e0, y1, p1, e1, y2, p2, e2, y3, p3, e3, y4, p4, e4, y5, p5, e5⟩ = #[.int .i64 ra, .int .i64 rb, .slice y0 p0 e0, .slice y1 p1 e1, .slice y2 p2 e2, .slice y3 p3 e3, .slice y4 p4 e4, .slice y5 p5 e5] from rfl]
  have hk := H4.out.kept hb9
  have hrr := hk.r
  have hrl := hrr.lt
  have hwr := hb9.size
  have hw3 : w.heap.size + 2 < (w4).heap.size := H4.out.r.lt
  have ur0 : w9.frozen? ⟨w.heap.size + 2, 0, none⟩ = false := hrr.thaw 0
  have sr0 : w9.cell? ⟨w.heap.size + 2, 0, none⟩ = some (.int .i64 0) := hrr.cell 0
  have ur1 : w9.frozen? ⟨w.heap.size + 2, 1, none⟩ = false := hrr.thaw 1
  have sr1 : w9.cell? ⟨w.heap.size + 2, 1, none⟩ = some (.int .i64 0) := hrr.cell 1
  have ur2 : w9.frozen? ⟨w.heap.size + 2, 2, none⟩ = false := hrr.thaw 2
  have sr2 : w9.cell? ⟨w.heap.size + 2, 2, none⟩ = some (.slice none 0 0) := hrr.cell 2
  have ur3 : w9.frozen? ⟨w.heap.size + 2, 3, none⟩ = false := hrr.thaw 3
  have sr3 : w9.cell? ⟨w.heap.size + 2, 3, none⟩ = some (.slice none 0 0) := hrr.cell 3
  have ur4 : w9.frozen? ⟨w.heap.size + 2, 4, none⟩ = false := hrr.thaw 4
  have sr4 : w9.cell? ⟨w.heap.size + 2, 4, none⟩ = some (.slice none 0 0) := hrr.cell 4
  have ur5 : w9.frozen? ⟨w.heap.size + 2, 5, none⟩ = false := hrr.thaw 5
  have sr5 : w9.cell? ⟨w.heap.size + 2, 5, none⟩ = some (.slice none 0 0) := hrr.cell 5
  have ur6 : w9.frozen? ⟨w.heap.size + 2, 6, none⟩ = false := hrr.thaw 6
  have sr6 : w9.cell? ⟨w.heap.size + 2, 6, none⟩ = some (.slice none 0 0) := hrr.cell 6
  have ur7 : w9.frozen? ⟨w.heap.size + 2, 7, none⟩ = false := hrr.thaw 7
  have sr7 : w9.cell? ⟨w.heap.size + 2, 7, none⟩ = some (.slice none 0 0) := hrr.cell 7
  have hR4 := (Blk.eq ((Blk.eq ((Blk.eq ((Blk.eq ((Blk.eq ((Blk.eq ((Blk.eq ((Blk.eq (hrr.set 0 (.int .i64 ra)) (show _ = #[.int .i64 ra, .int .i64 0, .slice none 0 0, .slice none 0 0, .slice none 0 0, .slice none 0 0, .slice none 0 0, .slice none 0 0] from rfl)).set 1 (.int .i64 rb)) (show _ = #[.int .i64 ra, .int .i64 rb, .slice none 0 0, .slice none 0 0, .slice none 0 0, .slice none 0 0, .slice none 0 0, .slice none 0 0] from rfl)).set 2 (.slice y0 p0 e0)) (show _ = #[.int .i64 ra, .int .i64 rb, .slice y0 p0 e0, .slice none 0 0, .slice none 0 0, .slice none 0 0, .slice none 0 0, .slice none 0 0] from rfl)).set 3 (.slice y1 p1 e1)) (show _ = #[.int .i64 ra, .int .i64 rb, .slice y0 p0 e0, .slice y1 p1 e1, .slice none 0 0, .slice none 0 0, .slice none 0 0, .slice none 0 0] from rfl)).set 4 (.slice y2 p2 e2)) (show _ = #[.int .i64 ra, .int .i64 rb, .slice y0 p0 e0, .slice y1 p1 e1, .slice y2 p2 e2, .slice none 0 0, .slice none 0 0, .slice none 0 0] from rfl)).set 5 (.slice y3 p3 e3)) (show _ = #[.int .i64 ra, .int .i64 rb, .slice y0 p0 e0, .slice y1 p1 e1, .slice y2 p2 e2, .slice y3 p3 e3, .slice none 0 0, .slice none 0 0] from rfl)).set 6 (.slice y4 p4 e4)) (show _ = #[.int .i64 ra, .int .i64 rb, .slice y0 p0 e0, .slice y1 p1 e1, .slice y2 p2 e2, .slice y3 p3 e3, .slice y4 p4 e4, .slice none 0 0] from rfl)).set 7 (.slice y5 p5 e5)) (show _ = #[.int .i64 ra, .int .i64 rb, .slice y0 p0 e0, .slice y1 p1 e1, .slice y2 p2 e2, .slice y3 p3 e3, .slice y4 p4 e4, .slice y5 p5 e5] from rfl))
  have q0 := (show _ = (some (.int .i64 ra) : Option Value) from hR4.cell 0)
  have q1 := (show _ = (some (.int .i64 rb) : Option Value) from hR4.cell 1)
  have q2 := (show _ = (some (.slice y0 p0 e0) : Option Value) from hR4.cell 2)
  have q3 := (show _ = (some (.slice y1 p1 e1) : Option Value) from hR4.cell 3)
  have q4 := (show _ = (some (.slice y2 p2 e2) : Option Value) from hR4.cell 4)
  have q5 := (show _ = (some (.slice y3 p3 e3) : Option Value) from hR4.cell 5)
  have q6 := (show _ = (some (.slice y4 p4 e4) : Option Value) from hR4.cell 6)
  have q7 := (show _ = (some (.slice y5 p5 e5) : Option Value) from hR4.cell 7)
  have hG4 := (bes_set (bes_set (bes_set (bes_set (bes_set (bes_set (bes_set (bes_set (grow_refl w9 (w.heap.size + 2)) 0 (.int .i64 ra)) 1 (.int .i64 rb)) 2 (.slice y0 p0 e0)) 3 (.slice y1 p1 e1)) 4 (.slice y2 p2 e2)) 5 (.slice y3 p3 e3)) 6 (.slice y4 p4 e4)) 7 (.slice y5 p5 e5))
  have hO2 : DeOwn _ (w.heap.size + 2) (betweenD ⟨ra, ja, na, la⟩ ⟨rb, jb, nb, lb⟩) ⟨y0, p0, e0, y1, p1, e1, y2, p2, e2, y3, p3, e3, y4, p4, e4, y5, p5, e5⟩ := hO.low hw3
  have hAt := (hO2.grow hG4).at_ (between_sizes HA.out HB.out HEa.out HEb.out)
  have Hend := Lib.hid (show DiPost ⟨ra, ja, na, la⟩ ⟨rb, jb, nb, lb⟩ w (.returned (.tuple #[.agg #[.int .i64 ra, .int .i64 rb, .slice y0 p0 e0, .slice y1 p1 e1, .slice y2 p2 e2, .slice y3 p3 e3, .slice y4 p4 e4, .slice y5 p5 e5], .int .i64 0])) _ from ⟨betweenD ⟨ra, ja, na, la⟩ ⟨rb, jb, nb, lb⟩, ⟨y0, p0, e0, y1, p1, e1, y2, p2, e2, y3, p3, e3, y4, p4, e4, y5, p5, e5⟩, 0, rfl, diffF_ok HEa.out HEb.out (by show ¬ (rb ≤ ra); omega), hAt, grow_keep hk.below hG4 (by omega)⟩)
  clear hrr hR4 hG4 hO hO2 hAt hk hb9 HBw v0 v1 H4 m0 n0 m1 n1 m2 n2 m3 n3
  go_wp2
  refine bodyPost_ret (v := .tuple #[.agg #[.int .i64 ra, .int .i64 rb, .slice y0 p0 e0, .slice y1 p1 e1, .slice y2 p2 e2, .slice y3 p3 e3, .slice y4 p4 e4, .slice y5 p5 e5], .int .i64 0]) (by simp [results, Tryd.results25, go_sem, *]) rfl ?_
  exact Hend.out
end Go.Proofs.YtonipllegfgdiaaDoor
