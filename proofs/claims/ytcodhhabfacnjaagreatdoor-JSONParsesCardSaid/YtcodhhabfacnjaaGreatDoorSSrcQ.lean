/- Of the proof of a statement: SrcQ. -/
import Derived.Test.YtcodhhabfacnjaaGreatDoorSSrcD
set_option linter.unusedVariables false
set_option linter.unusedSimpArgs false
/- The walk of the reference's source, as JSON is read of it: quoted. -/
namespace Go.Proofs.YtcodhhabfacnjaaGreatDoor
open Go.RowKit
open Go.Lib (hasPrefix)
/-- What is quoted of one low byte, its quotes cut off. -/
theorem low_cut : ∀ c : Fin 32, (⟨(quoteL [UInt8.ofNat c.val]).toArray⟩ : ByteArray).size = 8 ∧ (⟨(quoteL [UInt8.ofNat c.val]).toArray⟩ : ByteArray).extract 1 7 = ⟨(quoteB (UInt8.ofNat c.val)).toArray⟩ := by decide +kernel
theorem SxAt.ext {w : World} {g : Nat} {s s' : ByteArray} (h : SxAt w g s) (e : s = s') : SxAt w g s' := e ▸ h
/-- The inner loop: no low byte ahead of the i-th is in front. -/
def LoInv (W0 : World) (g : Nat) (s acc : ByteArray) (i out fnd : Value) (wr : World) : Prop :=
  ∃ c : Nat, c ≤ 32 ∧ i = .int .i64 c ∧ out = .string acc ∧ fnd = .bool false ∧ SxAt wr g s ∧ W0.grownBy wr (some g) ∧ ∀ j, j < c → hasPrefix s.data.toList (quoteB (UInt8.ofNat j)) = false
theorem lowR_at {l : List UInt8} {c : Nat} (hc : c < 32) (h : hasPrefix l (quoteB (UInt8.ofNat c)) = true) (hn : ∀ j, j < c → hasPrefix l (quoteB (UInt8.ofNat j)) = false) : lowR l = some c := by
  unfold lowR
  rw [List.find?_range_eq_some]
  exact ⟨h, List.mem_range.2 hc, fun j hj => by rw [hn j hj]; rfl⟩
theorem lowR_no {l : List UInt8} (hn : ∀ j, j < 32 → hasPrefix l (quoteB (UInt8.ofNat j)) = false) : lowR l = none := by
  unfold lowR
  rw [List.find?_range_eq_none]
  exact fun j hj => by rw [hn j hj]; rfl
theorem low_size (c : Nat) (h : c < 32) : (⟨(quoteB (UInt8.ofNat c)).toArray⟩ : ByteArray).size = 6 := by
  show (quoteB (UInt8.ofNat c)).toArray.size = 6
  rw [List.size_toArray]
  exact low_len ⟨c, h⟩
/-- The loop: what was read, what is left. -/
def SqInv (W0 : World) (g : Nat) (R : RR ByteArray) (out : Value) (wr : World) : Prop :=
  ∃ (acc s : ByteArray) (n : Nat), out = .string acc ∧ SxAt wr g s ∧ W0.grownBy wr (some g) ∧ qRun n acc s = R ∧ s.size < n ∧ acc.size + s.size ≤ 9223372036854775807
def sxM (g : Nat) (w : World) : Nat := match w.cell? ⟨g, 0, none⟩ with
  | some (.string s) => s.size
  | _ => 0
theorem sxM_at {w : World} {g : Nat} {s : ByteArray} (h : SxAt w g s) : sxM g w = s.size := by
  have h0 : w.cell? ⟨g, 0, none⟩ = some (.string s) := h.1.cell 0
  unfold sxM
  rw [h0]
section
variable {n : Nat} {acc s : ByteArray}
theorem q_end (h : hasR ⟨#[34]⟩ s = true) : qRun (n + 1) acc s = .ok acc (s.extract 1 s.size) := by rw [qRun, if_pos h]
theorem q_quote (h1 : hasR ⟨#[34]⟩ s = false) (h : hasR ⟨#[92, 34]⟩ s = true) : qRun (n + 1) acc s = qRun n (acc ++ ⟨#[34]⟩) (s.extract 2 s.size) := by rw [qRun, if_neg (by rw [h1]; simp), if_pos h]
theorem q_back (h1 : hasR ⟨#[34]⟩ s = false) (h2 : hasR ⟨#[92, 34]⟩ s = false) (h : hasR ⟨#[92, 92]⟩ s = true) : qRun (n + 1) acc s = qRun n (acc ++ ⟨#[92]⟩) (s.extract 2 s.size) := by rw [qRun, if_neg (by rw [h1]; simp), if_neg (by rw [h2]; simp), if_pos h]
theorem q_low {c : Nat} (h1 : hasR ⟨#[34]⟩ s = false) (h2 : hasR ⟨#[92, 34]⟩ s = false) (h3 : hasR ⟨#[92, 92]⟩ s = false) (h : lowR s.data.toList = some c) : qRun (n + 1) acc s = qRun n (acc ++ ⟨#[UInt8.ofNat c]⟩) (s.extract 6 s.size) := by rw [qRun, if_neg (by rw [h1]; simp), if_neg (by rw [h2]; simp), if_neg (by rw [h3]; simp), h]
theorem q_bad (h1 : hasR ⟨#[34]⟩ s = false) (h2 : hasR ⟨#[92, 34]⟩ s = false) (h3 : hasR ⟨#[92, 92]⟩ s = false) (h : lowR s.data.toList = none) (hb : s.data.toList = [] ∨ s.data.toList.head? = some 92) : qRun (n + 1) acc s = .bad 4 := by rw [qRun, if_neg (by rw [h1]; simp), if_neg (by rw [h2]; simp), if_neg (by rw [h3]; simp), h]; simp only; rw [if_pos hb]
theorem q_plain (h1 : hasR ⟨#[34]⟩ s = false) (h2 : hasR ⟨#[92, 34]⟩ s = false) (h3 : hasR ⟨#[92, 92]⟩ s = false) (h : lowR s.data.toList = none) (hb : ¬ (s.data.toList = [] ∨ s.data.toList.head? = some 92)) : qRun (n + 1) acc s = qRun n (acc ++ s.extract 0 1) (s.extract 1 s.size) := by rw [qRun, if_neg (by rw [h1]; simp), if_neg (by rw [h2]; simp), if_neg (by rw [h3]; simp), h]; simp only; rw [if_neg hb]
theorem hasR_size {p : ByteArray} (h : hasR p s = true) : p.size ≤ s.size := by
  have := (List.isPrefixOf_iff_prefix.1 h).length_le
  rwa [data_len, data_len] at this
end
set_option maxRecDepth 100000 in
set_option maxHeartbeats 8000000 in
theorem squoted (g : Nat) (s0 : ByteArray) (w : World) (h : SxAt w g s0) (hs0 : s0.size ≤ 60000) :
    Calls Tryz.prog 23 #[.pointer (some ⟨g, 0, none⟩)] w (SxPost g (quotR s0) (fun t => .string t) w) := by
  have HM := Lib.hid (smust g s0 ⟨#[34]⟩ w h)
  have hgl := h.1.lt
  clear h
  cases hm : mustR ⟨#[34]⟩ s0 with
  | bad x =>
    have Hm := Lib.hid hm
    have Hq := Lib.hid (show quotR s0 = .bad x from by unfold quotR; rw [hm]; rfl)
    clear hm
    go_enter Tryz.func23, Tryz.ntmps23
    go_wp2_with fail
    refine Calls.mono HM.out ?_
    intro e w1 hp
    obtain ⟨rfl, h2⟩ := hp.bad Hm.out
    have H2 := Lib.hid h2
    clear h2 hp
    unfold thrown
    go_wp2
    exact ⟨rfl, SxPost.mkBad Hq.out H2.out⟩
  | ok u s1 =>
    have Hm := Lib.hid hm
    have hs1 : s1.size ≤ 60000 := Nat.le_trans (mustR_shr _ _ u s1 hm) hs0
    obtain ⟨R, hR⟩ : ∃ R, quotR s0 = R := ⟨_, rfl⟩
    have HR := Lib.hid (show qRun (s1.size + 1) ⟨#[]⟩ s1 = R from by rw [← hR]; unfold quotR; rw [hm]; rfl)
    rw [hR]
    obtain ⟨W0, hW0⟩ : ∃ W0, W0 = w := ⟨_, rfl⟩
    have HW0 := Lib.hid hW0
    clear hm hR hW0
    go_enter Tryz.func23, Tryz.ntmps23
    go_wp2_with fail
    refine Calls.mono HM.out ?_
    intro e w1 hp
    obtain ⟨rfl, h1, h2⟩ := hp.ok Hm.out
    have H1 := Lib.hid h1
    have H2 := Lib.hid h2
    clear h1 h2 hp
    go_wp2_with fail
    go_loopw [3] (fun out wr => SqInv W0 g R out wr ∧ ∃ acc s, out = .string acc ∧ wr.cell? ⟨g, 0, none⟩ = some (.string s) ∧ acc.size + s.size ≤ 60000) (fun _ wr => sxM g wr)
    case atStart => exact ⟨⟨⟨#[]⟩, s1, _, rfl, H1.out, by rw [HW0.out]; exact H2.out, HR.out, Nat.lt_succ_self _, by show 0 + s1.size ≤ _; omega⟩, ⟨#[]⟩, s1, rfl, H1.out.1.cell 0, by show 0 + s1.size ≤ _; omega⟩
    case round =>
      clear H1 H2 HM HR
      obtain ⟨⟨acc, s, N, rfl, hx, hg, hn, hlt, -⟩, acc', s', he, hc', hb⟩ := hrel
      have hb : acc.size + s.size ≤ 60000 := by
        injection he with he
        subst he
        rw [hx.1.cell 0] at hc'
        injection hc' with hc'; injection hc' with hc'
        have hc' : s = s' := hc'
        rw [hc']; exact hb
      clear he hc'
      obtain ⟨n, rfl⟩ : ∃ n, N = n + 1 := ⟨N - 1, by omega⟩
      have Hm0 := Lib.hid (sxM_at hx)
      obtain ⟨M0, hM0⟩ : ∃ M0, sxM g wr = M0 := ⟨_, rfl⟩
      rw [hM0] at Hm0 ⊢
      have Hx := Lib.hid hx
      have Hg := Lib.hid hg
      have Hn := Lib.hid hn
      have HK1 := Lib.hid (sskip g s ⟨#[34]⟩ wr hx)
      clear hx hg hn hM0
      cases h1 : hasR ⟨#[34]⟩ s with
      | true =>
        have hsz := hasR_size h1
        have HE := Lib.hid (show R = .ok acc (s.extract 1 s.size) from by rw [← Hn.out, q_end h1])
        rw [h1, skipS_yes h1] at HK1
        clear h1
        go_wp2_with fail
        refine Calls.mono HK1.out ?_
        rintro e w2 ⟨rfl, hx2, hg2⟩
        have HF := Lib.hid (show SxPost g R (fun t => Value.string t) w (.returned (.string acc)) w2 from SxPost.mkOk HE.out hx2 (by rw [← HW0.out]; exact grow_trans Hg.out hg2))
        clear hx2 hg2
        go_wp2
        go_ret
        exact HF.out
      | false =>
        rw [h1, skipS_no h1] at HK1
        have Q1 := Lib.hid h1
        clear h1
        go_wp2_with fail
        refine Calls.mono HK1.out ?_
        rintro e w2 ⟨rfl, hx2, hg2⟩
        have HK2 := Lib.hid (sskip g s ⟨#[92, 34]⟩ w2 hx2)
        have Hg2 := Lib.hid (grow_trans Hg.out hg2)
        clear hx2 hg2 HK1 Hg Hx
        cases h2 : hasR ⟨#[92, 34]⟩ s with
        | true =>
          have hsz : 2 ≤ s.size := hasR_size h2
          have HE := Lib.hid (show qRun n (acc ++ ⟨#[34]⟩) (s.extract 2 s.size) = R from by rw [← Hn.out, q_quote Q1.out h2])
          rw [h2, skipS_yes h2] at HK2
          clear h2
          go_wp2_with fail
          refine Calls.mono HK2.out ?_
          rintro e w3 ⟨rfl, hx3, hg3⟩
          have hadd : ¬ 9223372036854775807 < acc.size + 1 := by omega
          have hx3 : SxAt w3 g (s.extract 2 s.size) := hx3
          have Hx3 := Lib.hid hx3
          have Hg3 := Lib.hid (grow_trans Hg2.out hg3)
          have Hc3 := Lib.hid (cut_size s 2)
          clear hx3 hg3
          go_wp2_with fail
          go_roundw
          case rel => exact ⟨⟨acc ++ ⟨#[34]⟩, s.extract 2 s.size, n, rfl, Hx3.out, Hg3.out, HE.out, by rw [Hc3.out]; omega, by rw [Hc3.out, ByteArray.size_append]; show acc.size + 1 + _ ≤ _; omega⟩, _, _, rfl, Hx3.out.1.cell 0, by rw [Hc3.out, ByteArray.size_append]; show acc.size + 1 + _ ≤ _; omega⟩
          case measure => rw [sxM_at Hx3.out, Hm0.out, Hc3.out]; omega
        | false =>
          rw [h2, skipS_no h2] at HK2
          have Q2 := Lib.hid h2
          clear h2
          go_wp2_with fail
          refine Calls.mono HK2.out ?_
          rintro e w3 ⟨rfl, hx3, hg3⟩
          have HK3 := Lib.hid (sskip g s ⟨#[92, 92]⟩ w3 hx3)
          have Hg3 := Lib.hid (grow_trans Hg2.out hg3)
          clear hx3 hg3 HK2 Hg2
          cases h3 : hasR ⟨#[92, 92]⟩ s with
          | true =>
            have hsz : 2 ≤ s.size := hasR_size h3
            have HE := Lib.hid (show qRun n (acc ++ ⟨#[92]⟩) (s.extract 2 s.size) = R from by rw [← Hn.out, q_back Q1.out Q2.out h3])
            rw [h3, skipS_yes h3] at HK3
            clear h3
            go_wp2_with fail
            refine Calls.mono HK3.out ?_
            rintro e w4 ⟨rfl, hx4, hg4⟩
            have hadd : ¬ 9223372036854775807 < acc.size + 1 := by omega
            have hx4 : SxAt w4 g (s.extract 2 s.size) := hx4
            have Hx4 := Lib.hid hx4
            have Hg4 := Lib.hid (grow_trans Hg3.out hg4)
            have Hc4 := Lib.hid (cut_size s 2)
            clear hx4 hg4
            go_wp2_with fail
            go_roundw
            case rel => exact ⟨⟨acc ++ ⟨#[92]⟩, s.extract 2 s.size, n, rfl, Hx4.out, Hg4.out, HE.out, by rw [Hc4.out]; omega, by rw [Hc4.out, ByteArray.size_append]; show acc.size + 1 + _ ≤ _; omega⟩, _, _, rfl, Hx4.out.1.cell 0, by rw [Hc4.out, ByteArray.size_append]; show acc.size + 1 + _ ≤ _; omega⟩
            case measure => rw [sxM_at Hx4.out, Hm0.out, Hc4.out]; omega
          | false =>
            rw [h3, skipS_no h3] at HK3
            have Q3 := Lib.hid h3
            clear h3
            go_wp2_with fail
            refine Calls.mono HK3.out ?_
            rintro e w4 ⟨rfl, hx4, hg4⟩
            have Hx4 := Lib.hid hx4
            have Hg4 := Lib.hid (grow_trans Hg3.out hg4)
            clear hx4 hg4 HK3 Hg3
            go_wp2_with fail
            go_loopw [20, 3, 4] (fun i out fnd wr => LoInv W0 g s acc i out fnd wr) (fun i _ _ _ => 32 - (intOf i).toNat)
            case atStart => exact ⟨0, by omega, rfl, rfl, rfl, Hx4.out, Hg4.out, fun j hj => by omega⟩
            case round =>
              clear Hx4 Hg4
              obtain ⟨c, hc32, rfl, rfl, rfl, hx5, hg5, hno⟩ := hrel
              have Hx5 := Lib.hid hx5
              have Hg5 := Lib.hid hg5
              have Hno := Lib.hid hno
              clear hx5 hg5 hno
              by_cases hc : c < 32
              · have hwr : IntKind.u64.wrap (c : Int) = (c : Int) := by rw [IntKind.wrap_u64]; omega
                have HC1 := Lib.hid (fun W => chr_any (c : Int) W (by omega) (by omega))
                rw [show (c : Int).toNat = c from Int.toNat_natCast c] at HC1
                obtain ⟨q8, qx⟩ := low_cut ⟨c, hc⟩
                dsimp only at q8 qx
                have HQ1 := Lib.hid (fun W => rQuote_any ⟨#[UInt8.ofNat c]⟩ W (by show 6 * 1 + 8 ≤ _; omega))
                rw [show (⟨#[UInt8.ofNat c]⟩ : ByteArray).data.toList = [UInt8.ofNat c] from rfl] at HQ1
                obtain ⟨qc, hqc⟩ : ∃ qc, (⟨(quoteL [UInt8.ofNat c]).toArray⟩ : ByteArray) = qc := ⟨_, rfl⟩
                obtain ⟨bc, hbc⟩ : ∃ bc, (⟨(quoteB (UInt8.ofNat c)).toArray⟩ : ByteArray) = bc := ⟨_, rfl⟩
                obtain ⟨one, hone⟩ : ∃ one, (⟨#[UInt8.ofNat c]⟩ : ByteArray) = one := ⟨_, rfl⟩
                have h1z : one.size = 1 := by rw [← hone]; rfl
                rw [hqc] at q8 qx HQ1
                rw [hbc] at qx
                rw [hone] at HC1 HQ1
                have Hp := Lib.hid (show hasR bc s = hasPrefix s.data.toList (quoteB (UInt8.ofNat c)) from by rw [← hbc]; rfl)
                have H6 := Lib.hid (show bc.size = 6 from by rw [← hbc]; exact low_size c hc)
                have Hone := Lib.hid hone
                clear hqc hbc hone
                go_wp2_with fail
                refine Calls.mono (HC1.out _) ?_
                rintro e w5 ⟨rfl, hb5⟩
                have Hb5 := Lib.hid hb5
                clear hb5
                go_wp2_with fail
                refine Calls.mono (HQ1.out _) ?_
                rintro e w6 ⟨rfl, hb6⟩
                have hx6 : SxAt w6 g s := (Hx5.out.below Hb5.out).below hb6
                have HK6 := Lib.hid (sskip g s bc w6 hx6)
                have Hg6 := Lib.hid (grow_trans (grow_trans Hg5.out (grow_below g Hb5.out)) (grow_below g hb6))
                clear hb6 hx6
                cases hp : hasPrefix s.data.toList (quoteB (UInt8.ofNat c)) with
                | true =>
                  have hR6 : hasR bc s = true := Hp.out.trans hp
                  have hsz : 6 ≤ s.size := by have := hasR_size hR6; have := H6.out; omega
                  have HE := Lib.hid (show qRun n (acc ++ one) (s.extract 6 s.size) = R from by rw [← Hn.out, q_low Q1.out Q2.out Q3.out (lowR_at hc hp Hno.out), Hone.out])
                  rw [hR6, skipS_yes hR6, H6.out] at HK6
                  clear hp hR6
                  go_wp2_with fail
                  refine Calls.mono HK6.out ?_
                  rintro e w7 ⟨rfl, hx7, hg7⟩
                  have Hx7 := Lib.hid hx7
                  have Hg7 := Lib.hid (grow_trans Hg6.out hg7)
                  clear hx7 hg7
                  go_wp2_with fail
                  refine Calls.mono (HC1.out _) ?_
                  rintro e w8 ⟨rfl, hb8⟩
                  have hx8 := Hx7.out.below hb8
                  have Hx8 := Lib.hid hx8
                  have Hg8 := Lib.hid (grow_trans Hg7.out (grow_below g hb8))
                  have hadd : ¬ 9223372036854775807 < acc.size + one.size := by omega
                  have Hc8 := Lib.hid (cut_size s 6)
                  have H1z := Lib.hid h1z
                  clear hx8 hb8
                  go_wp2_with fail
                  go_roundw
                  case rel => exact ⟨⟨acc ++ one, s.extract 6 s.size, n, rfl, Hx8.out, Hg8.out, HE.out, by rw [Hc8.out]; omega, by rw [Hc8.out, ByteArray.size_append, H1z.out]; omega⟩, _, _, rfl, Hx8.out.1.cell 0, by rw [Hc8.out, ByteArray.size_append, H1z.out]; omega⟩
                  case measure => rw [sxM_at Hx8.out, Hm0.out, Hc8.out]; omega
                | false =>
                  have hR6 : hasR bc s = false := Hp.out.trans hp
                  have Hp6 := Lib.hid hp
                  rw [hR6, skipS_no hR6] at HK6
                  clear hp hR6
                  go_wp2_with fail
                  refine Calls.mono HK6.out ?_
                  rintro e w7 ⟨rfl, hx7, hg7⟩
                  have Hx7 := Lib.hid hx7
                  have Hg7 := Lib.hid (grow_trans Hg6.out hg7)
                  clear hx7 hg7
                  go_wp2_with fail
                  go_roundw
                  case rel => exact ⟨c + 1, by omega, by go_num, rfl, rfl, Hx7.out, Hg7.out, fun j hj => by
                    by_cases e : j = c
                    · rw [e]; exact Hp6.out
                    · exact Hno.out j (by omega)⟩
                  case measure => simp [intOf]; omega
              · have hcc : c = 32 := by omega
                have Hlow := Lib.hid (lowR_no (l := s.data.toList) (fun j hj => Hno.out j (by omega)))
                have y0 : wr.cell? ⟨g, 0, none⟩ = some (.string s) := Hx5.out.1.cell 0
                have z0 : wr.frozen? ⟨g, 0, none⟩ = false := Hx5.out.1.thaw 0
                have hgl5 := Hx5.out.1.lt
                have hd32 : decide ((c : Int) < 32) = false := decide_eq_false (by omega)
                have hnl : ¬ c < 32 := hc
                clear hcc hc
                by_cases hz : s.size = 0
                · have hse : s = ⟨#[]⟩ := empty_of hz
                  have HE := Lib.hid (show R = .bad 4 from by rw [← Hn.out, q_bad Q1.out Q2.out Q3.out Hlow.out (.inl (by rw [hse]))])
                  have HF := Lib.hid (show SxPost g R (fun t => Value.string t) w (thrown 4) wr from SxPost.mkBad HE.out (by rw [← HW0.out]; exact Hg5.out))
                  rw [hse] at y0
                  clear hse hz
                  go_wp2
                  exact ⟨rfl, HF.out⟩
                · have e3 := isEmpty_no hz
                  have e4 := beq_nil hz
                  have h0s : 0 < s.size := by omega
                  obtain ⟨cc, hcc⟩ : ∃ cc : Nat, (s[0]'h0s).toNat = cc := ⟨_, rfl⟩
                  have hix : ∀ W, (Instr.index 9 (.string s) (.int .i64 0)).run Tryz.prog W = .ok (.int .u8 (cc : Int)) W := fun W => by
                    have := idx_str h0s hcc W
                    simpa using this
                  have hhead : s.data.toList.head? = some (s[0]'h0s) := by
                    have := at_data h0s
                    rw [← List.head?_eq_getElem?] at this
                    exact this
                  have hnn : s.data.toList ≠ [] := fun e => by rw [e] at hhead; cases hhead
                  by_cases h92 : cc = 92
                  · have e5 : ((cc : Int) == 92) = true := by simp; omega
                    have HE := Lib.hid (show R = .bad 4 from by rw [← Hn.out, q_bad Q1.out Q2.out Q3.out Hlow.out (.inr (by rw [hhead]; congr 1; exact UInt8.toNat_inj.1 (hcc.trans h92)))])
                    have HF := Lib.hid (show SxPost g R (fun t => Value.string t) w (thrown 4) wr from SxPost.mkBad HE.out (by rw [← HW0.out]; exact Hg5.out))
                    clear h92 hhead hnn hcc hz
                    go_wp2
                    exact ⟨rfl, HF.out⟩
                  · have e5 : ((cc : Int) == 92) = false := by simp; omega
                    have HE := Lib.hid (show qRun n (acc ++ s.extract 0 1) (s.extract 1 s.size) = R from by
                      rw [← Hn.out, q_plain Q1.out Q2.out Q3.out Hlow.out]
                      rintro (h | h)
                      · exact hnn h
                      · rw [hhead] at h
                        injection h with h
                        exact h92 (by rw [← hcc, h]; rfl))
                    have hz1 : (s.extract 0 1).size = 1 := by rw [ByteArray.size_extract]; omega
                    obtain ⟨one, hone⟩ : ∃ one, s.extract 0 1 = one := ⟨_, rfl⟩
                    have Hone := Lib.hid hone
                    rw [hone] at hz1 HE
                    have hadd : ¬ 9223372036854775807 < acc.size + one.size := by omega
                    have hadd2 : ¬ 9223372036854775807 < acc.size + (s.extract 0 1).size := by rw [hone]; omega
                    have h1s : (1 : Int) ≤ (s.size : Int) := by omega
                    have hzs := Lib.hid (extract_small (k := 1) Hx5.out.2)
                    have Hx7 := Lib.hid (Hx5.out.set _ hzs.out)
                    have Hg7 := Lib.hid (bes_set Hg5.out 0 (.string (s.extract 1 s.size)))
                    have Hc8 := Lib.hid (cut_size s 1)
                    have H1z := Lib.hid hz1
                    clear h92 hhead hnn hcc hz
                    go_wp2_with fail
                    go_roundw
                    case rel => exact ⟨⟨acc ++ one, s.extract 1 s.size, n, by rw [← Hone.out], Hx7.out, Hg7.out, HE.out, by rw [Hc8.out]; omega, by rw [Hc8.out, ByteArray.size_append, H1z.out]; omega⟩, _, _, by rw [← Hone.out], Hx7.out.1.cell 0, by rw [Hc8.out, ByteArray.size_append, Hone.out, H1z.out]; omega⟩
                    case measure => rw [sxM_at Hx7.out, Hm0.out, Hc8.out]; omega
end Go.Proofs.YtcodhhabfacnjaaGreatDoor
