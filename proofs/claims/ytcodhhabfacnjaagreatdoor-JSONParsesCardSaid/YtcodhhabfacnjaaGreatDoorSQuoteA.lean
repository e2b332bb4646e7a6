/- Of the proof of a statement: PlJson, QuoteA, LayJoin. -/
import Derived.Lib.ItoaNum
import Derived.Lib.Join
import Derived.Deep.RegionLaw
import Derived.Shelf.Strings.OnBuilder
import Derived.Ground.NamesProg
import Derived.Test.YtcodhhabfacnjaaGreatDoorProg
import Derived.Test.YtcodhhabfacnjaaGreatDoorSRecs
import Derived.Test.YtcodhhabfacnjaaGreatDoorSTabs
set_option linter.unusedVariables false
set_option linter.unusedSimpArgs false
/- What Print says: plain. -/
namespace Go.Proofs.YtcodhhabfacnjaaGreatDoor
/-- The bytes of a word of the text. -/
def ascii (s : String) : List UInt8 := s.toUTF8.data.toList
/-- A field: its name, and a number or a text. -/
inductive FV where
  | num (n : Int)
  | txt (s : ByteArray)
def fvL : FV → List UInt8
  | .num n => Go.Lib.itoa n
  | .txt s => quoteL s.data.toList
def fieldL (f : ByteArray × FV) : List UInt8 := quoteL f.1.data.toList ++ [58] ++ fvL f.2
/-- With a comma between. -/
def commaL : List (List UInt8) → List UInt8
  | [] => []
  | x :: l => x ++ l.flatMap fun y => 44 :: y
def objL (l : List (ByteArray × FV)) : List UInt8 := [123] ++ commaL (l.map fieldL) ++ [125]
def arrL (name : ByteArray) (l : List (List UInt8)) : List UInt8 := [44] ++ quoteL name.data.toList ++ [58, 91] ++ commaL l ++ [93]
theorem commaL_snoc (l : List (List UInt8)) (y : List UInt8) : commaL (l ++ [y]) = if l = [] then y else commaL l ++ 44 :: y := by
  cases l with
  | nil => simp [commaL]
  | cons x l => simp [commaL]
theorem commaL_join (l : List (List UInt8)) : Go.Lib.join l [44] = commaL l := by
  cases l with
  | nil => rfl
  | cons x l =>
    rw [Go.Lib.join_cons]
    show x ++ (l.map fun y => [44] ++ y).flatten = x ++ l.flatMap fun y => 44 :: y
    rw [List.flatMap_def]
    rfl
/-- The three rows. -/
def jobFs (j : JobD) : List (ByteArray × FV) := [(⟨#[110, 97, 109, 101]⟩, .txt j.name), (⟨#[112, 114, 105, 111]⟩, .num j.prio), (⟨#[110, 101, 101, 100]⟩, .num j.need), (⟨#[116, 114, 105, 101, 115]⟩, .num j.tries), (⟨#[116, 97, 103]⟩, .txt j.tag)]
def nodeFs (n : NodeD) : List (ByteArray × FV) := [(⟨#[110, 97, 109, 101]⟩, .txt n.name), (⟨#[114, 111, 111, 109]⟩, .num n.room), (⟨#[122, 111, 110, 101]⟩, .txt n.zone)]
def leaseFs (l : LeaseD) : List (ByteArray × FV) := [(⟨#[106, 111, 98]⟩, .txt l.job), (⟨#[110, 111, 100, 101]⟩, .txt l.node), (⟨#[117, 110, 116, 105, 108]⟩, .num l.till)]
def printL (st : StateD) : List UInt8 := [123, 34, 114, 101, 118, 34, 58] ++ Go.Lib.itoa st.rev ++ arrL ⟨#[106, 111, 98, 115]⟩ (st.jobs.map fun j => objL (jobFs j)) ++ arrL ⟨#[110, 111, 100, 101, 115]⟩ (st.nodes.map fun n => objL (nodeFs n)) ++ arrL ⟨#[108, 101, 97, 115, 101, 115]⟩ (st.leases.map fun l => objL (leaseFs l)) ++ [125]
end Go.Proofs.YtcodhhabfacnjaaGreatDoor
/- The walks of Quote, in the program and in the reference. -/
namespace Go.Proofs.YtcodhhabfacnjaaGreatDoor
open Go.RowKit
set_option maxRecDepth 100000 in
theorem hex_idx (n : Int) (h0 : 0 ≤ n) (h1 : n < 16) (W : World) : (Instr.index 9 (.string ⟨#[48, 49, 50, 51, 52, 53, 54, 55, 56, 57, 97, 98, 99, 100, 101, 102]⟩) (.int .u8 n)).run Tryz.prog W = .ok (.int .u8 ((hexB n.toNat).toNat : Int)) W := by
  have hsz : hexS.size = 16 := rfl
  have hlt : n.toNat < hexS.size := by omega
  have e := run_index_string (P := Tryz.prog) W 9 hexS .u8 n Tryz.underlying9
  rw [dif_pos ⟨h0, by omega⟩] at e
  refine e.trans ?_
  have h2 := hexS_at ⟨n.toNat, by omega⟩
  have h3 : hexS.data.toList[n.toNat]? = some (hexS[n.toNat]'hlt) := by rw [List.getElem?_eq_getElem (by simpa using hlt)]; rfl
  simp only at h2
  rw [h3] at h2
  injection h2 with h2
  have h4 : (hexS[n.toNat]'hlt).toNat = (hexB n.toNat).toNat := h2
  rw [h4]
def QInv (base : Nat) (A : Option Addr) (m c : Nat) (l : List UInt8) (s : ByteArray) (w : World) (v i : Value) (wr : World) : Prop :=
  ∃ (A' : Option Addr) (m' c' k : Nat), v = .slice A' m' c' ∧ i = .int .i64 k ∧ k ≤ s.size ∧ wr.ownsRow base 5 1 (.slice A' m' c') m' (bytesV (l ++ quoteP (s.data.toList.take k))) ∧ Grew w wr (.slice A m c) (.slice A' m' c')
set_option maxRecDepth 100000 in
set_option maxHeartbeats 1000000 in
theorem quote_any (base : Nat) (A : Option Addr) (m c : Nat) (l : List UInt8) (s : ByteArray) (w : World) (hown : w.ownsRow base 5 1 (.slice A m c) m (bytesV l)) (hm : m + 6 * s.size + 8 ≤ 140737488355328) (hb : base ≤ w.heap.size) :
    Calls Tryz.prog 46 #[.slice A m c, .string s] w (PutPost base A m c (l ++ quoteL s.data.toList) w) := by
  have hs : s.size ≤ 140737488355328 := by omega
  have hl : l.length = m := by have := hown.1; simpa [bytesV] using this
  have Hl := Lib.hid hl
  have Hm := Lib.hid hm
  have Ho := Lib.hid hown
  clear hm hl hown
  go_enter Tryz.func46, Tryz.ntmps46
  go_wp2_with (at_builtin; refine push_u8 rfl _ _ rfl base _ _ _ _ rfl Ho.out _ 34 rfl rfl (by have := Hm.out; omega) hb ?_; intro A1 c1 w1 ho1 hg1)
  go_loopw [0, 5, 6, 12, 22, 33] (fun v _ _ i _ _ wr => QInv base A m c l s w v i wr) (fun _ _ _ i _ _ _ => s.size - (intOf i).toNat)
  case atStart => exact ⟨A1, m + 1, c1, 0, rfl, rfl, by omega, by simpa [quoteP] using ho1, hg1⟩
  case round =>
    clear ho1 hg1
    obtain ⟨A', m', c', k, rfl, rfl, hk, ho, hg⟩ := hrel
    have hlen : m' ≤ m + 6 * s.size + 1 := by
      have e2 := ho.1
      have e3 := quoteP_len (s.data.toList.take k)
      simp only [bytesV_length, List.length_append, List.length_take] at e2 e3
      have := Hl.out
      omega
    have Hm' := Lib.hid (show m' + 6 ≤ 140737488355328 from by have := Hm.out; omega)
    have hbr : base ≤ wr.heap.size := Nat.le_trans hb hg.grown.size
    clear hlen
    by_cases hsz : k < s.size
    · obtain ⟨c, hc⟩ : ∃ c : UInt8, s[k] = c := ⟨_, rfl⟩
      have hc2 : c.toNat < 256 := c.toNat_lt
      have Hi := idx_str hsz (congrArg UInt8.toNat hc)
      have Hst := Lib.hid (show quoteP (s.data.toList.take (k + 1)) = quoteP (s.data.toList.take k) ++ quoteB c from by rw [toList_take_succ hsz, hc, quoteP_snoc])
      clear hc
      by_cases h34 : c.toNat = 34 ∨ c.toNat = 92
      · have Hesc := Lib.hid (quoteB_esc h34)
        rcases Nat.lt_or_ge c.toNat 35 with h | h
        · have e1 : ((c.toNat : Int) == 34) = true := by rw [beq_iff_eq]; omega
          clear h34 h
          go_wp2_with (at_builtin; refine push_bytes rfl _ _ rfl base _ _ _ _ rfl ho _ 2 (by decide) [92, c] rfl rfl rfl (by have := Hm'.out; omega) hbr ?_; intro A2 c2 w2 ho2 hg2)
          go_roundw
          case rel => exact ⟨A2, m' + 2, c2, k + 1, rfl, by go_num, by omega, by rw [Hst.out, Hesc.out, ← List.append_assoc]; exact ho2, hg.trans hg2⟩
          case measure => simp [intOf]; omega
        · have e1 : ((c.toNat : Int) == 34) = false := by rw [beq_eq_false_iff_ne]; omega
          have e2 : ((c.toNat : Int) == 92) = true := by rw [beq_iff_eq]; omega
          clear h34 h
          go_wp2_with (at_builtin; refine push_bytes rfl _ _ rfl base _ _ _ _ rfl ho _ 2 (by decide) [92, c] rfl rfl rfl (by have := Hm'.out; omega) hbr ?_; intro A2 c2 w2 ho2 hg2)
          go_roundw
          case rel => exact ⟨A2, m' + 2, c2, k + 1, rfl, by go_num, by omega, by rw [Hst.out, Hesc.out, ← List.append_assoc]; exact ho2, hg.trans hg2⟩
          case measure => simp [intOf]; omega
      · have e1 : ((c.toNat : Int) == 34) = false := by rw [beq_eq_false_iff_ne]; omega
        have e2 : ((c.toNat : Int) == 92) = false := by rw [beq_eq_false_iff_ne]; omega
        by_cases h32 : c.toNat < 32
        · have Hlow := Lib.hid (quoteB_low h32)
          have hx1 := hex_idx ((c.toNat : Int) / 16) (by omega) (by omega)
          have hx2 := hex_idx (bits .and .u8 (c.toNat : Int) 15) (by rw [hex_lo _ hc2]; omega) (by rw [hex_lo _ hc2]; omega)
          have Hlo := Lib.hid (show (bits .and .u8 (c.toNat : Int) 15).toNat = c.toNat % 16 from by rw [hex_lo _ hc2]; omega)
          have Hhi := Lib.hid (show ((c.toNat : Int) / 16).toNat = c.toNat / 16 from by omega)
          clear h34
          go_wp2
          go_region_law (refine step_bytes rfl _ _ rfl base _ _ _ _ rfl ho _ 6 _ [92, 117, 48, 48, hexB ((c.toNat : Int) / 16).toNat, hexB (bits .and .u8 (c.toNat : Int) 15).toNat] rfl (by decide) rfl rfl Hm'.out hbr ?_; intro A2 c2 w2 ho2 hg2)
          all_goals go_wp2
          all_goals exact ⟨⟨A2, m' + 6, c2, k + 1, rfl, by go_num, by omega, by rw [Hst.out, Hlow.out, ← Hlo.out, ← Hhi.out, ← List.append_assoc]; exact ho2, hg.trans hg2⟩, by simp only [intOf]; omega⟩
        · have Hpl := Lib.hid (quoteB_plain (c := c) (by omega) (by omega) h32)
          clear h34
          go_wp2_with (at_builtin; refine push_u8 rfl _ _ rfl base _ _ _ _ rfl ho _ c rfl rfl (by have := Hm'.out; omega) hbr ?_; intro A2 c2 w2 ho2 hg2)
          go_roundw
          case rel => exact ⟨A2, m' + 1, c2, k + 1, rfl, by go_num, by omega, by rw [Hst.out, Hpl.out, ← List.append_assoc]; exact ho2, hg.trans hg2⟩
          case measure => simp [intOf]; omega
    · have Hall := Lib.hid (show s.data.toList.take k = s.data.toList from List.take_of_length_le (by simp; omega))
      go_wp2_with (at_builtin; refine push_u8 rfl _ _ rfl base _ _ _ _ rfl ho _ 34 rfl rfl (by have := Hm'.out; omega) hbr ?_; intro A2 c2 w2 ho2 hg2)
      go_ret
      exact ⟨A2, m' + 1, c2, rfl, by rw [Hall.out, List.append_assoc] at ho2; exact ho2, hg.trans hg2⟩
end Go.Proofs.YtcodhhabfacnjaaGreatDoor
/- Contracts of the library laid at this program, in plain words (written by the kit's lay-plain.mjs). -/
namespace Go.Proofs
open Go.Shelf
def laysJoin_ren : Go.Shelf.Ren := ⟨fun | 156 => 42 | 165 => 66 | 166 => 67 | 169 => 68 | 240 => 81 | 241 => 82 | 276 => 95 | 277 => 96 | n => n, fun | 31 => 90 | 9 => 9 | 3 => 3 | 4 => 4 | 0 => 0 | 20 => 20 | 72 => 120 | 76 => 63 | 70 => 118 | 37 => 78 | 75 => 62 | 127 => 133 | 164 => 143 | 5 => 5 | 80 => 54 | n => n, fun | n => n⟩
theorem laysJoin : Go.Proofs.Lays.n156 Tryz.prog laysJoin_ren := {
  mixed := by kernel_rfl
  f156 := Tryz.func42.trans (congrArg some (by kernel_rfl))
  f165 := Tryz.func66.trans (congrArg some (by kernel_rfl))
  f166 := Tryz.func67.trans (congrArg some (by kernel_rfl))
  f169 := Tryz.func68.trans (congrArg some (by kernel_rfl))
  f240 := Tryz.func81.trans (congrArg some (by kernel_rfl))
  f241 := Tryz.func82.trans (congrArg some (by kernel_rfl))
  f276 := Tryz.func95.trans (congrArg some (by kernel_rfl))
  f277 := Tryz.func96.trans (congrArg some (by kernel_rfl))
  t0 := Tryz.underlying0
  a0 := Tryz.isAgg0
  z0 := Tryz.sizeOf0
  v0 := Tryz.zeroValue0
  t3 := Tryz.underlying3
  a3 := Tryz.isAgg3
  z3 := Tryz.sizeOf3
  v3 := Tryz.zeroValue3
  t4 := Tryz.underlying4
  a4 := Tryz.isAgg4
  z4 := Tryz.sizeOf4
  v4 := Tryz.zeroValue4
  t9 := Tryz.underlying9
  a9 := Tryz.isAgg9
  z9 := Tryz.sizeOf9
  v9 := Tryz.zeroValue9
  t20 := Tryz.underlying20
  a20 := Tryz.isAgg20
  z20 := Tryz.sizeOf20
  v20 := Tryz.zeroValue20
  t31 := Tryz.underlying90
  a31 := Tryz.isAgg90
  z31 := Tryz.sizeOf90
  v31 := Tryz.zeroValue90
  t37 := Tryz.underlying78
  a37 := Tryz.isAgg78
  z37 := Tryz.sizeOf78
  v37 := Tryz.zeroValue78
  t70 := Tryz.underlying118
  a70 := Tryz.isAgg118
  z70 := Tryz.sizeOf118
  v70 := Tryz.zeroValue118
  t72 := Tryz.underlying120
  a72 := Tryz.isAgg120
  z72 := Tryz.sizeOf120
  v72 := Tryz.zeroValue120
  t75 := Tryz.underlying62
  a75 := Tryz.isAgg62
  z75 := Tryz.sizeOf62
  v75 := Tryz.zeroValue62
  t76 := Tryz.underlying63
  a76 := Tryz.isAgg63
  z76 := Tryz.sizeOf63
  v76 := Tryz.zeroValue63
  t127 := Tryz.underlying133
  a127 := Tryz.isAgg133
  z127 := Tryz.sizeOf133
  v127 := Tryz.zeroValue133
  t164 := Tryz.underlying143
  a164 := Tryz.isAgg143
  z164 := Tryz.sizeOf143
  v164 := Tryz.zeroValue143 }
end Go.Proofs
