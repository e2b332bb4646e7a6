/- Of the proof of a statement: RFol. -/
import Derived.Test.YtjgnnobccecpeaaGreatDoorRNumRow
import Derived.Test.YtjgnnobccecpeaaGreatDoorRRApply
import Derived.Test.YtjgnnobccecpeaaGreatDoorRRDDec
set_option linter.unusedVariables false
set_option linter.unusedSimpArgs false
set_option maxRecDepth 100000
set_option maxHeartbeats 8000000
/- The reference's Follow. -/
namespace Go.Proofs.YtjgnnobccecpeaaGreatDoor
open Go.Lib (hid)
open Go.RowKit
theorem grow_reflB {w : World} {k : Nat} {t : TypeId} {cs : Array Value} (_ : Blk w k t cs) : w.grownBy w (some k) := grow_refl w k
def sizes (ps : List ByteArray) : Nat := (ps.map ByteArray.size).sum
theorem sizes_take {ps : List ByteArray} {k : Nat} {p : ByteArray} (h : ps[k]? = some p) : sizes (ps.take (k + 1)) = sizes (ps.take k) + p.size := by
 unfold sizes; rw [List.take_add_one, h]; simp
theorem sizes_le (ps : List ByteArray) (k : Nat) : sizes (ps.take k) ≤ sizes ps := by
 unfold sizes
 conv => rhs; rw [← List.take_append_drop k ps]
 rw [List.map_append, List.sum_append]; omega
theorem rest_append {all p : ByteArray} {a : Nat} (h : a ≤ all.size) : (all ++ p).extract a (all ++ p).size = all.extract a all.size ++ p := by
 have e : all.data.toList.length = all.size := by rw [Array.length_toList]; rfl
 have e2 : p.data.toList.length = p.size := by rw [Array.length_toList]; rfl
 apply ByteArray.ext
 apply Array.toList_inj.1
 simp only [Lib.extract_data, ByteArray.toList_data_append, ByteArray.size_append]
 rw [List.drop_append_of_le_length (by omega), List.take_of_length_le (by rw [List.length_append, List.length_drop]; omega), List.take_of_length_le (by rw [List.length_drop]; omega)]
theorem SlAt.apartS {W w2 : World} {B g n : Nat} {t : TypeId} {cs : Array Value} {A : Option Addr} {fs : List FrameM} (h : SlAt W B 3 A n (rowsV frmC fs)) (hb : Blk W g t cs) (hc : ∀ v ∈ cs, ∀ s, v ≠ .string s) (hl : fs.length = n) (hg : W.grownBy w2 (some g)) : SlAt w2 B 3 A n (rowsV frmC fs) :=
 ⟨h.len, fun hn => by
  obtain ⟨b, off, e, hB, hr⟩ := h.at_ hn
  obtain ⟨a, ha⟩ := head_of (enc := frmC) hl hn
  have h1 := hr 2 _ (ha 2 _ rfl)
  have hbg : b ≠ g := fun e => by
   subst e
   rw [hb.cell] at h1
   exact hc _ (Array.mem_of_getElem? h1) _ rfl
  exact ⟨b, off, e, hB, fun j u hu => cell_grownOther hg hbg (hr j u hu)⟩⟩
structure RfAt (w : World) (cur : Option StateD) (mv ev : Value) (ms es : List Int) (wr : World) : Prop where
 b : Below w.heap.size w wr
 res : Blk wr w.heap.size 26 zSta
 st : ∃ x, Blk wr (w.heap.size + 1) 26 (stC (saidF cur) x) ∧ StAt wr wr.heap.size (saidF cur) x
 two : TwoAt wr (w.heap.size + 2) mv ev ms es
theorem RfAt.below {w wr w2 : World} {cur : Option StateD} {mv ev : Value} {ms es : List Int} (h : RfAt w cur mv ev ms es wr) (hb : Below wr.heap.size wr w2) : RfAt w cur mv ev ms es w2 := by
 obtain ⟨h1, h2, ⟨x, h3, h4⟩, h5⟩ := h
 exact ⟨h1.trans (hb.mono h1.size), h2.below hb h2.lt, ⟨x, h3.below hb h3.lt, (h4.below hb).more hb.size⟩, h5.below hb⟩
theorem RfAt.set {w w2 w3 : World} {cur cur' : Option StateD} {mv ev : Value} {ms es : List Int} {x' : StA} (h : RfAt w cur mv ev ms es w2) (hg : w2.grownBy w3 (some (w.heap.size + 1))) (hB : Blk w3 (w.heap.size + 1) 26 (stC (saidF cur') x')) (hS : StAt w2 w2.heap.size (saidF cur') x') : RfAt w cur' mv ev ms es w3 := by
 obtain ⟨h1, h2, ⟨x, h3, h4⟩, h5⟩ := h
 exact ⟨grow_keep h1 hg (by omega), grow_blk hg h2 (by omega), ⟨x', hB, (hS.butZ h3 (stC_noStr _ _) hg).more hg.size⟩, h5.grow hg (by omega)⟩
def RfI (w : World) (F : FolD) (A : Option Addr) (n : Nat) (fs : List FrameM) (mv ev : Value) (ms es : List Int) (has first i : Value) (wr : World) : Prop :=
 ∃ (k : Nat) (cur : Option StateD) (z : Int), k ≤ n ∧ i = .int .i64 (k : Int) ∧ has = .bool cur.isSome ∧ first = .int .i64 z ∧ runF F.st (fs.take k) = (cur, z) ∧ SlAt wr wr.heap.size 3 A n (rowsV frmC fs) ∧ RfAt w cur mv ev ms es wr
theorem RfI.step {w wr : World} {F : FolD} {A : Option Addr} {n k : Nat} {fs : List FrameM} {mv ev : Value} {ms es : List Int} {cur cur' : Option StateD} {z z' E : Int} {f : FrameM} (h1 : runF F.st (fs.take k) = (cur, z)) (h2 : fs[k]? = some f) (h3 : frameF cur f = (cur', E)) (h4 : z' = if z = 0 then E else z) (hk : k < n)
 (h5 : SlAt wr wr.heap.size 3 A n (rowsV frmC fs)) (h6 : RfAt w cur' mv ev ms es wr) : RfI w F A n fs mv ev ms es (.bool cur'.isSome) (.int .i64 z') (.int .i64 ((k + 1 : Nat) : Int)) wr :=
 ⟨k + 1, cur', z', hk, rfl, rfl, rfl, by rw [runF_snoc h2, h1]; unfold stepF; rw [h3, h4], h5, h6⟩
theorem RfAt.pushed {w wr w2 w3 : World} {cur : Option StateD} {mv ev mv' ev' : Value} {ms es : List Int} {x y : Int} (h : RfAt w cur mv ev ms es wr) (h2 : NumRow w2 (w.heap.size + 2) 3 mv' (ms ++ [x])) (p2 : Pushed wr w2 (w.heap.size + 2) mv mv') (h3 : NumRow w3 (w.heap.size + 2) 29 ev' (es ++ [y])) (p3 : Pushed w2 w3 (w.heap.size + 2) ev ev') : RfAt w cur mv' ev' (ms ++ [x]) (es ++ [y]) w3 := by
 obtain ⟨h1, hr, ⟨X, hs, hS⟩, h5⟩ := h
 have hsz := hs.lt
 have b2 := p2.below h5.rm (by omega)
 have b3 := p3.below (two_keep h5.re p2.grew h5.d).1 (by have := b2.size; omega)
 have b := b2.trans b3
 exact ⟨h1.trans (b.mono (by omega)), hr.below b (by omega), ⟨X, hs.below b (by omega), ((hS.pushed p2).pushed p3).more b.size⟩, h5.push h2 p2 h3 p3⟩
theorem folN_is {F : FolD} {s : ByteArray} {fs : List FrameM} {m e : Nat} {cur : Option StateD} {z : Int} (h : runF F.st fs = (cur, z)) : folN F s fs m e = (⟨if e = 3 then s.extract m s.size else ⟨#[]⟩, F.far + m, if e = 3 then 0 else e, cur⟩, fs.length, if z = 0 then ((if e = 3 then 0 else e : Nat) : Int) else z) := by
 unfold folN; rw [h]
def RfO (ps : List ByteArray) (n : Nat) (w : World) (has all at_ stuck mv ev i : Value) (wr : World) : Prop :=
 ∃ (k : Nat) (al : ByteArray) (F : FolD) (ms es : List Int), k ≤ n ∧ i = .int .i64 (k : Int) ∧ folF (ps.take k) = (F, ms, es) ∧ has = .bool F.st.isSome ∧ all = .string al ∧ at_ = .int .i64 (F.far : Int) ∧ stuck = .int .i64 (F.stuck : Int) ∧ al.size ≤ sizes (ps.take k) ∧ F.far ≤ al.size ∧ (F.stuck = 0 → F.rest = al.extract F.far al.size) ∧ RfAt w F.st mv ev ms es wr
def FoPost (ps : List ByteArray) (w : World) (e : Ending) (w' : World) : Prop :=
 ∃ (x : StA) (mv ev : Value), e = .returned (.tuple #[.agg (stC (saidF (folF ps).1.st) x), .bool (folF ps).1.st.isSome, mv, ev]) ∧ StAt w' w'.heap.size (saidF (folF ps).1.st) x ∧ TwoAt w' (w.heap.size + 2) mv ev (folF ps).2.1 (folF ps).2.2 ∧ Below w.heap.size w w'
theorem rfollow_any (ps : List ByteArray) (A0 : Option Addr) (n0 c0 : Nat) (w : World) (hx : SlAt w w.heap.size 1 A0 n0 (ps.map Value.string)) (hl : ps.length = n0) (hsum : sizes ps ≤ 1048576) (hn : n0 ≤ 1048576) :
 Calls Tryz.prog 24 #[.slice A0 n0 c0] w (FoPost ps w) := by
 have Hl := hid hl
 have Hs := hid hsum
 have Hx := hid hx
 have HR0 : Hid (RfAt w none (.slice none 0 0) (.slice none 0 0) [] [] ((w.alloc (.cells zSta 26)).alloc (.cells zSta 26))) := hid
  { b := ((Below.refl _ _).alloc (Nat.le_refl _) _).alloc (by simp) _
    res := Blk.alloc (show Blk _ _ _ _ from heap_alloc_new w _) _
    st := ⟨nilA, by
     have h := heap_alloc_new (w.alloc (.cells zSta 26)) (.cells zSta 26)
     rw [show (w.alloc (.cells zSta 26)).heap.size = w.heap.size + 1 by simp] at h
     exact h, zeroAt _ _⟩
    two := TwoAt.nil _ _ }
 clear hl hsum hx
 go_enter Tryz.func24, Tryz.ntmps24
 go_wp2
 go_loopw [7, 8, 9, 10, 11, 12, 26] (fun has al at_ st mv ev i wr => RfO ps n0 w has al at_ st mv ev i wr) (fun _ _ _ _ _ _ i _ => n0 - (intOf i).toNat)
 case atStart => exact ⟨0, ⟨#[]⟩, ⟨⟨#[]⟩, 0, 0, none⟩, [], [], Nat.zero_le _, rfl, rfl, rfl, rfl, rfl, rfl, Nat.zero_le _, Nat.le_refl _, fun _ => rfl, HR0.out⟩
 case round =>
  obtain ⟨k0, ab, F, ms, es, hk0, rfl, hfo, rfl, rfl, rfl, rfl, hal, hfar, hrest, hR⟩ := hrel
  have HR := hid hR
  have hbr := hR.b.size
  have hml := (folF_len (ps.take k0)).1
  have hel := (folF_len (ps.take k0)).2
  rw [hfo] at hml hel
  have hmz : ms.length ≤ 1048576 := by rw [show ms.length = _ from hml, List.length_take]; omega
  have hez : es.length ≤ 1048576 := by rw [show es.length = _ from hel, List.length_take]; omega
  have hBr : w.heap.size + 2 ≤ wr.heap.size := by obtain ⟨X, hX, _⟩ := hR.st; have := hX.lt; omega
  by_cases hlt0 : k0 < n0
  · obtain ⟨p, hp⟩ : ∃ p, ps[k0]? = some p := ⟨_, List.getElem?_eq_getElem (by rw [Hl.out]; exact hlt0)⟩
    have hst := sizes_take hp
    have hle := sizes_le ps (k0 + 1)
    have hss := Hs.out
    have hfs := folF_snoc hp
    rw [hfo] at hfs
    unfold folS at hfs
    obtain ⟨b0, off0, u0, rfl, hb0, hu0, hc0⟩ := (Hx.out.below hR.b).cell (j := k0) (by omega)
    rw [List.getElem?_map, hp] at hu0
    injection hu0 with hu0
    subst hu0
    by_cases hst0 : F.stuck = 0
    · obtain ⟨frest, far, stuck, cst⟩ := F
      simp only at *
      subst hst0
      rw [pushF_go rfl] at hfs
      simp only at hfs
      obtain ⟨s, hs⟩ : ∃ s, frest ++ p = s := ⟨_, rfl⟩
      rw [hs] at hfs
      have hf := frsF_is s
      generalize frsF s = r at hf hfs
      obtain ⟨fs, m, e⟩ := r
      simp only at hf hfs
      obtain ⟨al2, hal2⟩ : ∃ al2, ab ++ p = al2 := ⟨_, rfl⟩
      have hs2 : al2.extract far al2.size = s := by rw [← hal2, rest_append hfar, ← hs, hrest rfl]
      have hz : al2.size = ab.size + p.size := by rw [← hal2, ByteArray.size_append]
      have hfa := hf.facts
      have hzs : s.size = al2.size - far := by rw [← hs2, ByteArray.size_extract]; omega
      have hcl : ¬ 9223372036854775807 < ab.size + p.size := by omega
      have hcl2 : ab.size + p.size ≤ 9223372036854775807 := by omega
      have q1 : ∀ W : World, (Instr.slice 9 (.string al2) (some (.int .i64 (far : Int))) none none).run Tryz.prog W = .ok (.string s) W := fun W => by
       rw [run_slice_string_from_if (P := Tryz.prog) (w := W) 9 al2 .i64 (far : Int) Tryz.underlying9, if_pos ⟨by omega, by omega⟩, show ((far : Int)).toNat = far from by omega, hs2]
      have o1 : IntKind.i64.wrap ((far : Int) + m) = (far : Int) + m := by rw [IntKind.wrap_i64]; omega
      have hne := hfa.2.1
      have Hz := hid hz
      have Hst := hid hst
      have Hk := hid (And.intro hal hfar)
      have Hm := hid (show far + m ≤ al2.size from by omega)
      have Hfr := hid hf
      have Hfs := hid hfs
      have Hs2 := hid hs2
      have hfl : fs.length ≤ 2097152 := by omega
      have Hpay := hid (fun f hf' => Nat.le_trans (Frs.pays hf f hf') (show s.size ≤ 2097152 from by omega))
      have hssz := hid (show s.size ≤ 2097152 from by omega)
      clear hR hfo hfs hrest hst hp hs hs2 hz hzs hfa hf hal hfar
      go_wp2_with fail
      refine Calls.mono (rframes_any Hfr.out _ hssz.out) ?_
      rintro x w1 ⟨A, n, c, rfl, hlen, hS, hb1⟩
      have Hlen := hid hlen
      have hnn : n ≤ 2097152 := by omega
      have HS := hid hS
      have HR1 := hid (HR.out.below hb1)
      clear hlen hS hb1 hc0
      go_wp2
      go_loopw [7, 15, 55] (fun has first i wr => RfI w ⟨frest, far, 0, cst⟩ A n fs u11 u12 ms es has first i wr) (fun _ _ i _ => n - (intOf i).toNat)
      case atStart => exact ⟨0, cst, 0, Nat.zero_le _, rfl, rfl, rfl, rfl, HS.out, HR1.out⟩
      case round =>
       obtain ⟨k, cur, z, hk, rfl, rfl, rfl, hru, hSl, hRi⟩ := hrel
       obtain ⟨x, hsB, hsA⟩ := hRi.st
       have hBi : w.heap.size + 2 ≤ wr.heap.size := by have := hsB.lt; omega
       have Hrun := hid hru
       have HRi := hid hRi
       have HSl := hid hSl
       by_cases hlt : k < n
       · obtain ⟨f, hfk⟩ : ∃ f, fs[k]? = some f := ⟨_, List.getElem?_eq_getElem (by rw [Hlen.out]; exact hlt)⟩
         have Hfk := hid hfk
         obtain ⟨b, off, rfl, hbB, hc⟩ := hSl.rec_ frmC_len Hlen.out hfk
         have hpy := Hpay.out f (List.mem_of_getElem? hfk)
         obtain ⟨ver, kind, pay⟩ := f
         have hpz : pay.size ≤ 9223372036854775807 := Nat.le_trans hpy (by omega)
         obtain ⟨d0, d1, d2⟩ := rc3 hc
         obtain ⟨S, hSe⟩ : ∃ S, saidF cur = S := ⟨_, rfl⟩
         rw [hSe] at hsB hsA
         obtain ⟨srev, sj, sn, sl⟩ := S
         obtain ⟨aj, nj, cj, an, nn, cn, al, nl, cl⟩ := x
         replace hsB : Blk wr (w.heap.size + 1) 26 #[.int .i64 srev, .slice aj nj cj, .slice an nn cn, .slice al nl cl] := hsB
         have hsF := hsB.alloc (.cells #[.int .i64 (ver : Int), .int .i64 (kind : Int), .string pay] 151)
         have s0 := (show _ = (some (.int .i64 srev) : Option Value) from hsF.cell 0)
         have s1 := (show _ = (some (.slice aj nj cj) : Option Value) from hsF.cell 1)
         have s2 := (show _ = (some (.slice an nn cn) : Option Value) from hsF.cell 2)
         have s3 := (show _ = (some (.slice al nl cl) : Option Value) from hsF.cell 3)
         obtain ⟨W1, hW1⟩ : ∃ W1, ((wr.alloc (.cells #[.int .i64 (ver : Int), .int .i64 (kind : Int), .string pay] 151)).alloc (.cells #[.int .i64 srev, .slice aj nj cj, .slice an nn cn, .slice al nl cl] 26)) = W1 := ⟨_, rfl⟩
         have hb1 : Below wr.heap.size wr W1 := by rw [← hW1]; exact ((Below.refl _ _).alloc (Nat.le_refl _) _).alloc (by simp) _
         have hs1 : W1.heap.size = wr.heap.size + 2 := by rw [← hW1]; simp
         have hF1 : Blk W1 wr.heap.size 151 #[.int .i64 (ver : Int), .int .i64 (kind : Int), .string pay] := by rw [← hW1]; exact Blk.alloc (show Blk _ _ _ _ from heap_alloc_new wr _) _
         have hN1 : Blk W1 (wr.heap.size + 1) 26 #[.int .i64 srev, .slice aj nj cj, .slice an nn cn, .slice al nl cl] := by
          rw [← hW1]
          have h := heap_alloc_new (wr.alloc (.cells #[.int .i64 (ver : Int), .int .i64 (kind : Int), .string pay] 151)) (.cells #[.int .i64 srev, .slice aj nj cj, .slice an nn cn, .slice al nl cl] 26)
          rwa [show (wr.alloc (.cells #[.int .i64 (ver : Int), .int .i64 (kind : Int), .string pay] 151)).heap.size = wr.heap.size + 1 by simp] at h
         have x0 : W1.cell? ⟨wr.heap.size, 0, none⟩ = some (.int .i64 (ver : Int)) := hF1.cell 0
         have x1 : W1.cell? ⟨wr.heap.size, 1, none⟩ = some (.int .i64 (kind : Int)) := hF1.cell 1
         have x2 : W1.cell? ⟨wr.heap.size, 2, none⟩ = some (.string pay) := hF1.cell 2
         have HF1 := hid hF1
         have HN1 := hid hN1
         have HsB := hid hsB
         have HsA := hid hsA
         have Hb1 := hid hb1
         have HW := hid hW1
         have HSe := hid hSe
         have Hpz := hid hpz
         rw [← HW.out] at x0 x1 x2
         have Hgo := hid (fun h => RfI.step (z' := z) Hrun.out Hfk.out h (show z = if z = 0 then 0 else z by split <;> omega) hlt (HSl.out.up Hb1.out) (HRi.out.below Hb1.out))
         clear hru hRi hSl hc hfk hsB hsA hsF hb1 hF1 hN1 hW1 hSe hpy hpz
         by_cases hv : ver = 3
         rotate_left
         · have e1 : ((ver : Int) == 3) = false := beq_eq_false_iff_ne.2 (by omega)
           have Hv := hid (Hgo.out (fr_ver hv))
           clear Hgo hv
           go_wp2
           go_roundw
           case rel => rw [HW.out]; exact Hv.out
           case measure => simp [intOf]; omega
         have e1 : ((ver : Int) == 3) = true := by rw [hv]; rfl
         by_cases hk1 : kind = 1
         · have k1 : ((kind : Int) == 1) = true := by rw [hk1]; rfl
           have Hv := hid (And.intro hv hk1)
           clear hv hk1 Hgo
           go_wp2_with fail
           rw [HW.out]
           refine Calls.mono (rdecode_any pay 3 W1 Hpz.out) ?_
           rintro e w2 ⟨st, x, E, rfl, hd, hA, hb2⟩
           have hz2 := hb2.size
           have hN2 := HN1.out.below hb2 HN1.out.lt
           have hB2 := Hb1.out.trans (hb2.mono Hb1.out.size)
           have hS2 := HsB.out.below hB2 HsB.out.lt
           have Hd := hid hd
           obtain ⟨trev, tj, tn, tl⟩ := st
           obtain ⟨bj, mj, ej, bn, mn, en, bl, ml, el⟩ := x
           simp only [stC]
           clear hd s0 s1 s2 s3 x0 x1 x2 d0 d1 d2
           have r0 := (show _ = (some (.int .i64 srev) : Option Value) from hN2.cell 0)
           have rz0 := hN2.thaw 0
           have r1 := (show _ = (some (.slice aj nj cj) : Option Value) from hN2.cell 1)
           have rz1 := hN2.thaw 1
           have r2 := (show _ = (some (.slice an nn cn) : Option Value) from hN2.cell 2)
           have rz2 := hN2.thaw 2
           have r3 := (show _ = (some (.slice al nl cl) : Option Value) from hN2.cell 3)
           have rz3 := hN2.thaw 3
           have hN3 := (Blk.eq ((Blk.eq ((Blk.eq ((Blk.eq (hN2.set 0 (.int .i64 trev)) (show _ = #[.int .i64 trev, .slice aj nj cj, .slice an nn cn, .slice al nl cl] from rfl)).set 1 (.slice bj mj ej)) (show _ = #[.int .i64 trev, .slice bj mj ej, .slice an nn cn, .slice al nl cl] from rfl)).set 2 (.slice bn mn en)) (show _ = #[.int .i64 trev, .slice bj mj ej, .slice bn mn en, .slice al nl cl] from rfl)).set 3 (.slice bl ml el)) (show _ = #[.int .i64 trev, .slice bj mj ej, .slice bn mn en, .slice bl ml el] from rfl))
           have hGn := (bes_set (bes_set (bes_set (bes_set (grow_reflB hN2) 0 (.int .i64 trev)) 1 (.slice bj mj ej)) 2 (.slice bn mn en)) 3 (.slice bl ml el))
           have hB3 := grow_keep hB2 hGn (by omega)
           have hS3 := grow_blk hGn hS2 (by omega)
           have hR3 := HRi.out.below hB3
           have hL3 := HSl.out.up hB3
           have hA3 := (hA.butZ hN2 (stC_noStr ⟨srev, sj, sn, sl⟩ ⟨aj, nj, cj, an, nn, cn, al, nl, cl⟩) hGn).more hGn.size
           by_cases hE : E = 0
           · subst hE
             have v0 := (show _ = (some (.int .i64 trev) : Option Value) from hN3.cell 0)
             have v1 := (show _ = (some (.slice bj mj ej) : Option Value) from hN3.cell 1)
             have v2 := (show _ = (some (.slice bn mn en) : Option Value) from hN3.cell 2)
             have v3 := (show _ = (some (.slice bl ml el) : Option Value) from hN3.cell 3)
             have s0 := (show _ = (some (.int .i64 srev) : Option Value) from hS3.cell 0)
             have y0 := hS3.thaw 0
             have s1 := (show _ = (some (.slice aj nj cj) : Option Value) from hS3.cell 1)
             have y1 := hS3.thaw 1
             have s2 := (show _ = (some (.slice an nn cn) : Option Value) from hS3.cell 2)
             have y2 := hS3.thaw 2
             have s3 := (show _ = (some (.slice al nl cl) : Option Value) from hS3.cell 3)
             have y3 := hS3.thaw 3
             have hS4 := (Blk.eq ((Blk.eq ((Blk.eq ((Blk.eq (hS3.set 0 (.int .i64 trev)) (show _ = #[.int .i64 trev, .slice aj nj cj, .slice an nn cn, .slice al nl cl] from rfl)).set 1 (.slice bj mj ej)) (show _ = #[.int .i64 trev, .slice bj mj ej, .slice an nn cn, .slice al nl cl] from rfl)).set 2 (.slice bn mn en)) (show _ = #[.int .i64 trev, .slice bj mj ej, .slice bn mn en, .slice al nl cl] from rfl)).set 3 (.slice bl ml el)) (show _ = #[.int .i64 trev, .slice bj mj ej, .slice bn mn en, .slice bl ml el] from rfl))
             have hG4 := (bes_set (bes_set (bes_set (bes_set (grow_reflB hS3) 0 (.int .i64 trev)) 1 (.slice bj mj ej)) 2 (.slice bn mn en)) 3 (.slice bl ml el))
             have t0 := (show _ = (some (.int .i64 trev) : Option Value) from hS4.cell 0)
             have t1 := (show _ = (some (.slice bj mj ej) : Option Value) from hS4.cell 1)
             have t2 := (show _ = (some (.slice bn mn en) : Option Value) from hS4.cell 2)
             have t3 := (show _ = (some (.slice bl ml el) : Option Value) from hS4.cell 3)
             have Hfin := hid (fun z' hz => RfI.step (F := ⟨frest, far, 0, cst⟩) (z' := z') Hrun.out Hfk.out (fr_state Hv.out.1 Hv.out.2 Hd.out) hz hlt ((hL3.apartS hS3 (stC_noStr ⟨srev, sj, sn, sl⟩ ⟨aj, nj, cj, an, nn, cn, al, nl, cl⟩) Hlen.out hG4).more hG4.size) (RfAt.set (x' := ⟨bj, mj, ej, bn, mn, en, bl, ml, el⟩) (cur' := (some ⟨trev, tj, tn, tl⟩)) hR3 hG4 hS4 hA3))
             clear hS3 hN3 hR3 hL3 hS4 hG4 hN2 hS2 hB2 hGn hB3 hA hA3 hb2
             by_cases h0 : z = 0
             · subst h0
               have Hv := hid (Hfin.out (0) rfl)
               clear Hfin
               go_wp2
               go_roundw
               case rel => exact Hv.out
               case measure => simp [intOf]; omega
             · have f0 : (z == 0) = false := beq_eq_false_iff_ne.2 h0
               have Hv := hid (Hfin.out z (by rw [if_neg h0]))
               clear Hfin h0
               go_wp2
               go_roundw
               case rel => exact Hv.out
               case measure => simp [intOf]; omega
           · have e3 : (E == 0) = false := beq_eq_false_iff_ne.2 hE
             have v0 := (show _ = (some (.int .i64 trev) : Option Value) from hN3.cell 0)
             have v1 := (show _ = (some (.slice bj mj ej) : Option Value) from hN3.cell 1)
             have v2 := (show _ = (some (.slice bn mn en) : Option Value) from hN3.cell 2)
             have v3 := (show _ = (some (.slice bl ml el) : Option Value) from hN3.cell 3)
             have s0 := (show _ = (some (.int .i64 srev) : Option Value) from hS3.cell 0)
             have y0 := hS3.thaw 0
             have s1 := (show _ = (some (.slice aj nj cj) : Option Value) from hS3.cell 1)
             have y1 := hS3.thaw 1
             have s2 := (show _ = (some (.slice an nn cn) : Option Value) from hS3.cell 2)
             have y2 := hS3.thaw 2
             have s3 := (show _ = (some (.slice al nl cl) : Option Value) from hS3.cell 3)
             have y3 := hS3.thaw 3
             have hS4 := (Blk.eq ((Blk.eq ((Blk.eq ((Blk.eq (hS3.set 0 (.int .i64 trev)) (show _ = #[.int .i64 trev, .slice aj nj cj, .slice an nn cn, .slice al nl cl] from rfl)).set 1 (.slice bj mj ej)) (show _ = #[.int .i64 trev, .slice bj mj ej, .slice an nn cn, .slice al nl cl] from rfl)).set 2 (.slice bn mn en)) (show _ = #[.int .i64 trev, .slice bj mj ej, .slice bn mn en, .slice al nl cl] from rfl)).set 3 (.slice bl ml el)) (show _ = #[.int .i64 trev, .slice bj mj ej, .slice bn mn en, .slice bl ml el] from rfl))
             have hG4 := (bes_set (bes_set (bes_set (bes_set (grow_reflB hS3) 0 (.int .i64 trev)) 1 (.slice bj mj ej)) 2 (.slice bn mn en)) 3 (.slice bl ml el))
             have t0 := (show _ = (some (.int .i64 trev) : Option Value) from hS4.cell 0)
             have t1 := (show _ = (some (.slice bj mj ej) : Option Value) from hS4.cell 1)
             have t2 := (show _ = (some (.slice bn mn en) : Option Value) from hS4.cell 2)
             have t3 := (show _ = (some (.slice bl ml el) : Option Value) from hS4.cell 3)
             have hy0 := hS4.thaw 0
             have hy1 := hS4.thaw 1
             have hy2 := hS4.thaw 2
             have hy3 := hS4.thaw 3
             have hS5 := (Blk.eq ((Blk.eq ((Blk.eq ((Blk.eq (hS4.set 0 (.int .i64 0)) (show _ = #[.int .i64 0, .slice bj mj ej, .slice bn mn en, .slice bl ml el] from rfl)).set 1 (.slice none 0 0)) (show _ = #[.int .i64 0, .slice none 0 0, .slice bn mn en, .slice bl ml el] from rfl)).set 2 (.slice none 0 0)) (show _ = #[.int .i64 0, .slice none 0 0, .slice none 0 0, .slice bl ml el] from rfl)).set 3 (.slice none 0 0)) (show _ = zSta from rfl))
             have hG5x := (bes_set (bes_set (bes_set (bes_set (grow_reflB hS4) 0 (.int .i64 0)) 1 (.slice none 0 0)) 2 (.slice none 0 0)) 3 (.slice none 0 0))
             have hG5 := grow_trans hG4 hG5x
             have Hfin := hid (fun z' hz => RfI.step (F := ⟨frest, far, 0, cst⟩) (z' := z') Hrun.out Hfk.out (fr_stateE Hv.out.1 Hv.out.2 Hd.out hE) hz hlt ((hL3.apartS hS3 (stC_noStr ⟨srev, sj, sn, sl⟩ ⟨aj, nj, cj, an, nn, cn, al, nl, cl⟩) Hlen.out hG5).more hG5.size) (RfAt.set (cur' := none) hR3 hG5 (show Blk _ _ _ (stC (saidF none) nilA) from hS5) (zeroAt _ _)))
             clear hS3 hN3 hR3 hL3 hS4 hG4 hS5 hG5 hG5x hN2 hS2 hB2 hGn hB3 hA hA3 hb2 hE
             by_cases h0 : z = 0
             · subst h0
               have Hv := hid (Hfin.out (E) rfl)
               clear Hfin
               go_wp2
               go_roundw
               case rel => exact Hv.out
               case measure => simp [intOf]; omega
             · have f0 : (z == 0) = false := beq_eq_false_iff_ne.2 h0
               have Hv := hid (Hfin.out z (by rw [if_neg h0]))
               clear Hfin h0
               go_wp2
               go_roundw
               case rel => exact Hv.out
               case measure => simp [intOf]; omega
         have k1 : ((kind : Int) == 1) = false := beq_eq_false_iff_ne.2 (by omega)
         by_cases hk2 : kind = 2
         rotate_left
         · have k2 : ((kind : Int) == 2) = false := beq_eq_false_iff_ne.2 (by omega)
           have Hv := hid (Hgo.out (fr_kind hv hk1 hk2))
           clear Hgo hv hk1 hk2
           go_wp2
           go_roundw
           case rel => rw [HW.out]; exact Hv.out
           case measure => simp [intOf]; omega
         have k2 : ((kind : Int) == 2) = true := by rw [hk2]; rfl
         cases cur with
         | none =>
          have Hv := hid (Hgo.out (fr_none hv hk2))
          clear Hgo hv hk1 hk2
          go_wp2
          go_roundw
          case rel => rw [HW.out]; exact Hv.out
          case measure => simp [intOf]; omega
         | some s0 =>
          obtain rfl : s0 = ⟨srev, sj, sn, sl⟩ := HSe.out
          have Hv := hid (And.intro hv hk2)
          obtain ⟨Wd, hWd⟩ : ∃ Wd, W1.alloc (.cells zDel 49) = Wd := ⟨_, rfl⟩
          have hbd : Below W1.heap.size W1 Wd := by rw [← hWd]; exact (Below.refl _ _).alloc (Nat.le_refl _) _
          have hDd : Blk Wd (wr.heap.size + 2) 49 zDel := by
           rw [← hWd]
           have h := heap_alloc_new W1 (.cells zDel 49)
           rwa [hs1] at h
          have hzd := hbd.size
          have x2d : Wd.cell? ⟨wr.heap.size, 2, none⟩ = some (.string pay) := (HF1.out.below hbd HF1.out.lt).cell 2
          have HWd := hid hWd
          rw [← HWd.out, ← HW.out] at x2d
          have Hbd := hid (Hb1.out.trans (hbd.mono Hb1.out.size))
          have HDd := hid hDd
          have HNd := hid (HN1.out.below hbd HN1.out.lt)
          clear hv hk1 hk2 Hgo hbd hDd hWd
          go_wp2_with fail
          rw [HW.out, HWd.out]
          refine Calls.mono (rddecode_any pay Wd Hpz.out) ?_
          rintro e w2 ⟨d, y, E, rfl, hd, hA, hb2⟩
          have hz2 := hb2.size
          have hB2 := Hbd.out.trans (hb2.mono Hbd.out.size)
          have hD2 := HDd.out.below hb2 HDd.out.lt
          have hN2 := HNd.out.below hb2 HNd.out.lt
          have hS2 := HsB.out.below hB2 HsB.out.lt
          have Hd := hid hd
          obtain ⟨from_, to_, djobs, dnodes, dleases, ggj, ggn, ggl⟩ := d
          obtain ⟨bj, mj, ej, bn, mn, en, bl, ml, el, gj, qj, fj, gn, qn, fn, gl, ql, fl⟩ := y
          simp only [dC]
          clear hd s0 s1 s2 s3 x0 x1 x2 x2d d0 d1 d2
          have r0 := (show _ = (some (.int .i64 0) : Option Value) from hD2.cell 0)
          have rz0 := hD2.thaw 0
          have r1 := (show _ = (some (.int .i64 0) : Option Value) from hD2.cell 1)
          have rz1 := hD2.thaw 1
          have r2 := (show _ = (some (.slice none 0 0) : Option Value) from hD2.cell 2)
          have rz2 := hD2.thaw 2
          have r3 := (show _ = (some (.slice none 0 0) : Option Value) from hD2.cell 3)
          have rz3 := hD2.thaw 3
          have r4 := (show _ = (some (.slice none 0 0) : Option Value) from hD2.cell 4)
          have rz4 := hD2.thaw 4
          have r5 := (show _ = (some (.slice none 0 0) : Option Value) from hD2.cell 5)
          have rz5 := hD2.thaw 5
          have r6 := (show _ = (some (.slice none 0 0) : Option Value) from hD2.cell 6)
          have rz6 := hD2.thaw 6
          have r7 := (show _ = (some (.slice none 0 0) : Option Value) from hD2.cell 7)
          have rz7 := hD2.thaw 7
          have hD3 := (Blk.eq ((Blk.eq ((Blk.eq ((Blk.eq ((Blk.eq ((Blk.eq ((Blk.eq ((Blk.eq (hD2.set 0 (.int .i64 from_)) (show _ = #[.int .i64 from_, .int .i64 0, .slice none 0 0, .slice none 0 0, .slice none 0 0, .slice none 0 0, .slice none 0 0, .slice none 0 0] from rfl)).set 1 (.int .i64 to_)) (show _ = #[.int .i64 from_, .int .i64 to_, .slice none 0 0, .slice none 0 0, .slice none 0 0, .slice none 0 0, .slice none 0 0, .slice none 0 0] from rfl)).set 2 (.slice bj mj ej)) (show _ = #[.int .i64 from_, .int .i64 to_, .slice bj mj ej, .slice none 0 0, .slice none 0 0, .slice none 0 0, .slice none 0 0, .slice none 0 0] from rfl)).set 3 (.slice bn mn en)) (show _ = #[.int .i64 from_, .int .i64 to_, .slice bj mj ej, .slice bn mn en, .slice none 0 0, .slice none 0 0, .slice none 0 0, .slice none 0 0] from rfl)).set 4 (.slice bl ml el)) (show _ = #[.int .i64 from_, .int .i64 to_, .slice bj mj ej, .slice bn mn en, .slice bl ml el, .slice none 0 0, .slice none 0 0, .slice none 0 0] from rfl)).set 5 (.slice gj qj fj)) (show _ = #[.int .i64 from_, .int .i64 to_, .slice bj mj ej, .slice bn mn en, .slice bl ml el, .slice gj qj fj, .slice none 0 0, .slice none 0 0] from rfl)).set 6 (.slice gn qn fn)) (show _ = #[.int .i64 from_, .int .i64 to_, .slice bj mj ej, .slice bn mn en, .slice bl ml el, .slice gj qj fj, .slice gn qn fn, .slice none 0 0] from rfl)).set 7 (.slice gl ql fl)) (show _ = #[.int .i64 from_, .int .i64 to_, .slice bj mj ej, .slice bn mn en, .slice bl ml el, .slice gj qj fj, .slice gn qn fn, .slice gl ql fl] from rfl))
          have hGd := (bes_set (bes_set (bes_set (bes_set (bes_set (bes_set (bes_set (bes_set (grow_reflB hD2) 0 (.int .i64 from_)) 1 (.int .i64 to_)) 2 (.slice bj mj ej)) 3 (.slice bn mn en)) 4 (.slice bl ml el)) 5 (.slice gj qj fj)) 6 (.slice gn qn fn)) 7 (.slice gl ql fl))
          have q0 := (show _ = (some (.int .i64 from_) : Option Value) from hD3.cell 0)
          have q1 := (show _ = (some (.int .i64 to_) : Option Value) from hD3.cell 1)
          have q2 := (show _ = (some (.slice bj mj ej) : Option Value) from hD3.cell 2)
          have q3 := (show _ = (some (.slice bn mn en) : Option Value) from hD3.cell 3)
          have q4 := (show _ = (some (.slice bl ml el) : Option Value) from hD3.cell 4)
          have q5 := (show _ = (some (.slice gj qj fj) : Option Value) from hD3.cell 5)
          have q6 := (show _ = (some (.slice gn qn fn) : Option Value) from hD3.cell 6)
          have q7 := (show _ = (some (.slice gl ql fl) : Option Value) from hD3.cell 7)
          have hB3 := grow_keep hB2 hGd (by omega)
          have hS3 := grow_blk hGd hS2 (by omega)
          have hN3 := grow_blk hGd hN2 (by omega)
          have hR3 := HRi.out.below hB3
          have hL3 := HSl.out.up hB3
          by_cases hE : E = 0
          rotate_left
          · have e3 : (E == 0) = false := beq_eq_false_iff_ne.2 hE
            have v0 := (show _ = (some (.int .i64 srev) : Option Value) from hN3.cell 0)
            have v1 := (show _ = (some (.slice aj nj cj) : Option Value) from hN3.cell 1)
            have v2 := (show _ = (some (.slice an nn cn) : Option Value) from hN3.cell 2)
            have v3 := (show _ = (some (.slice al nl cl) : Option Value) from hN3.cell 3)
            have s0 := (show _ = (some (.int .i64 srev) : Option Value) from hS3.cell 0)
            have y0 := hS3.thaw 0
            have s1 := (show _ = (some (.slice aj nj cj) : Option Value) from hS3.cell 1)
            have y1 := hS3.thaw 1
            have s2 := (show _ = (some (.slice an nn cn) : Option Value) from hS3.cell 2)
            have y2 := hS3.thaw 2
            have s3 := (show _ = (some (.slice al nl cl) : Option Value) from hS3.cell 3)
            have y3 := hS3.thaw 3
            have hS4 := (Blk.eq ((Blk.eq ((Blk.eq ((Blk.eq (hS3.set 0 (.int .i64 srev)) (show _ = #[.int .i64 srev, .slice aj nj cj, .slice an nn cn, .slice al nl cl] from rfl)).set 1 (.slice aj nj cj)) (show _ = #[.int .i64 srev, .slice aj nj cj, .slice an nn cn, .slice al nl cl] from rfl)).set 2 (.slice an nn cn)) (show _ = #[.int .i64 srev, .slice aj nj cj, .slice an nn cn, .slice al nl cl] from rfl)).set 3 (.slice al nl cl)) (show _ = #[.int .i64 srev, .slice aj nj cj, .slice an nn cn, .slice al nl cl] from rfl))
            have hG4 := (bes_set (bes_set (bes_set (bes_set (grow_reflB hS3) 0 (.int .i64 srev)) 1 (.slice aj nj cj)) 2 (.slice an nn cn)) 3 (.slice al nl cl))
            have t0 := (show _ = (some (.int .i64 srev) : Option Value) from hS4.cell 0)
            have t1 := (show _ = (some (.slice aj nj cj) : Option Value) from hS4.cell 1)
            have t2 := (show _ = (some (.slice an nn cn) : Option Value) from hS4.cell 2)
            have t3 := (show _ = (some (.slice al nl cl) : Option Value) from hS4.cell 3)
            have hy0 := hS4.thaw 0
            have hy1 := hS4.thaw 1
            have hy2 := hS4.thaw 2
            have hy3 := hS4.thaw 3
            have hS5 := (Blk.eq ((Blk.eq ((Blk.eq ((Blk.eq (hS4.set 0 (.int .i64 0)) (show _ = #[.int .i64 0, .slice aj nj cj, .slice an nn cn, .slice al nl cl] from rfl)).set 1 (.slice none 0 0)) (show _ = #[.int .i64 0, .slice none 0 0, .slice an nn cn, .slice al nl cl] from rfl)).set 2 (.slice none 0 0)) (show _ = #[.int .i64 0, .slice none 0 0, .slice none 0 0, .slice al nl cl] from rfl)).set 3 (.slice none 0 0)) (show _ = zSta from rfl))
            have hG5x := (bes_set (bes_set (bes_set (bes_set (grow_reflB hS4) 0 (.int .i64 0)) 1 (.slice none 0 0)) 2 (.slice none 0 0)) 3 (.slice none 0 0))
            have hG5 := grow_trans hG4 hG5x
            have Hfin := hid (fun z' hz => RfI.step (F := ⟨frest, far, 0, cst⟩) (z' := z') Hrun.out Hfk.out (fr_deltaE Hv.out.1 Hv.out.2 Hd.out hE) hz hlt ((hL3.apartS hS3 (stC_noStr ⟨srev, sj, sn, sl⟩ ⟨aj, nj, cj, an, nn, cn, al, nl, cl⟩) Hlen.out hG5).more hG5.size) (RfAt.set (cur' := none) hR3 hG5 (show Blk _ _ _ (stC (saidF none) nilA) from hS5) (zeroAt _ _)))
            clear hS3 hN3 hR3 hL3 hS4 hG4 hS5 hG5 hG5x hD2 hD3 hN2 hS2 hB2 hGd hB3 hA hb2 hE q0 q1 q2 q3 q4 q5 q6 q7
            by_cases h0 : z = 0
            · subst h0
              have Hv := hid (Hfin.out (E) rfl)
              clear Hfin
              go_wp2
              go_roundw
              case rel => exact Hv.out
              case measure => simp [intOf]; omega
            · have f0 : (z == 0) = false := beq_eq_false_iff_ne.2 h0
              have Hv := hid (Hfin.out z (by rw [if_neg h0]))
              clear Hfin h0
              go_wp2
              go_roundw
              case rel => exact Hv.out
              case measure => simp [intOf]; omega
          subst hE
          obtain ⟨wd, hwd⟩ : ∃ W, ((((((((w2.setCell ⟨wr.heap.size + 2, 0, none⟩ (.int .i64 from_)).setCell ⟨wr.heap.size + 2, 1, none⟩ (.int .i64 to_)).setCell ⟨wr.heap.size + 2, 2, none⟩ (.slice bj mj ej)).setCell ⟨wr.heap.size + 2, 3, none⟩ (.slice bn mn en)).setCell ⟨wr.heap.size + 2, 4, none⟩ (.slice bl ml el)).setCell ⟨wr.heap.size + 2, 5, none⟩ (.slice gj qj fj)).setCell ⟨wr.heap.size + 2, 6, none⟩ (.slice gn qn fn)).setCell ⟨wr.heap.size + 2, 7, none⟩ (.slice gl ql fl)) = W := ⟨_, rfl⟩
          have hA3 := (hA.butZ hD2 (by simp) hGd).more hGd.size
          have hsA3 := HsA.out.up hB3
          rw [hwd] at hB3 hS3 hN3 hA3 hsA3
          have HWD := hid hwd
          have HB := hid hB3
          have HsA3 := hid hsA3
          have HdA := hid hA3
          have HS3 := hid hS3
          have HN3 := hid hN3
          have s0 := (show _ = (some (.int .i64 srev) : Option Value) from hS3.cell 0)
          have s1 := (show _ = (some (.slice aj nj cj) : Option Value) from hS3.cell 1)
          have s2 := (show _ = (some (.slice an nn cn) : Option Value) from hS3.cell 2)
          have s3 := (show _ = (some (.slice al nl cl) : Option Value) from hS3.cell 3)
          rw [← HWD.out] at s0
          rw [← HWD.out] at s1
          rw [← HWD.out] at s2
          rw [← HWD.out] at s3
          clear hD2 hD3 hN2 hS2 hB2 hGd hB3 hA hA3 hsA3 hb2 hR3 hL3 hS3 hN3 hwd
          go_wp2_with fail
          rw [HWD.out]
          refine Calls.mono (rapply_any ⟨srev, sj, sn, sl⟩ ⟨aj, nj, cj, an, nn, cn, al, nl, cl⟩ ⟨from_, to_, djobs, dnodes, dleases, ggj, ggn, ggl⟩ ⟨bj, mj, ej, bn, mn, en, bl, ml, el, gj, qj, fj, gn, qn, fn, gl, ql, fl⟩ wd HsA3.out HdA.out) ?_
          rintro e w4 ⟨st4, x4, E, rfl, ha, hA4, hb4⟩
          have hz4 := hb4.size
          have hzb := HB.out.size
          have hN4 := HN3.out.below hb4 HN3.out.lt
          have hS4a := HS3.out.below hb4 HS3.out.lt
          have hB4 := HB.out.trans (hb4.mono HB.out.size)
          have Ha := hid ha
          obtain ⟨urev, vj, vn, vl⟩ := st4
          obtain ⟨uj, pj, oj, un, pn, on_, ul, pl, ol⟩ := x4
          simp only [stC]
          clear ha s0 s1 s2 s3 q0 r0 rz0 q1 r1 rz1 q2 r2 rz2 q3 r3 rz3 q4 r4 rz4 q5 r5 rz5 q6 r6 rz6 q7 r7 rz7
          have r0 := (show _ = (some (.int .i64 srev) : Option Value) from hN4.cell 0)
          have rz0 := hN4.thaw 0
          have r1 := (show _ = (some (.slice aj nj cj) : Option Value) from hN4.cell 1)
          have rz1 := hN4.thaw 1
          have r2 := (show _ = (some (.slice an nn cn) : Option Value) from hN4.cell 2)
          have rz2 := hN4.thaw 2
          have r3 := (show _ = (some (.slice al nl cl) : Option Value) from hN4.cell 3)
          have rz3 := hN4.thaw 3
          have hN3 := (Blk.eq ((Blk.eq ((Blk.eq ((Blk.eq (hN4.set 0 (.int .i64 urev)) (show _ = #[.int .i64 urev, .slice aj nj cj, .slice an nn cn, .slice al nl cl] from rfl)).set 1 (.slice uj pj oj)) (show _ = #[.int .i64 urev, .slice uj pj oj, .slice an nn cn, .slice al nl cl] from rfl)).set 2 (.slice un pn on_)) (show _ = #[.int .i64 urev, .slice uj pj oj, .slice un pn on_, .slice al nl cl] from rfl)).set 3 (.slice ul pl ol)) (show _ = #[.int .i64 urev, .slice uj pj oj, .slice un pn on_, .slice ul pl ol] from rfl))
          have hGn := (bes_set (bes_set (bes_set (bes_set (grow_reflB hN4) 0 (.int .i64 urev)) 1 (.slice uj pj oj)) 2 (.slice un pn on_)) 3 (.slice ul pl ol))
          have hB5 := grow_keep hB4 hGn (by omega)
          have hS3 := grow_blk hGn hS4a (by omega)
          have hR3 := HRi.out.below hB5
          have hL3 := HSl.out.up hB5
          have hA3 := (hA4.butZ hN4 (stC_noStr ⟨srev, sj, sn, sl⟩ ⟨aj, nj, cj, an, nn, cn, al, nl, cl⟩) hGn).more hGn.size
          by_cases hE : E = 0
          · subst hE
            have v0 := (show _ = (some (.int .i64 urev) : Option Value) from hN3.cell 0)
            have v1 := (show _ = (some (.slice uj pj oj) : Option Value) from hN3.cell 1)
            have v2 := (show _ = (some (.slice un pn on_) : Option Value) from hN3.cell 2)
            have v3 := (show _ = (some (.slice ul pl ol) : Option Value) from hN3.cell 3)
            have s0 := (show _ = (some (.int .i64 srev) : Option Value) from hS3.cell 0)
            have y0 := hS3.thaw 0
            have s1 := (show _ = (some (.slice aj nj cj) : Option Value) from hS3.cell 1)
            have y1 := hS3.thaw 1
            have s2 := (show _ = (some (.slice an nn cn) : Option Value) from hS3.cell 2)
            have y2 := hS3.thaw 2
            have s3 := (show _ = (some (.slice al nl cl) : Option Value) from hS3.cell 3)
            have y3 := hS3.thaw 3
            have hS4 := (Blk.eq ((Blk.eq ((Blk.eq ((Blk.eq (hS3.set 0 (.int .i64 urev)) (show _ = #[.int .i64 urev, .slice aj nj cj, .slice an nn cn, .slice al nl cl] from rfl)).set 1 (.slice uj pj oj)) (show _ = #[.int .i64 urev, .slice uj pj oj, .slice an nn cn, .slice al nl cl] from rfl)).set 2 (.slice un pn on_)) (show _ = #[.int .i64 urev, .slice uj pj oj, .slice un pn on_, .slice al nl cl] from rfl)).set 3 (.slice ul pl ol)) (show _ = #[.int .i64 urev, .slice uj pj oj, .slice un pn on_, .slice ul pl ol] from rfl))
            have hG4 := (bes_set (bes_set (bes_set (bes_set (grow_reflB hS3) 0 (.int .i64 urev)) 1 (.slice uj pj oj)) 2 (.slice un pn on_)) 3 (.slice ul pl ol))
            have t0 := (show _ = (some (.int .i64 urev) : Option Value) from hS4.cell 0)
            have t1 := (show _ = (some (.slice uj pj oj) : Option Value) from hS4.cell 1)
            have t2 := (show _ = (some (.slice un pn on_) : Option Value) from hS4.cell 2)
            have t3 := (show _ = (some (.slice ul pl ol) : Option Value) from hS4.cell 3)
            have Hfin := hid (fun z' hz => RfI.step (F := ⟨frest, far, 0, cst⟩) (z' := z') Hrun.out Hfk.out (fr_delta Hv.out.1 Hv.out.2 Hd.out Ha.out) hz hlt ((hL3.apartS hS3 (stC_noStr ⟨srev, sj, sn, sl⟩ ⟨aj, nj, cj, an, nn, cn, al, nl, cl⟩) Hlen.out hG4).more hG4.size) (RfAt.set (x' := ⟨uj, pj, oj, un, pn, on_, ul, pl, ol⟩) (cur' := (some ⟨urev, vj, vn, vl⟩)) hR3 hG4 hS4 hA3))
            clear hS3 hN3 hR3 hL3 hS4 hG4 hN4 hS4a hB4 hGn hB5 hA4 hA3 hb4
            by_cases h0 : z = 0
            · subst h0
              have Hv := hid (Hfin.out (0) rfl)
              clear Hfin
              go_wp2
              go_roundw
              case rel => exact Hv.out
              case measure => simp [intOf]; omega
            · have f0 : (z == 0) = false := beq_eq_false_iff_ne.2 h0
              have Hv := hid (Hfin.out z (by rw [if_neg h0]))
              clear Hfin h0
              go_wp2
              go_roundw
              case rel => exact Hv.out
              case measure => simp [intOf]; omega
          · have e3 : (E == 0) = false := beq_eq_false_iff_ne.2 hE
            have v0 := (show _ = (some (.int .i64 urev) : Option Value) from hN3.cell 0)
            have v1 := (show _ = (some (.slice uj pj oj) : Option Value) from hN3.cell 1)
            have v2 := (show _ = (some (.slice un pn on_) : Option Value) from hN3.cell 2)
            have v3 := (show _ = (some (.slice ul pl ol) : Option Value) from hN3.cell 3)
            have s0 := (show _ = (some (.int .i64 srev) : Option Value) from hS3.cell 0)
            have y0 := hS3.thaw 0
            have s1 := (show _ = (some (.slice aj nj cj) : Option Value) from hS3.cell 1)
            have y1 := hS3.thaw 1
            have s2 := (show _ = (some (.slice an nn cn) : Option Value) from hS3.cell 2)
            have y2 := hS3.thaw 2
            have s3 := (show _ = (some (.slice al nl cl) : Option Value) from hS3.cell 3)
            have y3 := hS3.thaw 3
            have hS4 := (Blk.eq ((Blk.eq ((Blk.eq ((Blk.eq (hS3.set 0 (.int .i64 urev)) (show _ = #[.int .i64 urev, .slice aj nj cj, .slice an nn cn, .slice al nl cl] from rfl)).set 1 (.slice uj pj oj)) (show _ = #[.int .i64 urev, .slice uj pj oj, .slice an nn cn, .slice al nl cl] from rfl)).set 2 (.slice un pn on_)) (show _ = #[.int .i64 urev, .slice uj pj oj, .slice un pn on_, .slice al nl cl] from rfl)).set 3 (.slice ul pl ol)) (show _ = #[.int .i64 urev, .slice uj pj oj, .slice un pn on_, .slice ul pl ol] from rfl))
            have hG4 := (bes_set (bes_set (bes_set (bes_set (grow_reflB hS3) 0 (.int .i64 urev)) 1 (.slice uj pj oj)) 2 (.slice un pn on_)) 3 (.slice ul pl ol))
            have t0 := (show _ = (some (.int .i64 urev) : Option Value) from hS4.cell 0)
            have t1 := (show _ = (some (.slice uj pj oj) : Option Value) from hS4.cell 1)
            have t2 := (show _ = (some (.slice un pn on_) : Option Value) from hS4.cell 2)
            have t3 := (show _ = (some (.slice ul pl ol) : Option Value) from hS4.cell 3)
            have hy0 := hS4.thaw 0
            have hy1 := hS4.thaw 1
            have hy2 := hS4.thaw 2
            have hy3 := hS4.thaw 3
            have hS5 := (Blk.eq ((Blk.eq ((Blk.eq ((Blk.eq (hS4.set 0 (.int .i64 0)) (show _ = #[.int .i64 0, .slice uj pj oj, .slice un pn on_, .slice ul pl ol] from rfl)).set 1 (.slice none 0 0)) (show _ = #[.int .i64 0, .slice none 0 0, .slice un pn on_, .slice ul pl ol] from rfl)).set 2 (.slice none 0 0)) (show _ = #[.int .i64 0, .slice none 0 0, .slice none 0 0, .slice ul pl ol] from rfl)).set 3 (.slice none 0 0)) (show _ = zSta from rfl))
            have hG5x := (bes_set (bes_set (bes_set (bes_set (grow_reflB hS4) 0 (.int .i64 0)) 1 (.slice none 0 0)) 2 (.slice none 0 0)) 3 (.slice none 0 0))
            have hG5 := grow_trans hG4 hG5x
            have Hfin := hid (fun z' hz => RfI.step (F := ⟨frest, far, 0, cst⟩) (z' := z') Hrun.out Hfk.out (fr_deltaA Hv.out.1 Hv.out.2 Hd.out Ha.out hE) hz hlt ((hL3.apartS hS3 (stC_noStr ⟨srev, sj, sn, sl⟩ ⟨aj, nj, cj, an, nn, cn, al, nl, cl⟩) Hlen.out hG5).more hG5.size) (RfAt.set (cur' := none) hR3 hG5 (show Blk _ _ _ (stC (saidF none) nilA) from hS5) (zeroAt _ _)))
            clear hS3 hN3 hR3 hL3 hS4 hG4 hS5 hG5 hG5x hN4 hS4a hB4 hGn hB5 hA4 hA3 hb4 hE
            by_cases h0 : z = 0
            · subst h0
              have Hv := hid (Hfin.out (E) rfl)
              clear Hfin
              go_wp2
              go_roundw
              case rel => exact Hv.out
              case measure => simp [intOf]; omega
            · have f0 : (z == 0) = false := beq_eq_false_iff_ne.2 h0
              have Hv := hid (Hfin.out z (by rw [if_neg h0]))
              clear Hfin h0
              go_wp2
              go_roundw
              case rel => exact Hv.out
              case measure => simp [intOf]; omega
       · obtain rfl : k = n := by omega
         have hrt : fs.take k = fs := List.take_of_length_le (by rw [Hlen.out]; omega)
         rw [hrt] at hru
         have hff := Hfs.out
         rw [folN_is (F := ⟨frest, far, 0, cst⟩) hru, Hlen.out] at hff
         clear hru hSl hsB hsA hrt Hrun
         by_cases h3 : e = 3
         · subst h3
           have Hrr := hid (show al2.extract (far + m) al2.size = s.extract m s.size from by
            rw [← Hs2.out, ByteArray.extract_extract, ByteArray.size_extract]; congr 1; omega)
           rw [if_pos rfl, if_pos rfl] at hff
           by_cases h0 : z = 0
           · subst h0
             rw [if_pos rfl] at hff
             have Hff := hid hff
             clear hff hRi
             go_wp2_with (first
              | (at_builtin; refine push_num rfl _ _ 64 3 rfl Tryz.underlying64 infoInt (w.heap.size + 2) _ ms rfl HRi.out.two.rm (_) _ (by simp) rfl (by omega) (by omega) ?_; intro v2 w2 ho2 hg2; have K2 := hid (two_keep HRi.out.two.re hg2.grew HRi.out.two.d); have H2 := hid ho2; have G2 := hid hg2; have hz2 := hg2.grew.grown.size; clear ho2 hg2)
              | (at_builtin; refine push_num rfl _ _ 65 29 rfl Tryz.underlying65 infoErrno (w.heap.size + 2) _ es rfl K2.out.1 (_) _ (by simp) rfl (by omega) (by omega) ?_; intro v3 w3 ho3 hg3; have H3 := hid ho3; have G3 := hid hg3; clear ho3 hg3))
             have HP := hid (RfAt.pushed HRi.out H2.out G2.out H3.out G3.out)
             go_roundw
             case rel => exact ⟨k0 + 1, al2, ⟨s.extract m s.size, far + m, 0, cur⟩, ms ++ [(k : Int)], es ++ [((0 : Nat) : Int)], by omega, by go_num, Hff.out, rfl, rfl, by go_num, rfl, by have := Hz.out; have := Hst.out; have := Hk.out.1; omega, Hm.out, fun _ => Hrr.out.symm, HP.out⟩
             case measure => simp [intOf]; omega
           · have f0 : (z == 0) = false := beq_eq_false_iff_ne.2 h0
             rw [if_neg h0] at hff
             have Hff := hid hff
             clear hff hRi h0
             go_wp2_with (first
              | (at_builtin; refine push_num rfl _ _ 64 3 rfl Tryz.underlying64 infoInt (w.heap.size + 2) _ ms rfl HRi.out.two.rm (_) _ (by simp) rfl (by omega) (by omega) ?_; intro v2 w2 ho2 hg2; have K2 := hid (two_keep HRi.out.two.re hg2.grew HRi.out.two.d); have H2 := hid ho2; have G2 := hid hg2; have hz2 := hg2.grew.grown.size; clear ho2 hg2)
              | (at_builtin; refine push_num rfl _ _ 65 29 rfl Tryz.underlying65 infoErrno (w.heap.size + 2) _ es rfl K2.out.1 (_) _ (by simp) rfl (by omega) (by omega) ?_; intro v3 w3 ho3 hg3; have H3 := hid ho3; have G3 := hid hg3; clear ho3 hg3))
             have HP := hid (RfAt.pushed HRi.out H2.out G2.out H3.out G3.out)
             go_roundw
             case rel => exact ⟨k0 + 1, al2, ⟨s.extract m s.size, far + m, 0, cur⟩, ms ++ [(k : Int)], es ++ [z], by omega, by go_num, Hff.out, rfl, rfl, by go_num, rfl, by have := Hz.out; have := Hst.out; have := Hk.out.1; omega, Hm.out, fun _ => Hrr.out.symm, HP.out⟩
             case measure => simp [intOf]; omega
         · have e3 : ((e : Int) != 3) = true := by simp; omega
           rw [if_neg h3, if_neg h3] at hff
           by_cases h0 : z = 0
           · subst h0
             rw [if_pos rfl] at hff
             have Hff := hid hff
             clear hff hRi
             go_wp2_with (first
              | (at_builtin; refine push_num rfl _ _ 64 3 rfl Tryz.underlying64 infoInt (w.heap.size + 2) _ ms rfl HRi.out.two.rm (_) _ (by simp) rfl (by omega) (by omega) ?_; intro v2 w2 ho2 hg2; have K2 := hid (two_keep HRi.out.two.re hg2.grew HRi.out.two.d); have H2 := hid ho2; have G2 := hid hg2; have hz2 := hg2.grew.grown.size; clear ho2 hg2)
              | (at_builtin; refine push_num rfl _ _ 65 29 rfl Tryz.underlying65 infoErrno (w.heap.size + 2) _ es rfl K2.out.1 (_) _ (by simp) rfl (by omega) (by omega) ?_; intro v3 w3 ho3 hg3; have H3 := hid ho3; have G3 := hid hg3; clear ho3 hg3))
             have HP := hid (RfAt.pushed HRi.out H2.out G2.out H3.out G3.out)
             go_roundw
             case rel => exact ⟨k0 + 1, al2, ⟨⟨#[]⟩, far + m, e, cur⟩, ms ++ [(k : Int)], es ++ [(e : Int)], by omega, by go_num, Hff.out, rfl, rfl, by go_num, rfl, by have := Hz.out; have := Hst.out; have := Hk.out.1; omega, Hm.out, fun h => absurd h hne, HP.out⟩
             case measure => simp [intOf]; omega
           · have f0 : (z == 0) = false := beq_eq_false_iff_ne.2 h0
             rw [if_neg h0] at hff
             have Hff := hid hff
             clear hff hRi h0
             go_wp2_with (first
              | (at_builtin; refine push_num rfl _ _ 64 3 rfl Tryz.underlying64 infoInt (w.heap.size + 2) _ ms rfl HRi.out.two.rm (_) _ (by simp) rfl (by omega) (by omega) ?_; intro v2 w2 ho2 hg2; have K2 := hid (two_keep HRi.out.two.re hg2.grew HRi.out.two.d); have H2 := hid ho2; have G2 := hid hg2; have hz2 := hg2.grew.grown.size; clear ho2 hg2)
              | (at_builtin; refine push_num rfl _ _ 65 29 rfl Tryz.underlying65 infoErrno (w.heap.size + 2) _ es rfl K2.out.1 (_) _ (by simp) rfl (by omega) (by omega) ?_; intro v3 w3 ho3 hg3; have H3 := hid ho3; have G3 := hid hg3; clear ho3 hg3))
             have HP := hid (RfAt.pushed HRi.out H2.out G2.out H3.out G3.out)
             go_roundw
             case rel => exact ⟨k0 + 1, al2, ⟨⟨#[]⟩, far + m, e, cur⟩, ms ++ [(k : Int)], es ++ [z], by omega, by go_num, Hff.out, rfl, rfl, by go_num, rfl, by have := Hz.out; have := Hst.out; have := Hk.out.1; omega, Hm.out, fun h => absurd h hne, HP.out⟩
             case measure => simp [intOf]; omega
    · have e2 : ((F.stuck : Int) != 0) = true := by simp; omega
      rw [pushF_stuck hst0] at hfs
      have Hfs := hid hfs
      have Hk := hid (And.intro hal hfar)
      have Hrest := hid hrest
      have Hst := hid hst
      have Hst0 := hid hst0
      clear hR hfo hfs hrest hst hp
      go_wp2_with (first
       | (at_builtin; refine push_num rfl _ _ 64 3 rfl Tryz.underlying64 infoInt (w.heap.size + 2) _ ms rfl HR.out.two.rm (0) _ (by simp) rfl (by omega) (by omega) ?_; intro v2 w2 ho2 hg2; have K2 := hid (two_keep HR.out.two.re hg2.grew HR.out.two.d); have H2 := hid ho2; have G2 := hid hg2; have hz2 := hg2.grew.grown.size; clear ho2 hg2)
       | (at_builtin; refine push_num rfl _ _ 65 29 rfl Tryz.underlying65 infoErrno (w.heap.size + 2) _ es rfl K2.out.1 ((F.stuck : Int)) _ (by simp) rfl (by omega) (by omega) ?_; intro v3 w3 ho3 hg3; have H3 := hid ho3; have G3 := hid hg3; clear ho3 hg3))
      have HP := hid (RfAt.pushed HR.out H2.out G2.out H3.out G3.out)
      go_roundw
      case rel => exact ⟨k0 + 1, ab, F, ms ++ [0], es ++ [(F.stuck : Int)], by omega, by go_num, Hfs.out, rfl, rfl, rfl, rfl, by have := Hst.out; have := Hk.out.1; omega, Hk.out.2, Hrest.out, HP.out⟩
      case measure => simp [intOf]; omega
  · obtain rfl : k0 = n0 := by omega
    have hps : ps.take k0 = ps := List.take_of_length_le (by rw [Hl.out]; omega)
    rw [hps] at hfo
    obtain ⟨x, hsB, hsA⟩ := hR.st
    obtain ⟨S, hSe⟩ : ∃ S, saidF F.st = S := ⟨_, rfl⟩
    rw [hSe] at hsB hsA
    obtain ⟨srev, sj, sn, sl⟩ := S
    obtain ⟨aj, nj, cj, an, nn, cn, al, nl, cl⟩ := x
    have hS3 : Blk wr (w.heap.size + 1) 26 #[.int .i64 srev, .slice aj nj cj, .slice an nn cn, .slice al nl cl] := hsB
    have hr0 := hR.res
    have s0 := (show _ = (some (.int .i64 srev) : Option Value) from hS3.cell 0)
    have s1 := (show _ = (some (.slice aj nj cj) : Option Value) from hS3.cell 1)
    have s2 := (show _ = (some (.slice an nn cn) : Option Value) from hS3.cell 2)
    have s3 := (show _ = (some (.slice al nl cl) : Option Value) from hS3.cell 3)
    have r0 := (show _ = (some (.int .i64 0) : Option Value) from hr0.cell 0)
    have rz0 := hr0.thaw 0
    have r1 := (show _ = (some (.slice none 0 0) : Option Value) from hr0.cell 1)
    have rz1 := hr0.thaw 1
    have r2 := (show _ = (some (.slice none 0 0) : Option Value) from hr0.cell 2)
    have rz2 := hr0.thaw 2
    have r3 := (show _ = (some (.slice none 0 0) : Option Value) from hr0.cell 3)
    have rz3 := hr0.thaw 3
    have hr4 := (Blk.eq ((Blk.eq ((Blk.eq ((Blk.eq (hr0.set 0 (.int .i64 srev)) (show _ = #[.int .i64 srev, .slice none 0 0, .slice none 0 0, .slice none 0 0] from rfl)).set 1 (.slice aj nj cj)) (show _ = #[.int .i64 srev, .slice aj nj cj, .slice none 0 0, .slice none 0 0] from rfl)).set 2 (.slice an nn cn)) (show _ = #[.int .i64 srev, .slice aj nj cj, .slice an nn cn, .slice none 0 0] from rfl)).set 3 (.slice al nl cl)) (show _ = #[.int .i64 srev, .slice aj nj cj, .slice an nn cn, .slice al nl cl] from rfl))
    have hG4 := (bes_set (bes_set (bes_set (bes_set (grow_reflB hr0) 0 (.int .i64 srev)) 1 (.slice aj nj cj)) 2 (.slice an nn cn)) 3 (.slice al nl cl))
    have q0 := (show _ = (some (.int .i64 srev) : Option Value) from hr4.cell 0)
    have q1 := (show _ = (some (.slice aj nj cj) : Option Value) from hr4.cell 1)
    have q2 := (show _ = (some (.slice an nn cn) : Option Value) from hr4.cell 2)
    have q3 := (show _ = (some (.slice al nl cl) : Option Value) from hr4.cell 3)
    have Hend := hid (show FoPost ps w (.returned (.tuple #[.agg #[.int .i64 srev, .slice aj nj cj, .slice an nn cn, .slice al nl cl], .bool F.st.isSome, u11, u12])) _ from by
     unfold FoPost
     rw [hfo]
     exact ⟨⟨aj, nj, cj, an, nn, cn, al, nl, cl⟩, u11, u12, by rw [hSe]; rfl, by rw [hSe]; exact (hsA.butZ hr0 (by simp) hG4).more hG4.size, hR.two.grow hG4 (by omega), grow_keep hR.b hG4 (Nat.le_refl _)⟩)
    clear hR hr0 hr4 hG4 hS3 hsB hsA hfo hps hrest
    go_wp2
    refine bodyPost_ret (v := .tuple #[.agg #[.int .i64 srev, .slice aj nj cj, .slice an nn cn, .slice al nl cl], .bool F.st.isSome, u11, u12]) (by simp [results, Tryz.results24, go_sem, *]) rfl ?_
    exact Hend.out
end Go.Proofs.YtjgnnobccecpeaaGreatDoor
