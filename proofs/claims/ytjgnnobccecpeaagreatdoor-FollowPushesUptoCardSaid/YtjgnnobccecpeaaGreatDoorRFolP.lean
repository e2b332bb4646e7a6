/- Of the proof of a statement: FolP, FolPw. -/
import Derived.Test.YtjgnnobccecpeaaGreatDoorRFolF
set_option linter.unusedVariables false
set_option linter.unusedSimpArgs false
set_option maxRecDepth 100000
set_option maxHeartbeats 8000000
/- The walk of a follower's Push. -/
namespace Go.Proofs.YtjgnnobccecpeaaGreatDoor
open Go.Lib (hid)
open Go.RowKit
theorem fdecF_pay (s : ByteArray) : (fdecF s).1.pay.size ≤ s.size := by
 unfold fdecF
 split
 · split
   split
   · split
     · exact Nat.zero_le _
     · split
       · exact Nat.zero_le _
       · split
         · simp only [ByteArray.size_extract]; omega
         · exact Nat.zero_le _
   · exact Nat.zero_le _
 · exact Nat.zero_le _
theorem Frs.pays {s : ByteArray} {fs : List FrameM} {m e : Nat} (h : Frs s fs m e) : ∀ f ∈ fs, f.pay.size ≤ s.size := by
 induction h with
 | stop _ _ => intro f hf; cases hf
 | @step s f n fs m e hd _ _ _ ih =>
  intro g hg
  rcases List.mem_cons.1 hg with rfl | hg
  · have := fdecF_pay s
    rw [hd] at this; exact this
  · have := ih g hg
    rw [ByteArray.size_extract] at this; omega
theorem SlAt.apart {W w2 : World} {B g sz n : Nat} {t : TypeId} {cs : Array Value} {A : Option Addr} {xs : List Value} (h : SlAt W B sz A n xs) (hb : Blk W g t cs) (h0 : 0 < n → ∃ u, xs[0]? = some u ∧ ∀ v ∈ cs, v ≠ u) (hg : W.grownBy w2 (some g)) : SlAt w2 B sz A n xs :=
 ⟨h.len, fun hn => by
  obtain ⟨b, off, e, hB, hr⟩ := h.at_ hn
  obtain ⟨u, hu, hne⟩ := h0 hn
  have h1 := hr 0 _ hu
  have hbg : b ≠ g := fun e => by
   subst e
   rw [hb.cell] at h1
   exact hne _ (Array.mem_of_getElem? h1) rfl
  exact ⟨b, off, e, hB, fun j u hu => cell_grownOther hg hbg (hr j u hu)⟩⟩
theorem SlAt.butFeed {W w2 : World} {B g sz n : Nat} {rest : ByteArray} {a st : Int} {A : Option Addr} {xs : List Value} (h : SlAt W B sz A n xs) (hb : FeedAt W g rest a st) (h0 : 0 < n → ∃ s, xs[0]? = some (.string s)) (h1 : 0 < n → ∃ (j : Nat) (u : Value), xs[j]? = some u ∧ (#[.string rest, .int .i64 a, .int .i64 st] : Array Value)[j]? ≠ some u)
 (hg : W.grownBy w2 (some g)) : SlAt w2 B sz A n xs :=
 ⟨h.len, fun hn => by
  obtain ⟨b, off, e, hB, hr⟩ := h.at_ hn
  obtain ⟨s, hs⟩ := h0 hn
  obtain ⟨j, u, hu, hne⟩ := h1 hn
  have c0 := hr 0 _ hs
  have cj := hr j _ hu
  have hbg : b ≠ g := fun e => by
   subst e
   rw [Blk.cell hb] at c0 cj
   have ho : off = 0 := by
    rcases off with _ | _ | _ | off
    · rfl
    · simp at c0
    · simp at c0
    · simp at c0
   subst ho
   rw [Nat.zero_add] at cj
   exact hne cj
  exact ⟨b, off, e, hB, fun j u hu => cell_grownOther hg hbg (hr j u hu)⟩⟩
theorem head_of {α : Type} {enc : α → List Value} {l : List α} {n : Nat} (h : l.length = n) (hn : 0 < n) : ∃ a, ∀ (j : Nat) u, (enc a)[j]? = some u → (rowsV enc l)[j]? = some u := by
 cases l with
 | nil => simp at h; omega
 | cons a l =>
  refine ⟨a, fun j u hu => ?_⟩
  obtain ⟨hlt, _⟩ := List.getElem?_eq_some_iff.1 hu
  unfold rowsV
  rw [List.flatMap_cons, List.getElem?_append_left hlt]; exact hu
theorem StAt.butFeed {W w2 : World} {B g : Nat} {rest : ByteArray} {a st : Int} {s : StateD} {x : StA} (h : StAt W B s x) (hb : FeedAt W g rest a st) (hg : W.grownBy w2 (some g)) : StAt w2 B s x :=
 ⟨h.j.butFeed hb (fun hn => first_of JobD.name (fun a => ⟨_, rfl⟩) h.lj hn) (fun hn => by obtain ⟨a, ha⟩ := head_of (enc := jobV) h.lj hn; exact ⟨3, _, ha 3 _ rfl, by simp⟩) hg,
  h.n.butFeed hb (fun hn => first_of NodeD.name (fun a => ⟨_, rfl⟩) h.ln hn) (fun hn => by obtain ⟨a, ha⟩ := head_of (enc := nodeV) h.ln hn; exact ⟨2, _, ha 2 _ rfl, by simp⟩) hg,
  h.l.butFeed hb (fun hn => first_of LeaseD.job (fun a => ⟨_, rfl⟩) h.ll hn) (fun hn => by obtain ⟨a, ha⟩ := head_of (enc := leaseV) h.ll hn; exact ⟨1, _, ha 1 _ rfl, by simp⟩) hg,
  h.lj, h.ln, h.ll, h.bj, h.bn, h.bl, h.oj, h.on_, h.ol⟩
theorem StP.butFeed {w w' : World} {p : Value} {cur : Option StateD} {g : Nat} {rest : ByteArray} {a st : Int} (h : StP w p cur) (hb : FeedAt w g rest a st) (hg : w.grownBy w' (some g)) : StP w' p cur := by
 cases cur with
 | none => exact h
 | some s =>
  obtain ⟨sb, x, e, h1, h2⟩ := h
  have hne : sb ≠ g := fun e => by
   subst e
   unfold FeedAt at hb
   unfold Blk at h1 hb
   rw [h1] at hb
   injection hb with hb
   injection hb with _ hb _
   exact absurd hb (by decide)
  exact ⟨sb, x, e, grow_blk hg h1 hne, (h2.butFeed hb hg).more hg.size⟩
structure Grown2 (w w' : World) (a b : Nat) : Prop where
 os : w'.os = w.os
 tape : w'.tape = w.tape
 output : w'.output = w.output
 size : w.heap.size ≤ w'.heap.size
 block : ∀ k, k < w.heap.size → k ≠ a → k ≠ b → w'.heap[k]? = w.heap[k]?
theorem Grown2.of {w w' : World} {a b g : Nat} (h : w.grownBy w' (some g)) (hg : g = a ∨ g = b) : Grown2 w w' a b := ⟨h.os, h.tape, h.output, h.size, fun k hk h1 h2 => h.block k hk (fun e => by injection e with e; rcases hg with rfl | rfl <;> omega)⟩
theorem Grown2.trans {u v w : World} {a b : Nat} (h : Grown2 u v a b) (k : Grown2 v w a b) : Grown2 u w a b := ⟨k.os.trans h.os, k.tape.trans h.tape, k.output.trans h.output, Nat.le_trans h.size k.size, fun i hi h1 h2 => (k.block i (Nat.lt_of_lt_of_le hi h.size) h1 h2).trans (h.block i hi h1 h2)⟩
theorem Grown2.below {w0 w w' : World} {a b : Nat} (hb : Below w0.heap.size w0 w) (h : Grown2 w w' a b) (ha : w0.heap.size ≤ a) (hbb : w0.heap.size ≤ b) : Below w0.heap.size w0 w' :=
 ⟨h.os.trans hb.os, h.tape.trans hb.tape, h.output.trans hb.output, Nat.le_trans hb.size h.size, fun k hk => (h.block k (Nat.lt_of_lt_of_le hk hb.size) (by omega) (by omega)).trans (hb.block k hk)⟩
def PushIs (F : FolD) (s : ByteArray) (fs : List FrameM) (rest : ByteArray) (far stuck : Nat) : Prop :=
 pushF F s = (⟨rest, far, stuck, (runF F.st fs).1⟩, fs.length, if (runF F.st fs).2 = 0 then (stuck : Int) else (runF F.st fs).2)
def FpPost (F : FolD) (s : ByteArray) (gb : Nat) (w : World) (e : Ending) (w' : World) : Prop :=
 ∃ (A : Option Addr) (n c : Nat) (fs : List FrameM) (rest : ByteArray) (far stuck : Nat), e = .returned (.tuple #[.slice A n c, .int .i64 (stuck : Int)]) ∧ fs.length = n ∧ n ≤ 2097152 ∧ SlAt w' w'.heap.size 3 A n (rowsV frmC fs) ∧ w.grownBy w' (some gb) ∧
  FeedAt w' gb rest (far : Int) (stuck : Int) ∧ PushIs F s fs rest far stuck ∧ ∀ f ∈ fs, f.pay.size ≤ 2097152
theorem feedPush_any {F : FolD} {s : ByteArray} {gb : Nat} {w : World} (hG : FeedAt w gb F.rest (F.far : Int) (F.stuck : Int)) (hsz : (F.rest ++ s).size ≤ 2097152) (hfar : F.far ≤ 2097152) :
 Calls Tryz.prog 94 #[.pointer (some ⟨gb, 0, none⟩), .string s] w (FpPost F s gb w) := by
 by_cases hs : F.stuck = 0
 · have hf := frsF_is (F.rest ++ s)
   have hp := pushF_go hs s
   generalize frsF (F.rest ++ s) = r at hf hp
   obtain ⟨fs, m, e⟩ := r
   simp only at hf hp
   rw [hs] at hG
   refine (push_any w rfl hf hG hsz hfar).mono fun x w' h => ?_
   obtain ⟨A, n, c, rfl, hn, hsl, hg, hF⟩ := h
   have h1 := Frs.facts hf
   refine ⟨A, n, c, fs, (if e = 3 then (F.rest ++ s).extract m (F.rest ++ s).size else ⟨#[]⟩), F.far + m, (if e = 3 then 0 else e), ?_, hn, by omega, hsl, hg, ?_, hp, fun f hf' => Nat.le_trans (Frs.pays hf f hf') hsz⟩
   · by_cases he : e = 3
     · rw [if_pos he, if_pos he]; rfl
     · rw [if_neg he, if_neg he]
   · have e2 : ((F.far + m : Nat) : Int) = (F.far : Int) + (m : Int) := by omega
     rw [e2]
     by_cases he : e = 3
     · simp only [if_pos he] at hF ⊢; exact hF
     · simp only [if_neg he] at hF ⊢; exact hF
 · refine (push_stuck (p := s) hG (by omega)).mono fun x w' h => ?_
   obtain ⟨rfl, hb⟩ := h
   refine ⟨none, 0, 0, [], F.rest, F.far, F.stuck, rfl, rfl, by omega, SlAt.nil, grow_of_below hb, Blk.below hG hb (Blk.lt hG), ?_, fun f hf => by cases hf⟩
   rw [PushIs, pushF_stuck hs]
   rfl
end Go.Proofs.YtjgnnobccecpeaaGreatDoor
/- The walk of a follower's Push: the whole. -/
namespace Go.Proofs.YtjgnnobccecpeaaGreatDoor
open Go.Lib (hid)
open Go.RowKit
def FolIs (w : World) (fb gb : Nat) (F : FolD) : Prop := ∃ p, FolAt w fb gb p ∧ StP w p F.st ∧ FeedAt w gb F.rest (F.far : Int) (F.stuck : Int)
theorem StP.noInt {w : World} {p : Value} {cur : Option StateD} (h : StP w p cur) : ∀ z, p ≠ .int .i64 z := by
 cases cur with
 | none => intro s e; rw [show p = _ from h] at e; cases e
 | some s0 =>
  obtain ⟨sb, x, e1, _⟩ := h
  intro s e; rw [e1] at e; cases e
def FlInv (w2 : World) (fb gb : Nat) (F : FolD) (fs : List FrameM) (n : Nat) (first i : Value) (wr : World) : Prop :=
 ∃ (k : Nat) (p : Value), k ≤ n ∧ i = .int .i64 (k : Int) ∧ first = .int .i64 (runF F.st (fs.take k)).2 ∧ w2.grownBy wr (some fb) ∧ FolAt wr fb gb p ∧ StP wr p (runF F.st (fs.take k)).1
theorem fpush_any {F : FolD} {s : ByteArray} {fb gb : Nat} {w0 w : World} (hI : FolIs w fb gb F) (hne : fb ≠ gb) (hT : Tabs w0) (hb : Below w0.heap.size w0 w) (hf : w0.heap.size ≤ fb) (hg : w0.heap.size ≤ gb) (hsz : (F.rest ++ s).size ≤ 2097152) (hfar : F.far ≤ 2097152) :
 Calls Tryz.prog 22 #[.pointer (some ⟨fb, 0, none⟩), .string s] w fun e w' => e = .returned (.tuple #[.int .i64 ((pushF F s).2.1 : Int), .int .i64 (pushF F s).2.2]) ∧ Grown2 w w' fb gb ∧ FolIs w' fb gb (pushF F s).1 := by
 obtain ⟨p, hF, hP, hG⟩ := hI
 have c0 : w.cell? ⟨fb, 0, none⟩ = some (.pointer (some ⟨gb, 0, none⟩)) := Blk.cell hF 0
 have hfl : fb < w.heap.size := Blk.lt hF
 have hcall := hid (feedPush_any (s := s) hG hsz hfar)
 have HF := hid hF
 have HP := hid hP
 have HG := hid hG
 have HT := hid hT
 have HB := hid hb
 clear hF hP hG hT hb hsz
 go_enter Tryz.func22, Tryz.ntmps22
 go_wp2_with fail
 refine Calls.mono hcall.out ?_
 rintro e w2 ⟨A, n, c, fs, rest, far, stuck, rfl, hl, hn, hS, hg2, hG2, hPI, hpay⟩
 have HF2 := hid (show FolAt w2 fb gb p from grow_blk hg2 HF.out hne)
 have HP2 := hid (HP.out.butFeed HG.out hg2)
 have HG2 := hid hG2
 have HS2 := hid hS
 have Hg2 := hid hg2
 have Hl := hid hl
 have HPI := hid hPI
 have Hpay := hid hpay
 have HB2 := hid (HB.out.grown hg2 HB.out.size (fun k hk => by injection hk with hk; omega))
 have hfl2 : fb < w2.heap.size := Blk.lt HF2.out
 clear hcall hS hg2 hG2 hPI hpay c0 hl HF HP HG HB
 go_wp2
 go_loopw [8, 23] (fun first i wr => FlInv w2 fb gb F fs n first i wr) (fun _ i _ => n - (intOf i).toNat)
 case atStart => exact ⟨0, p, Nat.zero_le _, rfl, rfl, grow_refl _ _, HF2.out, HP2.out⟩
 case round =>
  obtain ⟨k, q, hk, rfl, rfl, hgr, hFr, hPr⟩ := hrel
  by_cases hlt : k < n
  · obtain ⟨f, hfk⟩ : ∃ f, fs[k]? = some f := ⟨_, List.getElem?_eq_getElem (by rw [Hl.out]; exact hlt)⟩
    have hSr := HS2.out.apart HF2.out (fun hn => by
     obtain ⟨a, ha⟩ := head_of (enc := frmC) Hl.out hn
     refine ⟨_, ha 0 _ rfl, fun v hv e => ?_⟩
     simp at hv
     rcases hv with rfl | rfl
     · cases e
     · exact HP2.out.noInt _ e) hgr
    obtain ⟨b, off, rfl, hbB, hc⟩ := hSr.rec_ frmC_len Hl.out hfk
    have hrun := runF_snoc (cur := F.st) hfk
    have hpy := Hpay.out f (List.mem_of_getElem? hfk)
    have hsz := hgr.size
    obtain ⟨ver, kind, pay⟩ := f
    obtain ⟨d0, d1, d2⟩ := rc3 hc
    generalize hru : runF F.st (fs.take k) = r at *
    obtain ⟨cur, first⟩ := r
    simp only at *
    obtain ⟨wx, hwx⟩ : ∃ wx, wr.alloc (.cells #[.int .i64 (ver : Int), .int .i64 (kind : Int), .string pay] 151) = wx := ⟨_, rfl⟩
    have hbx : Below wr.heap.size wr wx := by rw [← hwx]; exact (Below.refl _ _).alloc (Nat.le_refl _) _
    have hlt1 : b < wr.heap.size := by omega
    have hFx : FolAt wx fb gb q := Blk.below hFr hbx (Blk.lt hFr)
    have hPx := hPr.below hbx
    have hTx : Tabs wx := HT.out.below ((HB2.out.grown hgr HB2.out.size (fun k hk => by injection hk with hk; omega)).trans (hbx.mono (Nat.le_trans HB2.out.size hsz)))
    have hcall := hid (frame_any fb gb q cur ⟨ver, kind, pay⟩ wx hFx hPx hTx (by simp only at hpy ⊢; omega))
    have Hgx := hid (show w2.grownBy wx (some fb) from grow_trans hgr (grow_of_below hbx))
    have Hrun := hid hrun
    have HW := hid hwx
    clear hSr hc hFr hPr hFx hPx hTx hrun hbx hpy hfk hgr hwx
    go_wp2_with fail
    rw [HW.out]
    refine Calls.mono hcall.out ?_
    rintro e w3 ⟨rfl, hg3, q3, hF3, hP3⟩
    have Hg3 := hid (grow_trans Hgx.out hg3)
    have HF3 := hid hF3
    generalize hfr : frameF cur ⟨ver, kind, pay⟩ = r at *
    obtain ⟨cur', E⟩ := r
    simp only at *
    have HP3 := hid hP3
    have hst : stepF (cur, first) ⟨ver, kind, pay⟩ = (cur', if first = 0 then E else first) := by unfold stepF; rw [hfr]
    rw [hst] at Hrun
    clear hcall hg3 hF3 hP3 hfr hst d0 d1 d2
    by_cases hE : E = 0
    · subst hE
      have Hv := hid (show FlInv w2 fb gb F fs n (.int .i64 first) (.int .i64 ((k + 1 : Nat) : Int)) w3 from ⟨k + 1, q3, by omega, rfl, by rw [Hrun.out]; simp only; by_cases h : first = 0 <;> simp [h], Hg3.out, HF3.out, by rw [Hrun.out]; exact HP3.out⟩)
      go_wp2
      go_roundw
      case rel => exact Hv.out
      case measure => simp [intOf]; omega
    · have e1 : (E != 0) = true := bne_iff_ne.2 hE
      by_cases h0 : first = 0
      · subst h0
        have Hv := hid (show FlInv w2 fb gb F fs n (.int .i64 E) (.int .i64 ((k + 1 : Nat) : Int)) w3 from ⟨k + 1, q3, by omega, rfl, by rw [Hrun.out]; simp, Hg3.out, HF3.out, by rw [Hrun.out]; exact HP3.out⟩)
        clear hE
        go_wp2
        go_roundw
        case rel => exact Hv.out
        case measure => simp [intOf]; omega
      · have e2 : (first == 0) = false := beq_eq_false_iff_ne.2 h0
        have Hv := hid (show FlInv w2 fb gb F fs n (.int .i64 first) (.int .i64 ((k + 1 : Nat) : Int)) w3 from ⟨k + 1, q3, by omega, rfl, by rw [Hrun.out]; simp [h0], Hg3.out, HF3.out, by rw [Hrun.out]; exact HP3.out⟩)
        clear hE h0
        go_wp2
        go_roundw
        case rel => exact Hv.out
        case measure => simp [intOf]; omega
  · obtain rfl : k = n := by omega
    have hrt : fs.take k = fs := List.take_of_length_le (by rw [Hl.out]; omega)
    rw [hrt] at hPr ⊢
    have HPI2 := HPI.out
    unfold PushIs at HPI2
    generalize hru : runF F.st fs = r at *
    obtain ⟨cur, first⟩ := r
    simp only at *
    have HG3 := hid (show FeedAt wr gb rest _ _ from grow_blk hgr HG2.out (Ne.symm hne))
    have HFin := hid (show FolIs wr fb gb ⟨rest, far, stuck, cur⟩ from ⟨q, hFr, hPr, HG3.out⟩)
    have Hgg := hid (show Grown2 w wr fb gb from (Grown2.of Hg2.out (.inr rfl)).trans (Grown2.of hgr (.inl rfl)))
    clear hFr hPr hgr hru
    rw [Hl.out] at HPI2
    by_cases h0 : first = 0
    · subst h0
      rw [if_pos rfl] at HPI2
      have Hq := hid HPI2
      clear HPI2 hrt
      go_wp2
      refine bodyPost_ret (v := .tuple #[.int .i64 (k : Int), .int .i64 (stuck : Int)]) (by simp [results, Tryz.results22, go_sem, *]) rfl ?_
      rw [Hq.out]
      exact ⟨rfl, Hgg.out, HFin.out⟩
    · have e2 : (first == 0) = false := beq_eq_false_iff_ne.2 h0
      rw [if_neg h0] at HPI2
      have Hq := hid HPI2
      clear HPI2 hrt
      go_wp2
      refine bodyPost_ret (v := .tuple #[.int .i64 (k : Int), .int .i64 first]) (by simp [results, Tryz.results22, go_sem, *]) rfl ?_
      rw [Hq.out]
      exact ⟨rfl, Hgg.out, HFin.out⟩
end Go.Proofs.YtjgnnobccecpeaaGreatDoor
