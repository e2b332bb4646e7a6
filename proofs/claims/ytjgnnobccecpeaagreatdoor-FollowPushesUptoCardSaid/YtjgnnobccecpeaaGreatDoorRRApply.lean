/- Of the proof of a statement: RApply. -/
import Derived.Test.YtjgnnobccecpeaaGreatDoorRDApply
import Derived.Test.YtjgnnobccecpeaaGreatDoorRRWo
set_option linter.unusedVariables false
set_option linter.unusedSimpArgs false
set_option maxRecDepth 100000
set_option maxHeartbeats 8000000
/- The walk of the reference's Apply. -/
namespace Go.Proofs.YtjgnnobccecpeaaGreatDoor
open Go.Lib (hid)
open List (foldl_cons foldl_nil setIfInBounds_toArray set_cons_succ set_cons_zero)
open Go.RowKit
theorem hasStr_any (s : ByteArray) (ss : List ByteArray) (A : Option Addr) (n c : Nat) (w : World) (hx : SlAt w w.heap.size 1 A n (rowsV strV ss)) (hl : ss.length = n) (hn : n ≤ 9223372036854775807) :
 Calls Tryz.prog 55 #[.slice A n c, .string s] w fun e w' => e = .returned (.bool (ss.any fun q => decide (q = s))) ∧ Below w.heap.size w w' := by
 have Hl := hid hl
 clear hl
 go_enter Tryz.func55, Tryz.ntmps55
 go_wp2
 go_loopw [9] (fun i wr => ∃ k : Nat, k ≤ n ∧ i = .int .i64 k ∧ ((ss.take k).any fun q => decide (q = s)) = false ∧ w = wr) (fun i _ => n - (intOf i).toNat)
 case atStart => exact ⟨0, Nat.zero_le _, rfl, by simp, rfl⟩
 case round =>
  obtain ⟨k, hk, rfl, hnone, rfl⟩ := hrel
  have Hnone := hid hnone
  clear hnone
  by_cases hlt : k < n
  · obtain ⟨x, hf⟩ : ∃ x, ss[k]? = some x := ⟨_, List.getElem?_eq_getElem (by rw [Hl.out]; exact hlt)⟩
    obtain ⟨b, off, rfl, hbB, hc⟩ := hx.rec_ strV_len Hl.out hf
    have c0 : w.cell? ⟨b, off + k * 1, none⟩ = some (.string x) := hc 0 _ rfl
    rw [Nat.mul_one] at c0
    have Hf := hid hf
    have hlb : b < w.heap.size := hbB
    clear hc hf
    by_cases he : x = s
    · subst he
      have hq : (x.toList == x.toList) = true := beq_self_eq_true _
      have fin := hid (any_hit (p := fun q => decide (q = x)) Hf.out (by simp))
      clear hx
      go_wp2
      go_ret
      exact ⟨by rw [fin.out]; rfl, Below.refl _ _⟩
    · have hq : (s.toList == x.toList) = false := beq_diff (fun e => he e.symm)
      have fin := hid (any_miss (p := fun q => decide (q = s)) Hf.out Hnone.out (by simp [he]))
      clear he
      go_wp2
      go_roundw
      case rel => exact ⟨k + 1, by omega, by go_num, fin.out, trivial⟩
      case measure => simp [intOf]; omega
  · have fin := hid (any_out Hnone.out (by rw [Hl.out]; omega))
    clear hx
    go_wp2
    go_ret
    exact ⟨by rw [fin.out]; rfl, Below.refl _ _⟩
theorem rgone_job (name : ByteArray) (prio : Int) (need : Int) (tries : Int) (tag : ByteArray) (db : Nat) (ss : List ByteArray) (A : Option Addr) (n c : Nat) (w : World) (hd : w.cell? ⟨db, 5, none⟩ = some (.slice A n c)) (hx : SlAt w w.heap.size 1 A n (rowsV strV ss)) (hl : ss.length = n) (hn : n ≤ 9223372036854775807) :
 Calls Tryz.prog 54 #[.agg #[.string name, .int .i64 prio, .int .i64 need, .int .i64 tries, .string tag], .pointer (some ⟨db, 0, none⟩)] w fun e w' => e = .returned (.bool (ss.any fun q => decide (q = name))) ∧ Below w.heap.size w w' := by
 have hdl : db < w.heap.size := block_lt_of_cell hd
 have hb : Below w.heap.size w (w.alloc (.cells #[.string name, .int .i64 prio, .int .i64 need, .int .i64 tries, .string tag] 38)) := (Below.refl _ _).alloc (Nat.le_refl _) _
 have HC := hid (hasStr_any name ss A n c (w.alloc (.cells #[.string name, .int .i64 prio, .int .i64 need, .int .i64 tries, .string tag] 38)) (hx.up hb) hl hn)
 have HB := hid hb
 have hd' : (w.alloc (.cells #[.string name, .int .i64 prio, .int .i64 need, .int .i64 tries, .string tag] 38)).cell? ⟨db, 5, none⟩ = some (.slice A n c) := (hb.cell (p := ⟨db, 5, none⟩) hdl).trans hd
 clear hb hx hl hd
 go_enter Tryz.func54, Tryz.ntmps54
 go_wp2_with fail
 refine Calls.mono HC.out ?_
 rintro e w' ⟨rfl, hb2⟩
 have H2 := hid (HB.out.trans (hb2.mono HB.out.size))
 clear hb2
 go_wp2
 go_ret
 exact ⟨rfl, H2.out⟩
theorem rgone_node (name : ByteArray) (room : Int) (zone : ByteArray) (db : Nat) (ss : List ByteArray) (A : Option Addr) (n c : Nat) (w : World) (hd : w.cell? ⟨db, 6, none⟩ = some (.slice A n c)) (hx : SlAt w w.heap.size 1 A n (rowsV strV ss)) (hl : ss.length = n) (hn : n ≤ 9223372036854775807) :
 Calls Tryz.prog 57 #[.agg #[.string name, .int .i64 room, .string zone], .pointer (some ⟨db, 0, none⟩)] w fun e w' => e = .returned (.bool (ss.any fun q => decide (q = name))) ∧ Below w.heap.size w w' := by
 have hdl : db < w.heap.size := block_lt_of_cell hd
 have hb : Below w.heap.size w (w.alloc (.cells #[.string name, .int .i64 room, .string zone] 40)) := (Below.refl _ _).alloc (Nat.le_refl _) _
 have HC := hid (hasStr_any name ss A n c (w.alloc (.cells #[.string name, .int .i64 room, .string zone] 40)) (hx.up hb) hl hn)
 have HB := hid hb
 have hd' : (w.alloc (.cells #[.string name, .int .i64 room, .string zone] 40)).cell? ⟨db, 6, none⟩ = some (.slice A n c) := (hb.cell (p := ⟨db, 6, none⟩) hdl).trans hd
 clear hb hx hl hd
 go_enter Tryz.func57, Tryz.ntmps57
 go_wp2_with fail
 refine Calls.mono HC.out ?_
 rintro e w' ⟨rfl, hb2⟩
 have H2 := hid (HB.out.trans (hb2.mono HB.out.size))
 clear hb2
 go_wp2
 go_ret
 exact ⟨rfl, H2.out⟩
theorem rgone_lease (job : ByteArray) (node : ByteArray) (till : Int) (db : Nat) (ss : List ByteArray) (A : Option Addr) (n c : Nat) (w : World) (hd : w.cell? ⟨db, 7, none⟩ = some (.slice A n c)) (hx : SlAt w w.heap.size 1 A n (rowsV strV ss)) (hl : ss.length = n) (hn : n ≤ 9223372036854775807) :
 Calls Tryz.prog 59 #[.agg #[.string job, .string node, .int .i64 till], .pointer (some ⟨db, 0, none⟩)] w fun e w' => e = .returned (.bool (ss.any fun q => decide (q = job))) ∧ Below w.heap.size w w' := by
 have hdl : db < w.heap.size := block_lt_of_cell hd
 have hb : Below w.heap.size w (w.alloc (.cells #[.string job, .string node, .int .i64 till] 42)) := (Below.refl _ _).alloc (Nat.le_refl _) _
 have HC := hid (hasStr_any job ss A n c (w.alloc (.cells #[.string job, .string node, .int .i64 till] 42)) (hx.up hb) hl hn)
 have HB := hid hb
 have hd' : (w.alloc (.cells #[.string job, .string node, .int .i64 till] 42)).cell? ⟨db, 7, none⟩ = some (.slice A n c) := (hb.cell (p := ⟨db, 7, none⟩) hdl).trans hd
 clear hb hx hl hd
 go_enter Tryz.func59, Tryz.ntmps59
 go_wp2_with fail
 refine Calls.mono HC.out ?_
 rintro e w' ⟨rfl, hb2⟩
 have H2 := hid (HB.out.trans (hb2.mono HB.out.size))
 clear hb2
 go_wp2
 go_ret
 exact ⟨rfl, H2.out⟩
structure RaG where
 aj : Option Addr
 cj : Nat
 an : Option Addr
 cn : Nat
 al : Option Addr
 cl : Nat
 c : Nat
 k : Bool
 D : Nat
def raV (S : Nat) (to_ : Int) (x : StA) (NJ NN NL : Nat) (γ : RaG) (i : Nat) (u : Value) : Prop :=
 match i with
 | 0 => u = .pointer (some ⟨S + 1, 1, none⟩)
 | 1 => u = .int .i64 to_
 | 2 => u = .pointer (some ⟨S, 1, none⟩)
 | 3 => u = .slice x.aj x.nj x.cj
 | 4 => u = .func (.func 54) #[] #[.pointer (some ⟨S + 1, 0, none⟩)]
 | 5 => 1 ≤ γ.c ∧ u = .slice γ.aj NJ γ.cj
 | 6 => u = .pointer (some ⟨S, 2, none⟩)
 | 7 => u = .slice x.an x.nn x.cn
 | 8 => u = .func (.func 57) #[] #[.pointer (some ⟨S + 1, 0, none⟩)]
 | 9 => 2 ≤ γ.c ∧ u = .slice γ.an NN γ.cn
 | 10 => u = .pointer (some ⟨S, 3, none⟩)
 | 11 => u = .slice x.al x.nl x.cl
 | 12 => u = .func (.func 59) #[] #[.pointer (some ⟨S + 1, 0, none⟩)]
 | 13 => 3 ≤ γ.c ∧ u = .slice γ.al NL γ.cl
 | 14 => 3 ≤ γ.c ∧ u = .agg #[.int .i64 to_, .slice γ.aj NJ γ.cj, .slice γ.an NN γ.cn, .slice γ.al NL γ.cl]
 | 15 => γ.k = true ∧ u = .pointer (some ⟨γ.D, 0, none⟩)
 | _ => True
theorem raV_tr {S : Nat} {to_ : Int} {x : StA} {NJ NN NL : Nat} {γ γ' : RaG} (i : Nat) (h1 : i ≠ 5 → 1 ≤ γ.c → 1 ≤ γ'.c ∧ γ'.aj = γ.aj ∧ γ'.cj = γ.cj) (h2 : i ≠ 9 → 2 ≤ γ.c → 2 ≤ γ'.c ∧ γ'.an = γ.an ∧ γ'.cn = γ.cn)
 (h3 : i ≠ 13 → 3 ≤ γ.c → 3 ≤ γ'.c ∧ γ'.al = γ.al ∧ γ'.cl = γ.cl) (h4 : 3 ≤ γ.c → 3 ≤ γ'.c ∧ γ'.aj = γ.aj ∧ γ'.cj = γ.cj ∧ γ'.an = γ.an ∧ γ'.cn = γ.cn ∧ γ'.al = γ.al ∧ γ'.cl = γ.cl) (h5 : i ≠ 15 → γ.k = true → γ'.k = true ∧ γ'.D = γ.D) :
 ∀ j v, j ≠ i → raV S to_ x NJ NN NL γ j v → raV S to_ x NJ NN NL γ' j v := by
 intro j v hj h
 match j, hj, h with
 | 0, _, h | 1, _, h | 2, _, h | 3, _, h | 4, _, h | 6, _, h | 7, _, h | 8, _, h | 10, _, h | 11, _, h | 12, _, h => exact h
 | 5, hj, ⟨a, e⟩ => obtain ⟨b, e1, e2⟩ := h1 (fun e => hj e.symm) a; exact ⟨b, by rw [e1, e2]; exact e⟩
 | 9, hj, ⟨a, e⟩ => obtain ⟨b, e1, e2⟩ := h2 (fun e => hj e.symm) a; exact ⟨b, by rw [e1, e2]; exact e⟩
 | 13, hj, ⟨a, e⟩ => obtain ⟨b, e1, e2⟩ := h3 (fun e => hj e.symm) a; exact ⟨b, by rw [e1, e2]; exact e⟩
 | 14, hj, ⟨a, e⟩ => obtain ⟨b, e1, e2, e3, e4, e5, e6⟩ := h4 a; exact ⟨b, by rw [e1, e2, e3, e4, e5, e6]; exact e⟩
 | 15, hj, ⟨a, e⟩ => obtain ⟨b, e1⟩ := h5 (fun e => hj e.symm) a; exact ⟨b, by rw [e1]; exact e⟩
 | _ + 16, _, _ => trivial
structure RaAt (w0 : World) (st : StateD) (x : StA) (d : DeltaD) (y : DelA) (JS : List JobD) (NS : List NodeD) (LS : List LeaseD) (p : Nat) (γ : RaG) (w : World) : Prop where
 at_ : γ.c = p
 below : Below w0.heap.size w0 w
 bs : Blk w w0.heap.size 26 (stC st x)
 bd : Blk w (w0.heap.size + 1) 49 (dC d y)
 br : Blk w (w0.heap.size + 2) 26 zSta
 new : γ.k = true → w0.heap.size + 2 < γ.D ∧ Blk w γ.D 26 (if p < 4 then zSta else #[.int .i64 d.to_, .slice γ.aj JS.length γ.cj, .slice γ.an NS.length γ.cn, .slice γ.al LS.length γ.cl])
 j : 1 ≤ p → w.ownsRow (w0.heap.size + 3) 38 5 (.slice γ.aj JS.length γ.cj) JS.length (rowsV jobV JS)
 n : 2 ≤ p → w.ownsRow (w0.heap.size + 3) 40 3 (.slice γ.an NS.length γ.cn) NS.length (rowsV nodeV NS)
 l : 3 ≤ p → w.ownsRow (w0.heap.size + 3) 42 3 (.slice γ.al LS.length γ.cl) LS.length (rowsV leaseV LS)
 up : 4 ≤ p → γ.k = true
section
variable {w0 w w' : World} {st : StateD} {x : StA} {d : DeltaD} {y : DelA} {JS : List JobD} {NS : List NodeD} {LS : List LeaseD} {p : Nat} {γ : RaG}
theorem RaAt.alloc (h : RaAt w0 st x d y JS NS LS p γ w) (hp : p ≤ 3) : RaAt w0 st x d y JS NS LS p { γ with k := true, D := w.heap.size } (w.alloc (.cells zSta 26)) := by
 have hb : Below w.heap.size w (w.alloc (.cells zSta 26)) := (Below.refl _ _).alloc (Nat.le_refl _) _
 have hl := h.br.lt
 exact ⟨h.at_, h.below.trans (hb.mono h.below.size), h.bs.below hb h.bs.lt, h.bd.below hb h.bd.lt, h.br.below hb h.br.lt, fun _ => ⟨hl, by rw [if_pos (by omega)]; exact heap_alloc_new w _⟩, fun hc => ownU_below (h.j hc) hb, fun hc => ownU_below (h.n hc) hb, fun hc => ownU_below (h.l hc) hb, fun _ => rfl⟩
end
section
variable {w0 w w' : World} {st : StateD} {x : StA} {d : DeltaD} {y : DelA} {JS : List JobD} {NS : List NodeD} {LS : List LeaseD} {p : Nat} {γ : RaG}
theorem RaAt.call (h : RaAt w0 st x d y JS NS LS p γ w) (hb : Below w.heap.size w w') (hp : p < 3) (γ' : RaG) (hc : γ'.c = p + 1) (hk : γ'.k = γ.k) (hD : γ'.D = γ.D)
 (hj : 1 ≤ p + 1 → w'.ownsRow (w0.heap.size + 3) 38 5 (.slice γ'.aj JS.length γ'.cj) JS.length (rowsV jobV JS)) (hn : 2 ≤ p + 1 → w'.ownsRow (w0.heap.size + 3) 40 3 (.slice γ'.an NS.length γ'.cn) NS.length (rowsV nodeV NS))
 (hl : 3 ≤ p + 1 → w'.ownsRow (w0.heap.size + 3) 42 3 (.slice γ'.al LS.length γ'.cl) LS.length (rowsV leaseV LS)) : RaAt w0 st x d y JS NS LS (p + 1) γ' w' :=
 ⟨hc, h.below.trans (hb.mono h.below.size), h.bs.below hb h.bs.lt, h.bd.below hb h.bd.lt, h.br.below hb h.br.lt, fun e => by
  rw [hk] at e
  have h1 := (h.new e).2.below hb (h.new e).2.lt
  rw [if_pos (by omega)] at h1
  rw [hD]
  exact ⟨(h.new e).1, by rw [if_pos (by omega)]; exact h1⟩, hj, hn, hl, fun e => absurd e (by omega)⟩
theorem RaAt.store (h : RaAt w0 st x d y JS NS LS 3 γ w) (hk : γ.k = true) : RaAt w0 st x d y JS NS LS 4 { γ with c := 4 } ((((w.setCell ⟨γ.D, 0, none⟩ (.int .i64 d.to_)).setCell ⟨γ.D, 1, none⟩ (.slice γ.aj JS.length γ.cj)).setCell ⟨γ.D, 2, none⟩ (.slice γ.an NS.length γ.cn)).setCell ⟨γ.D, 3, none⟩ (.slice γ.al LS.length γ.cl)) := by
 obtain ⟨hD, hB⟩ := h.new hk
 rw [if_pos (by omega)] at hB
 have hG := bes_set (bes_set (bes_set (bes_set (grow_refl w γ.D) 0 (.int .i64 d.to_)) 1 (.slice γ.aj JS.length γ.cj)) 2 (.slice γ.an NS.length γ.cn)) 3 (.slice γ.al LS.length γ.cl)
 have hnew := Blk.eq ((((hB.set 0 (.int .i64 d.to_)).set 1 (.slice γ.aj JS.length γ.cj)).set 2 (.slice γ.an NS.length γ.cn)).set 3 (.slice γ.al LS.length γ.cl)) (show _ = #[.int .i64 d.to_, .slice γ.aj JS.length γ.cj, .slice γ.an NS.length γ.cn, .slice γ.al LS.length γ.cl] from rfl)
 refine ⟨rfl, grow_keep h.below hG (by omega), grow_blk hG h.bs (by omega), grow_blk hG h.bd (by omega), grow_blk hG h.br (by omega), fun _ => ⟨hD, by rw [if_neg (by omega)]; exact hnew⟩, fun _ => ?_, fun _ => ?_, fun _ => ?_, fun _ => hk⟩
 · exact own_setOther (own_setOther (own_setOther (own_setOther (h.j (by omega)) hB (by decide)) (hB.set 0 _) (by decide)) ((hB.set 0 _).set 1 _) (by decide)) (((hB.set 0 _).set 1 _).set 2 _) (by decide)
 · exact own_setOther (own_setOther (own_setOther (own_setOther (h.n (by omega)) hB (by decide)) (hB.set 0 _) (by decide)) ((hB.set 0 _).set 1 _) (by decide)) (((hB.set 0 _).set 1 _).set 2 _) (by decide)
 · exact own_setOther (own_setOther (own_setOther (own_setOther (h.l (by omega)) hB (by decide)) (hB.set 0 _) (by decide)) ((hB.set 0 _).set 1 _) (by decide)) (((hB.set 0 _).set 1 _).set 2 _) (by decide)
end
structure RpAt (w0 : World) (st : StateD) (x : StA) (d : DeltaD) (y : DelA) (O : Nat) (rev : Int) (js : List JobD) (aj : Option Addr) (nj cj : Nat) (ns : List NodeD) (an : Option Addr) (nn cn : Nat) (ls : List LeaseD) (al : Option Addr) (nl cl : Nat) (w : World) : Prop where
 a : ApAt w0 st x d y O #[.int .i64 rev, .slice aj nj cj, .slice an nn cn, .slice al nl cl] w
 j : SlAt w w.heap.size 5 aj nj (rowsV jobV js)
 n : SlAt w w.heap.size 3 an nn (rowsV nodeV ns)
 l : SlAt w w.heap.size 3 al nl (rowsV leaseV ls)
 lj : js.length = nj
 ln : ns.length = nn
 ll : ls.length = nl
section
variable {w0 w w' : World} {st : StateD} {x : StA} {d : DeltaD} {y : DelA} {O : Nat} {rev : Int} {js : List JobD} {aj : Option Addr} {nj cj : Nat} {ns : List NodeD} {an : Option Addr} {nn cn : Nat} {ls : List LeaseD} {al : Option Addr} {nl cl : Nat}
theorem RpAt.kept (h : RpAt w0 st x d y O rev js aj nj cj ns an nn cn ls al nl cl w) (hb : Below w.heap.size w w') : RpAt w0 st x d y O rev js aj nj cj ns an nn cn ls al nl cl w' :=
 ⟨h.a.kept hb, h.j.up hb, h.n.up hb, h.l.up hb, h.lj, h.ln, h.ll⟩
theorem slice_noStr (i : Int) (A B C : Option Addr) (a b c e f g : Nat) : ∀ v ∈ (#[.int .i64 i, .slice A a b, .slice B c e, .slice C f g] : Array Value), ∀ s, v ≠ .string s := by simp
theorem set_more {W : World} {B g i sz n : Nat} {v : Value} {A : Option Addr} {xs : List Value} (h : SlAt (W.setCell ⟨g, i, none⟩ v) W.heap.size sz A n xs) : SlAt (W.setCell ⟨g, i, none⟩ v) (W.setCell ⟨g, i, none⟩ v).heap.size sz A n xs := by
 have e : (W.setCell ⟨g, i, none⟩ v).heap.size = W.heap.size := by simp [World.setCell]
 rw [e]; exact h
theorem RpAt.putJ (h : RpAt w0 st x d y O rev js aj nj cj ns an nn cn ls al nl cl w) {r : List JobD} {A' : Option Addr} {n' c' : Nat} (hs : SlAt w w.heap.size 5 A' n' (rowsV jobV r)) (hl : r.length = n') :
 RpAt w0 st x d y O rev r A' n' c' ns an nn cn ls al nl cl (w.setCell ⟨O, 1, none⟩ (.slice A' n' c')) :=
 ⟨h.a.set 1 (.slice A' n' c') rfl, set_more (B := 0) (blk_noStr (hs) h.a.o (slice_noStr _ _ _ _ _ _ _ _ _ _) (fun hn => first_of JobD.name (fun a => ⟨_, rfl⟩) hl hn) (grow_set w O 1 (.slice A' n' c'))), set_more (B := 0) (blk_noStr (h.n) h.a.o (slice_noStr _ _ _ _ _ _ _ _ _ _) (fun hn => first_of NodeD.name (fun a => ⟨_, rfl⟩) h.ln hn) (grow_set w O 1 (.slice A' n' c'))), set_more (B := 0) (blk_noStr (h.l) h.a.o (slice_noStr _ _ _ _ _ _ _ _ _ _) (fun hn => first_of LeaseD.job (fun a => ⟨_, rfl⟩) h.ll hn) (grow_set w O 1 (.slice A' n' c'))), hl, h.ln, h.ll⟩
theorem RpAt.putN (h : RpAt w0 st x d y O rev js aj nj cj ns an nn cn ls al nl cl w) {r : List NodeD} {A' : Option Addr} {n' c' : Nat} (hs : SlAt w w.heap.size 3 A' n' (rowsV nodeV r)) (hl : r.length = n') :
 RpAt w0 st x d y O rev js aj nj cj r A' n' c' ls al nl cl (w.setCell ⟨O, 2, none⟩ (.slice A' n' c')) :=
 ⟨h.a.set 2 (.slice A' n' c') rfl, set_more (B := 0) (blk_noStr (h.j) h.a.o (slice_noStr _ _ _ _ _ _ _ _ _ _) (fun hn => first_of JobD.name (fun a => ⟨_, rfl⟩) h.lj hn) (grow_set w O 2 (.slice A' n' c'))), set_more (B := 0) (blk_noStr (hs) h.a.o (slice_noStr _ _ _ _ _ _ _ _ _ _) (fun hn => first_of NodeD.name (fun a => ⟨_, rfl⟩) hl hn) (grow_set w O 2 (.slice A' n' c'))), set_more (B := 0) (blk_noStr (h.l) h.a.o (slice_noStr _ _ _ _ _ _ _ _ _ _) (fun hn => first_of LeaseD.job (fun a => ⟨_, rfl⟩) h.ll hn) (grow_set w O 2 (.slice A' n' c'))), h.lj, hl, h.ll⟩
theorem RpAt.putL (h : RpAt w0 st x d y O rev js aj nj cj ns an nn cn ls al nl cl w) {r : List LeaseD} {A' : Option Addr} {n' c' : Nat} (hs : SlAt w w.heap.size 3 A' n' (rowsV leaseV r)) (hl : r.length = n') :
 RpAt w0 st x d y O rev js aj nj cj ns an nn cn r A' n' c' (w.setCell ⟨O, 3, none⟩ (.slice A' n' c')) :=
 ⟨h.a.set 3 (.slice A' n' c') rfl, set_more (B := 0) (blk_noStr (h.j) h.a.o (slice_noStr _ _ _ _ _ _ _ _ _ _) (fun hn => first_of JobD.name (fun a => ⟨_, rfl⟩) h.lj hn) (grow_set w O 3 (.slice A' n' c'))), set_more (B := 0) (blk_noStr (h.n) h.a.o (slice_noStr _ _ _ _ _ _ _ _ _ _) (fun hn => first_of NodeD.name (fun a => ⟨_, rfl⟩) h.ln hn) (grow_set w O 3 (.slice A' n' c'))), set_more (B := 0) (blk_noStr (hs) h.a.o (slice_noStr _ _ _ _ _ _ _ _ _ _) (fun hn => first_of LeaseD.job (fun a => ⟨_, rfl⟩) hl hn) (grow_set w O 3 (.slice A' n' c'))), h.lj, h.ln, hl⟩
end
theorem foldl_take {α β : Type} {f : β → α → β} {a : β} {l : List α} {k : Nat} {x : α} (h : l[k]? = some x) : (l.take (k + 1)).foldl f a = f ((l.take k).foldl f a) x := by
 rw [take_snoc h, List.foldl_append]; rfl
theorem putK_len {α : Type} (key : α → ByteArray) (l : List α) (x : α) : (putK key l x).length ≤ l.length + 1 := by
 have := putFrom_len key x l false
 unfold putK; simpa using this
theorem rapply_any (st : StateD) (x : StA) (d : DeltaD) (y : DelA) (w : World) (hS : StAt w w.heap.size st x) (hD : DelAt w w.heap.size d y) :
 Calls Tryz.prog 17 #[.agg (stC st x), .agg (dC d y)] w (ApPost st d w) := by
 have Hnone := hid (fun E (h : applyF st d = (zeroSt, E)) w' => ApPost.none_ (w := w) (w' := w') h)
 have Hok := hid (fun (st' : StateD) (x' : StA) (h : applyF st d = (st', 0)) w' (hs : StAt w' w'.heap.size st' x') (hb : Below w.heap.size w w') => (⟨st', x', 0, rfl, h, hs, hb⟩ : ApPost st d w (.returned (.tuple #[.agg (stC st' x'), .int .i64 0])) w'))
 have Ec := hid (fun h => ap_check (s := st) (d := d) h)
 have Ed := hid (fun h h2 => ap_delta (s := st) (d := d) h h2)
 have Eo := hid (fun h h2 h3 => ap_old (s := st) (d := d) h h2 h3)
 have En := hid (fun h h2 h3 h4 => ap_none (s := st) (d := d) h h2 h3 h4)
 have Eb := hid (fun h h2 h3 h4 h5 h6 h7 => ap_bad (s := st) (d := d) h h2 h3 h4 h5 h6 h7)
 have Ek := hid (fun h h2 h3 h4 h5 h6 h7 => ap_ok (s := st) (d := d) h h2 h3 h4 h5 h6 h7)
 have Kn := hid (fun h h2 => apKnow (s := st) (d := d) h h2)
 have Mj := hid (fun z h => mem_apply (key := JobD.name) (rows := st.jobs) (set := d.jobs) (gone := d.gj) (z := z) h)
 have Mn := hid (fun z h => mem_apply (key := NodeD.name) (rows := st.nodes) (set := d.nodes) (gone := d.gn) (z := z) h)
 have Ml := hid (fun z h => mem_apply (key := LeaseD.job) (rows := st.leases) (set := d.leases) (gone := d.gl) (z := z) h)
 have HS := hid hS
 have HD := hid hD
 obtain ⟨w1, hw1⟩ : ∃ w1, ((w.alloc (.cells (stC st x) 26)).alloc (.cells (dC d y) 49)).alloc (.cells zSta 26) = w1 := ⟨_, rfl⟩
 have hs1 : w1.heap.size = w.heap.size + 3 := by rw [← hw1]; simp
 have hb1 : Below w.heap.size w w1 := by rw [← hw1]; exact (((Below.refl _ w).alloc (Nat.le_refl _) _).alloc (by simp) _).alloc (by simp; omega) _
 have hBS : Blk w1 w.heap.size 26 (stC st x) := by rw [← hw1]; exact ((show Blk (w.alloc (.cells (stC st x) 26)) w.heap.size 26 _ from heap_alloc_new w _).alloc _).alloc _
 have hBD : Blk w1 (w.heap.size + 1) 49 (dC d y) := by
  rw [← hw1]
  have h := heap_alloc_new (w.alloc (.cells (stC st x) 26)) (.cells (dC d y) 49)
  rw [show (w.alloc (.cells (stC st x) 26)).heap.size = w.heap.size + 1 by simp] at h
  exact (show Blk _ _ _ _ from h).alloc _
 have hBR : Blk w1 (w.heap.size + 2) 26 zSta := by
  rw [← hw1]
  have h := heap_alloc_new ((w.alloc (.cells (stC st x) 26)).alloc (.cells (dC d y) 49)) (.cells zSta 26)
  rwa [show ((w.alloc (.cells (stC st x) 26)).alloc (.cells (dC d y) 49)).heap.size = w.heap.size + 2 by simp] at h
 have HW1 := hid hw1
 have HB1 := hid hb1
 have HBS := hid hBS
 have HBD := hid hBD
 have HBR := hid hBR
 have Hc1 := hid (rcheck_any st x w1 ((hS.below hb1).more hb1.size))
 clear hw1 hb1 hBS hBD hBR hS hD
 obtain ⟨rev, jobs, nodes, leases⟩ := st
 obtain ⟨aj, nj, cj, an, nn, cn, al, nl, cl⟩ := x
 obtain ⟨from_, to_, djobs, dnodes, dleases, ggj, ggn, ggl⟩ := d
 obtain ⟨bj, mj, ej, bn, mn, en, bl, ml, el, gj, qj, fj, gn, qn, fn, gl, ql, fl⟩ := y
 simp only [stC, dC] at HW1 HBS HBD Hc1
 simp only [stC, dC]
 go_enter Tryz.func17, Tryz.ntmps17
 obtain ⟨s0, s1, s2, s3⟩ := Blk.c4 (HBS.out)
 rw [← HW1.out] at s0 s1 s2 s3
 go_wp2_with fail
 rw [HW1.out]
 refine Calls.mono Hc1.out ?_
 rintro e w2 ⟨rfl, hb2⟩
 clear s0 s1 s2 s3
 have HB2 := hid (HB1.out.trans (hb2.mono HB1.out.size))
 have HS2 := hid (HBS.out.below hb2 HBS.out.lt)
 have HD2 := hid (HBD.out.below hb2 HBD.out.lt)
 have HR2 := hid (HBR.out.below hb2 HBR.out.lt)
 have hlr := HR2.out.lt
 clear hb2 hs1 HW1 HBS HBD HBR Hc1
 obtain ⟨E, hE⟩ : ∃ E, checkE (⟨rev, jobs, nodes, leases⟩ : StateD) = E := ⟨_, rfl⟩
 rw [hE]
 by_cases he : E = 0
 rotate_left
 · have hend := hid (Hnone.out E (by rw [Ec.out (by rw [hE]; exact he), hE]))
   have e1 : (E == 0) = false := beq_eq_false_iff_ne.2 he
   have e2 : (E != 0) = true := bne_iff_ne.2 he
   obtain ⟨r0, r1, r2, r3⟩ := Blk.c4 (HR2.out)
   obtain ⟨z0, z1, z2, z3⟩ := Blk.z4 (HR2.out)
   obtain ⟨hbl, hgr⟩ := Blk.S4 (HR2.out) (.int .i64 0) (.slice none 0 0) (.slice none 0 0) (.slice none 0 0)
   obtain ⟨q0, q1, q2, q3⟩ := Blk.c4 hbl
   have Hfin := hid (hend.out _ (grow_keep HB2.out hgr (by omega)))
   clear hbl hgr
   go_wp2
   refine bodyPost_ret (v := .tuple #[.agg #[.int .i64 0, .slice none 0 0, .slice none 0 0, .slice none 0 0], .int .i64 E]) (by simp [results, Tryz.f17, go_sem, q0, q1, q2, q3]) rfl ?_
   exact Hfin.out
 subst he
 have HE := hid hE
 clear hE
 have Hc2 := hid (rdcheck_any (⟨from_, to_, djobs, dnodes, dleases, ggj, ggn, ggl⟩ : DeltaD) (⟨bj, mj, ej, bn, mn, en, bl, ml, el, gj, qj, fj, gn, qn, fn, gl, ql, fl⟩ : DelA) w2 ((HD.out.below HB2.out).more HB2.out.size))
 simp only [dC] at Hc2
 obtain ⟨d0, d1, d2, d3, d4, d5, d6, d7⟩ := Blk.c8 (HD2.out)
 go_wp2_with fail
 refine Calls.mono Hc2.out ?_
 rintro e w3 ⟨rfl, hb3⟩
 clear d0 d1 d2 d3 d4 d5 d6 d7
 have HB3 := hid (HB2.out.trans (hb3.mono HB2.out.size))
 have HS3 := hid (HS2.out.below hb3 HS2.out.lt)
 have HD3 := hid (HD2.out.below hb3 HD2.out.lt)
 have HR3 := hid (HR2.out.below hb3 HR2.out.lt)
 have hlr := HR3.out.lt
 clear hb3 HS2 HD2 HR2 HB2 Hc2
 obtain ⟨E, hE⟩ : ∃ E, deltaE (⟨from_, to_, djobs, dnodes, dleases, ggj, ggn, ggl⟩ : DeltaD) = E := ⟨_, rfl⟩
 rw [hE]
 by_cases he : E = 0
 rotate_left
 · have hend := hid (Hnone.out E (by rw [Ed.out HE.out (by rw [hE]; exact he), hE]))
   have e1 : (E == 0) = false := beq_eq_false_iff_ne.2 he
   have e2 : (E != 0) = true := bne_iff_ne.2 he
   obtain ⟨r0, r1, r2, r3⟩ := Blk.c4 (HR3.out)
   obtain ⟨z0, z1, z2, z3⟩ := Blk.z4 (HR3.out)
   obtain ⟨hbl, hgr⟩ := Blk.S4 (HR3.out) (.int .i64 0) (.slice none 0 0) (.slice none 0 0) (.slice none 0 0)
   obtain ⟨q0, q1, q2, q3⟩ := Blk.c4 hbl
   have Hfin := hid (hend.out _ (grow_keep HB3.out hgr (by omega)))
   clear hbl hgr
   go_wp2
   refine bodyPost_ret (v := .tuple #[.agg #[.int .i64 0, .slice none 0 0, .slice none 0 0, .slice none 0 0], .int .i64 E]) (by simp [results, Tryz.f17, go_sem, q0, q1, q2, q3]) rfl ?_
   exact Hfin.out
 subst he
 have HE2 := hid hE
 clear hE
 have d0 : w3.cell? ⟨w.heap.size + 1, 0, none⟩ = some (.int .i64 from_) := HD3.out.cell 0
 have s0 : w3.cell? ⟨w.heap.size, 0, none⟩ = some (.int .i64 rev) := HS3.out.cell 0
 by_cases hfr : from_ = rev
 rotate_left
 · have hend := hid (Hnone.out 10 (Eo.out HE.out HE2.out hfr))
   have e1 : (from_ == rev) = false := beq_eq_false_iff_ne.2 hfr
   have e2 : (from_ != rev) = true := bne_iff_ne.2 hfr
   obtain ⟨r0, r1, r2, r3⟩ := Blk.c4 (HR3.out)
   obtain ⟨z0, z1, z2, z3⟩ := Blk.z4 (HR3.out)
   obtain ⟨hbl, hgr⟩ := Blk.S4 (HR3.out) (.int .i64 0) (.slice none 0 0) (.slice none 0 0) (.slice none 0 0)
   obtain ⟨q0, q1, q2, q3⟩ := Blk.c4 hbl
   have Hfin := hid (hend.out _ (grow_keep HB3.out hgr (by omega)))
   clear hbl hgr hfr
   go_wp2
   refine bodyPost_ret (v := .tuple #[.agg #[.int .i64 0, .slice none 0 0, .slice none 0 0, .slice none 0 0], .int .i64 10]) (by simp [results, Tryz.f17, go_sem, q0, q1, q2, q3]) rfl ?_
   exact Hfin.out
 have HFr := hid hfr
 have e1 : (from_ == rev) = true := beq_iff_eq.2 hfr
 have e2 : (from_ != rev) = false := by rw [bne, e1]; rfl
 clear hfr
 have HK := hid (Kn.out HE.out HE2.out)
 have bnds : nj ≤ 40 ∧ nn ≤ 20 ∧ nl ≤ 40 ∧ mj ≤ 40 ∧ mn ≤ 20 ∧ ml ≤ 40 ∧ qj ≤ 40 ∧ qn ≤ 20 ∧ ql ≤ 40 := by
  have a1 := HS.out.lj; have a2 := HS.out.ln; have a3 := HS.out.ll; have a4 := HD.out.lj; have a5 := HD.out.ln; have a6 := HD.out.ll; have a7 := HD.out.lgj; have a8 := HD.out.lgn; have a9 := HD.out.lgl
  have b1 := HK.out.nsj; have b2 := HK.out.nsn; have b3 := HK.out.nsl; have b4 := HK.out.ndj; have b5 := HK.out.ndn; have b6 := HK.out.ndl; have b7 := HK.out.ngj; have b8 := HK.out.ngn; have b9 := HK.out.ngl
  simp only at *
  omega
 have HBn := hid bnds
 clear bnds
 have d5 : w3.cell? ⟨w.heap.size + 1, 5, none⟩ = some (.slice gj qj fj) := HD3.out.cell 5
 have hH3 : Below w.heap.size w w3 ∧ Blk w3 w.heap.size 26 #[.int .i64 rev, .slice aj nj cj, .slice an nn cn, .slice al nl cl] ∧ Blk w3 (w.heap.size + 1) 49 #[.int .i64 from_, .int .i64 to_, .slice bj mj ej, .slice bn mn en, .slice bl ml el, .slice gj qj fj, .slice gn qn fn, .slice gl ql fl] ∧ Blk w3 (w.heap.size + 2) 26 zSta := ⟨HB3.out, HS3.out, HD3.out, HR3.out⟩
 have H3 := hid hH3
 clear hH3 HB3 HS3 HD3 HR3 hlr
 go_wp2
 clear d0 s0 e1 e2 d5
 go_loopw [43] (fun i wr => ∃ kk : Nat, kk ≤ qj ∧ i = .int .i64 kk ∧ missingL JobD.name jobs (ggj.take kk) = false ∧ Below w.heap.size w wr ∧ Blk wr w.heap.size 26 #[.int .i64 rev, .slice aj nj cj, .slice an nn cn, .slice al nl cl] ∧ Blk wr (w.heap.size + 1) 49 #[.int .i64 from_, .int .i64 to_, .slice bj mj ej, .slice bn mn en, .slice bl ml el, .slice gj qj fj, .slice gn qn fn, .slice gl ql fl] ∧ Blk wr (w.heap.size + 2) 26 zSta) (fun i _ => qj - (intOf i).toNat)
 case atStart => exact ⟨0, Nat.zero_le _, rfl, rfl, H3.out⟩
 case round =>
  clear H3
  obtain ⟨kk, hkk, rfl, hmis, hb, hs, hd, hr⟩ := hrel
  have HB := hid hb
  have HSb := hid hs
  have HDb := hid hd
  have HRb := hid hr
  have HM := hid hmis
  have hbs := hb.size
  have hlr := hr.lt
  have hqq : qj ≤ 1000 := by have := HBn.out; omega
  clear hb hs hd hr hmis
  by_cases hlt : kk < qj
  · obtain ⟨s, hf⟩ : ∃ z, ggj[kk]? = some z := ⟨_, List.getElem?_eq_getElem (by have := HD.out.lgj; simp only at this; omega)⟩
    obtain ⟨bb, off, hao, hbB, hc⟩ := (HD.out.gj.below HB.out).rec_ strV_len HD.out.lgj hf
    simp only at hao
    subst hao
    have Hf := hid hf
    have e0 : wr.cell? ⟨bb, off + kk * 1, none⟩ = some (.string s) := hc 0 _ rfl
    rw [Nat.mul_one] at e0
    have hlb : bb < wr.heap.size := by omega
    have t0 : wr.cell? ⟨w.heap.size, 1, none⟩ = some (.slice aj nj cj) := HSb.out.cell 1
    have HC := hid (jobAt_any jobs s aj nj cj wr ((HS.out.j.below HB.out).more hbs) HS.out.lj HS.out.bj)
    clear hc hf
    go_wp2_with fail
    refine Calls.mono HC.out ?_
    rintro e wq ⟨iq, rfl, hbq, hcase⟩
    have HBq := hid (HB.out.trans (hbq.mono hbs))
    have HRq := hid (HRb.out.below hbq HRb.out.lt)
    have HSq := hid (HSb.out.below hbq HSb.out.lt)
    have HDq := hid (HDb.out.below hbq HDb.out.lt)
    have hlq := HRq.out.lt
    clear hbq HC t0 e0 HB HRb HSb HDb
    rcases hcase with ⟨rfl, hno⟩ | ⟨kf, xf, rfl, hxk, hyes⟩
    · have hany : (jobs.any fun r => decide (JobD.name r = s)) = false := by
       rw [← find_isSome_any]
       have h : (jobs.find? fun r => decide (JobD.name r = s)) = none := hno
       rw [h]; rfl
      have hm : missingL JobD.name jobs ggj = true := missing_hit (key := JobD.name) Hf.out hany
      have hend := hid (Hnone.out 6 (En.out HE.out HE2.out HFr.out (by show (missingL JobD.name jobs ggj || missingL NodeD.name nodes ggn || missingL LeaseD.job leases ggl) = true; rw [hm]; simp)))
      clear hm hany hno
      obtain ⟨r0, r1, r2, r3⟩ := Blk.c4 (HRq.out)
      obtain ⟨z0, z1, z2, z3⟩ := Blk.z4 (HRq.out)
      obtain ⟨hbl, hgr⟩ := Blk.S4 (HRq.out) (.int .i64 0) (.slice none 0 0) (.slice none 0 0) (.slice none 0 0)
      obtain ⟨q0, q1, q2, q3⟩ := Blk.c4 hbl
      have Hfin := hid (hend.out _ (grow_keep HBq.out hgr (by omega)))
      clear hbl hgr
      go_wp2
      refine bodyPost_ret (v := .tuple #[.agg #[.int .i64 0, .slice none 0 0, .slice none 0 0, .slice none 0 0], .int .i64 6]) (by simp [results, Tryz.f17, go_sem, q0, q1, q2, q3]) rfl ?_
      exact Hfin.out
    · have hany : (jobs.any fun r => decide (JobD.name r = s)) = true := by
       rw [← find_isSome_any]
       have h : (jobs.find? fun r => decide (JobD.name r = s)) = some xf := hyes
       rw [h]; rfl
      have fin := hid (missing_step (key := JobD.name) Hf.out HM.out hany)
      have hd0 : decide ((kf : Int) < 0) = false := decide_eq_false (by omega)
      clear hany hyes hxk
      go_wp2
      go_roundw
      case rel => exact ⟨kk + 1, by omega, by go_num, fin.out, HBq.out, HSq.out, HDq.out, HRq.out⟩
      case measure => simp [intOf]; omega
  · have HMj := hid (missing_all (key := JobD.name) HM.out (by have := HD.out.lgj; simp only at this; omega))
    have H3 := hid (And.intro HB.out (And.intro HSb.out (And.intro HDb.out HRb.out)))
    have dg : wr.cell? ⟨w.heap.size + 1, 6, none⟩ = some (.slice gn qn fn) := HDb.out.cell 6
    clear HB HSb HDb HRb HM hbs hlr
    go_wp2
    clear hlt dg
    go_loopw [57] (fun i wr => ∃ kk : Nat, kk ≤ qn ∧ i = .int .i64 kk ∧ missingL NodeD.name nodes (ggn.take kk) = false ∧ Below w.heap.size w wr ∧ Blk wr w.heap.size 26 #[.int .i64 rev, .slice aj nj cj, .slice an nn cn, .slice al nl cl] ∧ Blk wr (w.heap.size + 1) 49 #[.int .i64 from_, .int .i64 to_, .slice bj mj ej, .slice bn mn en, .slice bl ml el, .slice gj qj fj, .slice gn qn fn, .slice gl ql fl] ∧ Blk wr (w.heap.size + 2) 26 zSta) (fun i _ => qn - (intOf i).toNat)
    case atStart => exact ⟨0, Nat.zero_le _, rfl, rfl, H3.out⟩
    case round =>
     clear H3
     obtain ⟨kk, hkk, rfl, hmis, hb, hs, hd, hr⟩ := hrel
     have HB := hid hb
     have HSb := hid hs
     have HDb := hid hd
     have HRb := hid hr
     have HM := hid hmis
     have hbs := hb.size
     have hlr := hr.lt
     have hqq : qn ≤ 1000 := by have := HBn.out; omega
     clear hb hs hd hr hmis
     by_cases hlt : kk < qn
     · obtain ⟨s, hf⟩ : ∃ z, ggn[kk]? = some z := ⟨_, List.getElem?_eq_getElem (by have := HD.out.lgn; simp only at this; omega)⟩
       obtain ⟨bb, off, hao, hbB, hc⟩ := (HD.out.gn.below HB.out).rec_ strV_len HD.out.lgn hf
       simp only at hao
       subst hao
       have Hf := hid hf
       have e0 : wr.cell? ⟨bb, off + kk * 1, none⟩ = some (.string s) := hc 0 _ rfl
       rw [Nat.mul_one] at e0
       have hlb : bb < wr.heap.size := by omega
       have t0 : wr.cell? ⟨w.heap.size, 2, none⟩ = some (.slice an nn cn) := HSb.out.cell 2
       have HC := hid (nodeAt_any nodes s an nn cn wr ((HS.out.n.below HB.out).more hbs) HS.out.ln HS.out.bn)
       clear hc hf
       go_wp2_with fail
       refine Calls.mono HC.out ?_
       rintro e wq ⟨iq, rfl, hbq, hcase⟩
       have HBq := hid (HB.out.trans (hbq.mono hbs))
       have HRq := hid (HRb.out.below hbq HRb.out.lt)
       have HSq := hid (HSb.out.below hbq HSb.out.lt)
       have HDq := hid (HDb.out.below hbq HDb.out.lt)
       have hlq := HRq.out.lt
       clear hbq HC t0 e0 HB HRb HSb HDb
       rcases hcase with ⟨rfl, hno⟩ | ⟨kf, xf, rfl, hxk, hyes⟩
       · have hany : (nodes.any fun r => decide (NodeD.name r = s)) = false := by
          rw [← find_isSome_any]
          have h : (nodes.find? fun r => decide (NodeD.name r = s)) = none := hno
          rw [h]; rfl
         have hm : missingL NodeD.name nodes ggn = true := missing_hit (key := NodeD.name) Hf.out hany
         have hend := hid (Hnone.out 6 (En.out HE.out HE2.out HFr.out (by show (missingL JobD.name jobs ggj || missingL NodeD.name nodes ggn || missingL LeaseD.job leases ggl) = true; rw [hm]; simp)))
         clear hm hany hno
         obtain ⟨r0, r1, r2, r3⟩ := Blk.c4 (HRq.out)
         obtain ⟨z0, z1, z2, z3⟩ := Blk.z4 (HRq.out)
         obtain ⟨hbl, hgr⟩ := Blk.S4 (HRq.out) (.int .i64 0) (.slice none 0 0) (.slice none 0 0) (.slice none 0 0)
         obtain ⟨q0, q1, q2, q3⟩ := Blk.c4 hbl
         have Hfin := hid (hend.out _ (grow_keep HBq.out hgr (by omega)))
         clear hbl hgr
         go_wp2
         refine bodyPost_ret (v := .tuple #[.agg #[.int .i64 0, .slice none 0 0, .slice none 0 0, .slice none 0 0], .int .i64 6]) (by simp [results, Tryz.f17, go_sem, q0, q1, q2, q3]) rfl ?_
         exact Hfin.out
       · have hany : (nodes.any fun r => decide (NodeD.name r = s)) = true := by
          rw [← find_isSome_any]
          have h : (nodes.find? fun r => decide (NodeD.name r = s)) = some xf := hyes
          rw [h]; rfl
         have fin := hid (missing_step (key := NodeD.name) Hf.out HM.out hany)
         have hd0 : decide ((kf : Int) < 0) = false := decide_eq_false (by omega)
         clear hany hyes hxk
         go_wp2
         go_roundw
         case rel => exact ⟨kk + 1, by omega, by go_num, fin.out, HBq.out, HSq.out, HDq.out, HRq.out⟩
         case measure => simp [intOf]; omega
     · have HMn := hid (missing_all (key := NodeD.name) HM.out (by have := HD.out.lgn; simp only at this; omega))
       have H3 := hid (And.intro HB.out (And.intro HSb.out (And.intro HDb.out HRb.out)))
       have dg : wr.cell? ⟨w.heap.size + 1, 7, none⟩ = some (.slice gl ql fl) := HDb.out.cell 7
       clear HB HSb HDb HRb HM hbs hlr
       go_wp2
       clear hlt dg
       go_loopw [71] (fun i wr => ∃ kk : Nat, kk ≤ ql ∧ i = .int .i64 kk ∧ missingL LeaseD.job leases (ggl.take kk) = false ∧ Below w.heap.size w wr ∧ Blk wr w.heap.size 26 #[.int .i64 rev, .slice aj nj cj, .slice an nn cn, .slice al nl cl] ∧ Blk wr (w.heap.size + 1) 49 #[.int .i64 from_, .int .i64 to_, .slice bj mj ej, .slice bn mn en, .slice bl ml el, .slice gj qj fj, .slice gn qn fn, .slice gl ql fl] ∧ Blk wr (w.heap.size + 2) 26 zSta) (fun i _ => ql - (intOf i).toNat)
       case atStart => exact ⟨0, Nat.zero_le _, rfl, rfl, H3.out⟩
       case round =>
        clear H3
        obtain ⟨kk, hkk, rfl, hmis, hb, hs, hd, hr⟩ := hrel
        have HB := hid hb
        have HSb := hid hs
        have HDb := hid hd
        have HRb := hid hr
        have HM := hid hmis
        have hbs := hb.size
        have hlr := hr.lt
        have hqq : ql ≤ 1000 := by have := HBn.out; omega
        clear hb hs hd hr hmis
        by_cases hlt : kk < ql
        · obtain ⟨s, hf⟩ : ∃ z, ggl[kk]? = some z := ⟨_, List.getElem?_eq_getElem (by have := HD.out.lgl; simp only at this; omega)⟩
          obtain ⟨bb, off, hao, hbB, hc⟩ := (HD.out.gl.below HB.out).rec_ strV_len HD.out.lgl hf
          simp only at hao
          subst hao
          have Hf := hid hf
          have e0 : wr.cell? ⟨bb, off + kk * 1, none⟩ = some (.string s) := hc 0 _ rfl
          rw [Nat.mul_one] at e0
          have hlb : bb < wr.heap.size := by omega
          have t0 : wr.cell? ⟨w.heap.size, 3, none⟩ = some (.slice al nl cl) := HSb.out.cell 3
          have HC := hid (leaseAt_any leases s al nl cl wr ((HS.out.l.below HB.out).more hbs) HS.out.ll HS.out.bl)
          clear hc hf
          go_wp2_with fail
          refine Calls.mono HC.out ?_
          rintro e wq ⟨iq, rfl, hbq, hcase⟩
          have HBq := hid (HB.out.trans (hbq.mono hbs))
          have HRq := hid (HRb.out.below hbq HRb.out.lt)
          have HSq := hid (HSb.out.below hbq HSb.out.lt)
          have HDq := hid (HDb.out.below hbq HDb.out.lt)
          have hlq := HRq.out.lt
          clear hbq HC t0 e0 HB HRb HSb HDb
          rcases hcase with ⟨rfl, hno⟩ | ⟨kf, xf, rfl, hxk, hyes⟩
          · have hany : (leases.any fun r => decide (LeaseD.job r = s)) = false := by
             rw [← find_isSome_any]
             have h : (leases.find? fun r => decide (LeaseD.job r = s)) = none := hno
             rw [h]; rfl
            have hm : missingL LeaseD.job leases ggl = true := missing_hit (key := LeaseD.job) Hf.out hany
            have hend := hid (Hnone.out 6 (En.out HE.out HE2.out HFr.out (by show (missingL JobD.name jobs ggj || missingL NodeD.name nodes ggn || missingL LeaseD.job leases ggl) = true; rw [hm]; simp)))
            clear hm hany hno
            obtain ⟨r0, r1, r2, r3⟩ := Blk.c4 (HRq.out)
            obtain ⟨z0, z1, z2, z3⟩ := Blk.z4 (HRq.out)
            obtain ⟨hbl, hgr⟩ := Blk.S4 (HRq.out) (.int .i64 0) (.slice none 0 0) (.slice none 0 0) (.slice none 0 0)
            obtain ⟨q0, q1, q2, q3⟩ := Blk.c4 hbl
            have Hfin := hid (hend.out _ (grow_keep HBq.out hgr (by omega)))
            clear hbl hgr
            go_wp2
            refine bodyPost_ret (v := .tuple #[.agg #[.int .i64 0, .slice none 0 0, .slice none 0 0, .slice none 0 0], .int .i64 6]) (by simp [results, Tryz.f17, go_sem, q0, q1, q2, q3]) rfl ?_
            exact Hfin.out
          · have hany : (leases.any fun r => decide (LeaseD.job r = s)) = true := by
             rw [← find_isSome_any]
             have h : (leases.find? fun r => decide (LeaseD.job r = s)) = some xf := hyes
             rw [h]; rfl
            have fin := hid (missing_step (key := LeaseD.job) Hf.out HM.out hany)
            have hd0 : decide ((kf : Int) < 0) = false := decide_eq_false (by omega)
            clear hany hyes hxk
            go_wp2
            go_roundw
            case rel => exact ⟨kk + 1, by omega, by go_num, fin.out, HBq.out, HSq.out, HDq.out, HRq.out⟩
            case measure => simp [intOf]; omega
        · have HMl := hid (missing_all (key := LeaseD.job) HM.out (by have := HD.out.lgl; simp only at this; omega))
          have H3 := hid (And.intro HB.out (And.intro HSb.out (And.intro HDb.out HRb.out)))
          clear HB HSb HDb HRb HM hbs hlr
          go_wp2_with fail
          clear hlt
          have hf3 := H3.out
          have H0 : RaAt w (⟨rev, jobs, nodes, leases⟩ : StateD) ⟨aj, nj, cj, an, nn, cn, al, nl, cl⟩ (⟨from_, to_, djobs, dnodes, dleases, ggj, ggn, ggl⟩ : DeltaD) ⟨bj, mj, ej, bn, mn, en, bl, ml, el, gj, qj, fj, gn, qn, fn, gl, ql, fl⟩ (jobs.filter fun x => !ggj.any fun s => decide (s = JobD.name x)) (nodes.filter fun x => !ggn.any fun s => decide (s = NodeD.name x)) (leases.filter fun x => !ggl.any fun s => decide (s = LeaseD.job x)) 0 ⟨none, 0, none, 0, none, 0, 0, false, 0⟩ wr.drew :=
           ⟨rfl, hf3.1.drew, hf3.2.1, hf3.2.2.1, hf3.2.2.2, (fun h => by cases h), fun h => absurd h (by decide), fun h => absurd h (by decide), fun h => absurd h (by decide), fun h => absurd h (by decide)⟩
          clear hf3
          have hmf : ∀ (fn : Fn) (first cap : Array Value) (w : World), (Instr.makeFunc fn first cap).run Tryz.prog w = .ok (.func fn first cap) w := fun _ _ _ _ => rfl
          clear H3
          refine wp_region_phasesG (n := 143) (Γ := RaG) (by kernel_rfl) (raV w.heap.size to_ ⟨aj, nj, cj, an, nn, cn, al, nl, cl⟩ (jobs.filter fun x => !ggj.any fun s => decide (s = JobD.name x)).length (nodes.filter fun x => !ggn.any fun s => decide (s = NodeD.name x)).length (leases.filter fun x => !ggl.any fun s => decide (s = LeaseD.job x)).length) [5, 9, 13, 16] (fun p γ wx => RaAt w (⟨rev, jobs, nodes, leases⟩ : StateD) ⟨aj, nj, cj, an, nn, cn, al, nl, cl⟩ (⟨from_, to_, djobs, dnodes, dleases, ggj, ggn, ggl⟩ : DeltaD) ⟨bj, mj, ej, bn, mn, en, bl, ml, el, gj, qj, fj, gn, qn, fn, gl, ql, fl⟩ (jobs.filter fun x => !ggj.any fun s => decide (s = JobD.name x)) (nodes.filter fun x => !ggn.any fun s => decide (s = NodeD.name x)) (leases.filter fun x => !ggl.any fun s => decide (s = LeaseD.job x)) p γ wx) ⟨none, 0, none, 0, none, 0, 0, false, 0⟩ (by decide +kernel) (by decide +kernel) rfl H0 ?_ ?_
          · refine ⟨?_, ?_, ?_, ?_, ?_, ?_, ?_, ?_, ?_, ?_, ?_, ?_, ?_, ?_, ?_, ?_, ?_, trivial⟩
            · refine ⟨rfl, .inr ⟨by decide, 0, 4, by decide +kernel, by decide +kernel, fun p γ a wx _ hph hp hk => ?_⟩⟩
              have h1 := hk.k 3 rfl
              simp [go_sem, Oper.wp, execOp, Act.eval, h1]
              exact ⟨_, rfl, γ, fun _ _ _ h => h, rfl, hp⟩
            · refine ⟨rfl, .inr ⟨by decide, 0, 4, by decide +kernel, by decide +kernel, fun p γ a wx _ hph hp hk => ?_⟩⟩
              obtain ⟨u1, h1, rfl⟩ := hk.g 0 82 rfl rfl
              have hc : wx.cell? ⟨w.heap.size + 1, 1, none⟩ = some (.int .i64 to_) := hp.bd.cell 1
              simp [go_sem, Oper.wp, execOp, Act.eval, h1, hc]
              exact ⟨_, rfl, γ, fun _ _ _ h => h, rfl, hp⟩
            · refine ⟨rfl, .inr ⟨by decide, 0, 4, by decide +kernel, by decide +kernel, fun p γ a wx _ hph hp hk => ?_⟩⟩
              have h1 := hk.k 2 rfl
              simp [go_sem, Oper.wp, execOp, Act.eval, h1]
              exact ⟨_, rfl, γ, fun _ _ _ h => h, rfl, hp⟩
            · refine ⟨rfl, .inr ⟨by decide, 0, 4, by decide +kernel, by decide +kernel, fun p γ a wx _ hph hp hk => ?_⟩⟩
              obtain ⟨u1, h1, rfl⟩ := hk.g 2 84 rfl rfl
              have hc : wx.cell? ⟨w.heap.size, 1, none⟩ = some (.slice aj nj cj) := hp.bs.cell 1
              simp [go_sem, Oper.wp, execOp, Act.eval, h1, hc]
              exact ⟨_, rfl, γ, fun _ _ _ h => h, rfl, hp⟩
            · refine ⟨rfl, .inr ⟨by decide, 0, 4, by decide +kernel, by decide +kernel, fun p γ a wx _ hph hp hk => ?_⟩⟩
              have h1 := hk.k 3 rfl
              simp [go_sem, Oper.wp, execOp, Act.eval, h1, hmf]
              exact ⟨_, rfl, γ, fun _ _ _ h => h, rfl, hp⟩
            · refine ⟨rfl, .inl ⟨0, rfl, fun γ a wx hp hk => ?_⟩⟩
              obtain ⟨u1, h1, rfl⟩ := hk.g 3 85 rfl rfl
              obtain ⟨u2, h2, rfl⟩ := hk.g 4 86 rfl rfl
              simp [go_sem, Oper.wp, execOp, Act.eval, h1, h2]
              refine (rwo_job (fun z => ggj.any fun q => decide (q = JobD.name z)) 54 #[.pointer (some ⟨w.heap.size + 1, 0, none⟩)] jobs aj nj cj wx (Go.Proofs.enters_of Tryz.func54 (by kernel_rfl) rfl) ((HS.out.j.below hp.below).more hp.below.size) HS.out.lj (by have := HBn.out; omega)
               (fun W hW z _ => by
                obtain ⟨name, prio, need, tries, tag⟩ := z
                have hdc : W.cell? ⟨w.heap.size + 1, 5, none⟩ = some (.slice gj qj fj) := (hp.bd.below hW hp.bd.lt).cell 5
                exact rgone_job _ _ _ _ _ (w.heap.size + 1) ggj gj qj fj W hdc ((HD.out.gj.below (hp.below.trans (hW.mono hp.below.size))).more (Nat.le_trans hp.below.size hW.size)) HD.out.lgj HD.out.bgj)).mono ?_
              rintro e w' ⟨A', c', rfl, ho, hb⟩
              have hat := hp.at_
              have hrl := hp.br.lt
              have ho := ownT_base ho (b := w.heap.size + 3) (by omega)
              exact ⟨_, rfl, { γ with aj := A', cj := c', c := 1 }, raV_tr 5 (fun h => absurd rfl h) (fun _ h => absurd h (by omega)) (fun _ h => absurd h (by omega)) (fun h => absurd h (by omega)) (fun _ h => ⟨h, rfl⟩), ⟨Nat.le_refl _, rfl⟩, hp.call hb (by omega) _ rfl rfl rfl (fun _ => ho) (fun h => absurd h (by omega)) (fun h => absurd h (by omega))⟩
            · refine ⟨rfl, .inr ⟨by decide, 0, 4, by decide +kernel, by decide +kernel, fun p γ a wx _ hph hp hk => ?_⟩⟩
              have h1 := hk.k 2 rfl
              simp [go_sem, Oper.wp, execOp, Act.eval, h1]
              exact ⟨_, rfl, γ, fun _ _ _ h => h, rfl, hp⟩
            · refine ⟨rfl, .inr ⟨by decide, 0, 4, by decide +kernel, by decide +kernel, fun p γ a wx _ hph hp hk => ?_⟩⟩
              obtain ⟨u1, h1, rfl⟩ := hk.g 6 88 rfl rfl
              have hc : wx.cell? ⟨w.heap.size, 2, none⟩ = some (.slice an nn cn) := hp.bs.cell 2
              simp [go_sem, Oper.wp, execOp, Act.eval, h1, hc]
              exact ⟨_, rfl, γ, fun _ _ _ h => h, rfl, hp⟩
            · refine ⟨rfl, .inr ⟨by decide, 0, 4, by decide +kernel, by decide +kernel, fun p γ a wx _ hph hp hk => ?_⟩⟩
              have h1 := hk.k 3 rfl
              simp [go_sem, Oper.wp, execOp, Act.eval, h1, hmf]
              exact ⟨_, rfl, γ, fun _ _ _ h => h, rfl, hp⟩
            · refine ⟨rfl, .inl ⟨1, rfl, fun γ a wx hp hk => ?_⟩⟩
              obtain ⟨u1, h1, rfl⟩ := hk.g 7 89 rfl rfl
              obtain ⟨u2, h2, rfl⟩ := hk.g 8 90 rfl rfl
              simp [go_sem, Oper.wp, execOp, Act.eval, h1, h2]
              refine (rwo_node (fun z => ggn.any fun q => decide (q = NodeD.name z)) 57 #[.pointer (some ⟨w.heap.size + 1, 0, none⟩)] nodes an nn cn wx (Go.Proofs.enters_of Tryz.func57 (by kernel_rfl) rfl) ((HS.out.n.below hp.below).more hp.below.size) HS.out.ln (by have := HBn.out; omega)
               (fun W hW z _ => by
                obtain ⟨name, room, zone⟩ := z
                have hdc : W.cell? ⟨w.heap.size + 1, 6, none⟩ = some (.slice gn qn fn) := (hp.bd.below hW hp.bd.lt).cell 6
                exact rgone_node _ _ _ (w.heap.size + 1) ggn gn qn fn W hdc ((HD.out.gn.below (hp.below.trans (hW.mono hp.below.size))).more (Nat.le_trans hp.below.size hW.size)) HD.out.lgn HD.out.bgn)).mono ?_
              rintro e w' ⟨A', c', rfl, ho, hb⟩
              have hat := hp.at_
              have hrl := hp.br.lt
              have ho := ownT_base ho (b := w.heap.size + 3) (by omega)
              exact ⟨_, rfl, { γ with an := A', cn := c', c := 2 }, raV_tr 9 (fun _ _ => ⟨by show _ ≤ 2; omega, rfl, rfl⟩) (fun h => absurd rfl h) (fun _ h => absurd h (by omega)) (fun h => absurd h (by omega)) (fun _ h => ⟨h, rfl⟩), ⟨Nat.le_refl _, rfl⟩, hp.call hb (by omega) _ rfl rfl rfl (fun _ => ownU_below (hp.j (by omega)) hb) (fun _ => ho) (fun h => absurd h (by omega))⟩
            · refine ⟨rfl, .inr ⟨by decide, 0, 4, by decide +kernel, by decide +kernel, fun p γ a wx _ hph hp hk => ?_⟩⟩
              have h1 := hk.k 2 rfl
              simp [go_sem, Oper.wp, execOp, Act.eval, h1]
              exact ⟨_, rfl, γ, fun _ _ _ h => h, rfl, hp⟩
            · refine ⟨rfl, .inr ⟨by decide, 0, 4, by decide +kernel, by decide +kernel, fun p γ a wx _ hph hp hk => ?_⟩⟩
              obtain ⟨u1, h1, rfl⟩ := hk.g 10 92 rfl rfl
              have hc : wx.cell? ⟨w.heap.size, 3, none⟩ = some (.slice al nl cl) := hp.bs.cell 3
              simp [go_sem, Oper.wp, execOp, Act.eval, h1, hc]
              exact ⟨_, rfl, γ, fun _ _ _ h => h, rfl, hp⟩
            · refine ⟨rfl, .inr ⟨by decide, 0, 4, by decide +kernel, by decide +kernel, fun p γ a wx _ hph hp hk => ?_⟩⟩
              have h1 := hk.k 3 rfl
              simp [go_sem, Oper.wp, execOp, Act.eval, h1, hmf]
              exact ⟨_, rfl, γ, fun _ _ _ h => h, rfl, hp⟩
            · refine ⟨rfl, .inl ⟨2, rfl, fun γ a wx hp hk => ?_⟩⟩
              obtain ⟨u1, h1, rfl⟩ := hk.g 11 93 rfl rfl
              obtain ⟨u2, h2, rfl⟩ := hk.g 12 94 rfl rfl
              simp [go_sem, Oper.wp, execOp, Act.eval, h1, h2]
              refine (rwo_lease (fun z => ggl.any fun q => decide (q = LeaseD.job z)) 59 #[.pointer (some ⟨w.heap.size + 1, 0, none⟩)] leases al nl cl wx (Go.Proofs.enters_of Tryz.func59 (by kernel_rfl) rfl) ((HS.out.l.below hp.below).more hp.below.size) HS.out.ll (by have := HBn.out; omega)
               (fun W hW z _ => by
                obtain ⟨job, node, till⟩ := z
                have hdc : W.cell? ⟨w.heap.size + 1, 7, none⟩ = some (.slice gl ql fl) := (hp.bd.below hW hp.bd.lt).cell 7
                exact rgone_lease _ _ _ (w.heap.size + 1) ggl gl ql fl W hdc ((HD.out.gl.below (hp.below.trans (hW.mono hp.below.size))).more (Nat.le_trans hp.below.size hW.size)) HD.out.lgl HD.out.bgl)).mono ?_
              rintro e w' ⟨A', c', rfl, ho, hb⟩
              have hat := hp.at_
              have hrl := hp.br.lt
              have ho := ownT_base ho (b := w.heap.size + 3) (by omega)
              exact ⟨_, rfl, { γ with al := A', cl := c', c := 3 }, raV_tr 13 (fun _ _ => ⟨by show _ ≤ 3; omega, rfl, rfl⟩) (fun _ _ => ⟨by show _ ≤ 3; omega, rfl, rfl⟩) (fun h => absurd rfl h) (fun h => absurd h (by omega)) (fun _ h => ⟨h, rfl⟩), ⟨Nat.le_refl _, rfl⟩, hp.call hb (by omega) _ rfl rfl rfl (fun _ => ownU_below (hp.j (by omega)) hb) (fun _ => ownU_below (hp.n (by omega)) hb) (fun _ => ho)⟩
            · refine ⟨rfl, .inr ⟨by decide, 3, 4, by decide +kernel, by decide +kernel, fun p γ a wx _ hph hp hk => ?_⟩⟩
              obtain ⟨u1, h1, rfl⟩ := hk.g 1 83 rfl rfl
              obtain ⟨u2, h2, r2⟩ := hk.g 5 87 rfl rfl
              obtain ⟨c2, r2⟩ := (show 1 ≤ γ.c ∧ u2 = _ from r2)
              subst r2
              obtain ⟨u3, h3, r3⟩ := hk.g 9 91 rfl rfl
              obtain ⟨c3, r3⟩ := (show 2 ≤ γ.c ∧ u3 = _ from r3)
              subst r3
              obtain ⟨u4, h4, r4⟩ := hk.g 13 95 rfl rfl
              obtain ⟨c4, r4⟩ := (show 3 ≤ γ.c ∧ u4 = _ from r4)
              subst r4
              simp [go_sem, Oper.wp, execOp, Act.eval, h1, h2, h3, h4]
              exact ⟨_, rfl, γ, fun _ _ _ h => h, ⟨c4, rfl⟩, hp⟩
            · refine ⟨rfl, .inr ⟨by decide, 0, 3, by decide +kernel, by decide +kernel, fun p γ a wx _ hph hp hk => ?_⟩⟩
              simp [go_sem, Oper.wp, execOp, Act.eval]
              exact ⟨_, rfl, { γ with k := true, D := wx.heap.size }, raV_tr 15 (fun _ h => ⟨h, rfl, rfl⟩) (fun _ h => ⟨h, rfl, rfl⟩) (fun _ h => ⟨h, rfl, rfl⟩) (fun h => ⟨h, rfl, rfl, rfl, rfl, rfl, rfl⟩) (fun h => absurd rfl h), ⟨rfl, rfl⟩, hp.alloc hph⟩
            · refine ⟨rfl, .inl ⟨3, rfl, fun γ a wx hp hk => ?_⟩⟩
              obtain ⟨u1, h1, r1⟩ := hk.g 15 14 rfl rfl
              obtain ⟨c1, r1⟩ := (show γ.k = true ∧ u1 = _ from r1)
              subst r1
              obtain ⟨u2, h2, r2⟩ := hk.g 14 96 rfl rfl
              obtain ⟨c2, r2⟩ := (show 3 ≤ γ.c ∧ u2 = _ from r2)
              subst r2
              have hB := (hp.new c1).2
              rw [if_pos (by omega)] at hB
              obtain ⟨d0, d1, d2, d3⟩ := Blk.c4 (hB)
              obtain ⟨z0, z1, z2, z3⟩ := Blk.z4 (hB)
              have hfin := hp.store c1
              have hat := hp.at_
              clear hB hp
              simp [go_sem, Oper.wp, execOp, Act.eval, h1, h2, d0, d1, d2, d3, z0, z1, z2, z3]
              exact ⟨.int .i64 0, { γ with c := 4 }, raV_tr 16 (fun _ _ => ⟨(show 1 ≤ 4 from by decide), rfl, rfl⟩) (fun _ _ => ⟨(show 2 ≤ 4 from by decide), rfl, rfl⟩) (fun _ _ => ⟨(show 3 ≤ 4 from by decide), rfl, rfl⟩) (fun _ => ⟨(show 3 ≤ 4 from by decide), rfl, rfl, rfl, rfl, rfl, rfl⟩) (fun _ h => ⟨h, rfl⟩), trivial, hfin⟩
          · intro γ a wx hd
            have hp : RaAt w (⟨rev, jobs, nodes, leases⟩ : StateD) ⟨aj, nj, cj, an, nn, cn, al, nl, cl⟩ (⟨from_, to_, djobs, dnodes, dleases, ggj, ggn, ggl⟩ : DeltaD) ⟨bj, mj, ej, bn, mn, en, bl, ml, el, gj, qj, fj, gn, qn, fn, gl, ql, fl⟩ (jobs.filter fun x => !ggj.any fun s => decide (s = JobD.name x)) (nodes.filter fun x => !ggn.any fun s => decide (s = NodeD.name x)) (leases.filter fun x => !ggl.any fun s => decide (s = LeaseD.job x)) 4 γ wx := hd.ph
            obtain ⟨fv, rfl, hfv⟩ := hd.frame [82, 83, 84, 85, 86, 87, 88, 89, 90, 91, 92, 93, 94, 95, 96, 14] rfl
            obtain ⟨hk, h14⟩ := (show γ.k = true ∧ fv 14 = _ from hfv 15 _ 14 rfl rfl)
            have hnew := hp.new hk
            rw [if_neg (by omega)] at hnew
            have HP := hid (show RpAt w (⟨rev, jobs, nodes, leases⟩ : StateD) ⟨aj, nj, cj, an, nn, cn, al, nl, cl⟩ (⟨from_, to_, djobs, dnodes, dleases, ggj, ggn, ggl⟩ : DeltaD) ⟨bj, mj, ej, bn, mn, en, bl, ml, el, gj, qj, fj, gn, qn, fn, gl, ql, fl⟩ γ.D to_ (jobs.filter fun x => !ggj.any fun s => decide (s = JobD.name x)) γ.aj (jobs.filter fun x => !ggj.any fun s => decide (s = JobD.name x)).length γ.cj (nodes.filter fun x => !ggn.any fun s => decide (s = NodeD.name x)) γ.an (nodes.filter fun x => !ggn.any fun s => decide (s = NodeD.name x)).length γ.cn (leases.filter fun x => !ggl.any fun s => decide (s = LeaseD.job x)) γ.al (leases.filter fun x => !ggl.any fun s => decide (s = LeaseD.job x)).length γ.cl wx from
             ⟨⟨hp.below, hp.bs, hp.bd, hp.br, hnew.2, hnew.1⟩, own_slAt (hp.j (by omega)), own_slAt (hp.n (by omega)), own_slAt (hp.l (by omega)), rfl, rfl, rfl⟩)
            have hfl : (jobs.filter fun x => !ggj.any fun s => decide (s = JobD.name x)).length ≤ nj ∧ (nodes.filter fun x => !ggn.any fun s => decide (s = NodeD.name x)).length ≤ nn ∧ (leases.filter fun x => !ggl.any fun s => decide (s = LeaseD.job x)).length ≤ nl := by
             have a1 := HS.out.lj; have a2 := HS.out.ln; have a3 := HS.out.ll
             simp only at a1 a2 a3
             exact ⟨by rw [← a1]; exact List.length_filter_le _ _, by rw [← a2]; exact List.length_filter_le _ _, by rw [← a3]; exact List.length_filter_le _ _⟩
            have HFl := hid hfl
            have dg : wx.cell? ⟨w.heap.size + 1, 2, none⟩ = some (.slice bj mj ej) := HP.out.a.d.cell 2
            clear hfl hnew hp hd hfv hk H0 hmf
            simp only [foldl_cons, foldl_nil, setIfInBounds_toArray, set_cons_succ, set_cons_zero, h14]
            clear h14
            go_wp2
            clear dg
            go_loopw [100] (fun i wr => ∃ (kk : Nat) (A1 : Option Addr) (n1 c1 : Nat), kk ≤ mj ∧ i = .int .i64 kk ∧ n1 ≤ 40 + kk ∧ RpAt w (⟨rev, jobs, nodes, leases⟩ : StateD) ⟨aj, nj, cj, an, nn, cn, al, nl, cl⟩ (⟨from_, to_, djobs, dnodes, dleases, ggj, ggn, ggl⟩ : DeltaD) ⟨bj, mj, ej, bn, mn, en, bl, ml, el, gj, qj, fj, gn, qn, fn, gl, ql, fl⟩ γ.D to_ ((djobs.take kk).foldl (putK JobD.name) (jobs.filter fun x => !ggj.any fun s => decide (s = JobD.name x))) A1 n1 c1 (nodes.filter fun x => !ggn.any fun s => decide (s = NodeD.name x)) γ.an ((nodes.filter fun x => !ggn.any fun s => decide (s = NodeD.name x)).length) γ.cn (leases.filter fun x => !ggl.any fun s => decide (s = LeaseD.job x)) γ.al ((leases.filter fun x => !ggl.any fun s => decide (s = LeaseD.job x)).length) γ.cl wr) (fun i _ => mj - (intOf i).toNat)
            case atStart => exact ⟨0, γ.aj, ((jobs.filter fun x => !ggj.any fun s => decide (s = JobD.name x)).length), γ.cj, Nat.zero_le _, rfl, by have := HFl.out; have := HBn.out; omega, HP.out⟩
            case round =>
             clear HP
             obtain ⟨kk, A1, n1, c1, hkk, rfl, hn1, hP⟩ := hrel
             have HP := hid hP
             have hbs := hP.a.below.size
             have hqq : mj ≤ 1000 := by have := HBn.out; omega
             have hol := hP.a.o.lt
             clear hP
             by_cases hlt : kk < mj
             · obtain ⟨z, hf⟩ : ∃ z, djobs[kk]? = some z := ⟨_, List.getElem?_eq_getElem (by have := HD.out.lj; simp only at this; omega)⟩
               obtain ⟨bb, off, hao, hbB, hc⟩ := (HD.out.j.below HP.out.a.below).rec_ jobV_len HD.out.lj hf
               simp only at hao
               subst hao
               have Hst := hid (foldl_take (f := putK JobD.name) (a := (jobs.filter fun x => !ggj.any fun s => decide (s = JobD.name x))) hf)
               have hB1 : Below wr.heap.size wr (wr.alloc (.cells (jobV z).toArray 38)) := (Below.refl _ _).alloc (Nat.le_refl _) _
               have hP1 := HP.out.kept hB1
               have HC := hid (rput_job z _ A1 n1 c1 (wr.alloc (.cells (jobV z).toArray 38)) hP1.j hP1.lj (by have := HBn.out; omega))
               obtain ⟨name, prio, need, tries, tag⟩ := z
               rw [show ((jobV ⟨name, prio, need, tries, tag⟩).toArray) = #[.string name, .int .i64 prio, .int .i64 need, .int .i64 tries, .string tag] from rfl] at HC hP1
               obtain ⟨e0, e1, e2, e3, e4⟩ := rc5 hc
               have HP1 := hid hP1
               have hlb : bb < wr.heap.size := by omega
               have o1 : (wr.alloc (.cells #[.string name, .int .i64 prio, .int .i64 need, .int .i64 tries, .string tag] 38)).cell? ⟨γ.D, 1, none⟩ = some (.slice A1 n1 c1) := hP1.a.o.cell 1
               clear hc hf hB1 hP1
               go_wp2_with fail
               refine Calls.mono HC.out ?_
               rintro e w2 ⟨A', c', rfl, ho, hb2⟩
               have hP2 := HP1.out.kept hb2
               have hsl := own_slAt ho
               have hln := putK_len JobD.name ((djobs.take kk).foldl (putK JobD.name) (jobs.filter fun x => !ggj.any fun s => decide (s = JobD.name x))) ⟨name, prio, need, tries, tag⟩
               rw [HP1.out.lj] at hln
               have o2 : w2.cell? ⟨γ.D, 1, none⟩ = some (.slice A1 n1 c1) := hP2.a.o.cell 1
               have y2 : w2.frozen? ⟨γ.D, 1, none⟩ = false := hP2.a.o.thaw 1
               have HF := hid (hP2.putJ (c' := c') hsl rfl)
               clear hP2 hsl ho hb2 HC o1 e0 e1 e2 e3 e4
               go_wp2
               go_roundw
               case rel => exact ⟨kk + 1, A', (putK JobD.name ((djobs.take kk).foldl (putK JobD.name) (jobs.filter fun x => !ggj.any fun s => decide (s = JobD.name x))) ⟨name, prio, need, tries, tag⟩).length, c', by omega, by go_num, by omega, by rw [Hst.out]; exact HF.out⟩
               case measure => simp [intOf]; omega
             · have hP := HP.out
               rw [List.take_of_length_le (by have := HD.out.lj; simp only at this; omega)] at hP
               have HP := hid (show RpAt w (⟨rev, jobs, nodes, leases⟩ : StateD) ⟨aj, nj, cj, an, nn, cn, al, nl, cl⟩ (⟨from_, to_, djobs, dnodes, dleases, ggj, ggn, ggl⟩ : DeltaD) ⟨bj, mj, ej, bn, mn, en, bl, ml, el, gj, qj, fj, gn, qn, fn, gl, ql, fl⟩ γ.D to_ (applyL JobD.name jobs djobs ggj) A1 n1 c1 (nodes.filter fun x => !ggn.any fun s => decide (s = NodeD.name x)) γ.an ((nodes.filter fun x => !ggn.any fun s => decide (s = NodeD.name x)).length) γ.cn (leases.filter fun x => !ggl.any fun s => decide (s = LeaseD.job x)) γ.al ((leases.filter fun x => !ggl.any fun s => decide (s = LeaseD.job x)).length) γ.cl wr from hP)
               obtain ⟨Pj, rfl⟩ : ∃ q, q = A1 := ⟨_, rfl⟩
               obtain ⟨Nj, rfl⟩ : ∃ q, q = n1 := ⟨_, rfl⟩
               obtain ⟨Cj, rfl⟩ : ∃ q, q = c1 := ⟨_, rfl⟩
               have hnj : Nj ≤ 80 := by have := HBn.out; omega
               clear hP hbs hn1 hkk hqq
               have dg : wr.cell? ⟨w.heap.size + 1, 3, none⟩ = some (.slice bn mn en) := HP.out.a.d.cell 3
               go_wp2
               clear hlt dg
               go_loopw [113] (fun i wr => ∃ (kk : Nat) (A1 : Option Addr) (n1 c1 : Nat), kk ≤ mn ∧ i = .int .i64 kk ∧ n1 ≤ 40 + kk ∧ RpAt w (⟨rev, jobs, nodes, leases⟩ : StateD) ⟨aj, nj, cj, an, nn, cn, al, nl, cl⟩ (⟨from_, to_, djobs, dnodes, dleases, ggj, ggn, ggl⟩ : DeltaD) ⟨bj, mj, ej, bn, mn, en, bl, ml, el, gj, qj, fj, gn, qn, fn, gl, ql, fl⟩ γ.D to_ (applyL JobD.name jobs djobs ggj) Pj Nj Cj ((dnodes.take kk).foldl (putK NodeD.name) (nodes.filter fun x => !ggn.any fun s => decide (s = NodeD.name x))) A1 n1 c1 (leases.filter fun x => !ggl.any fun s => decide (s = LeaseD.job x)) γ.al ((leases.filter fun x => !ggl.any fun s => decide (s = LeaseD.job x)).length) γ.cl wr) (fun i _ => mn - (intOf i).toNat)
               case atStart => exact ⟨0, γ.an, ((nodes.filter fun x => !ggn.any fun s => decide (s = NodeD.name x)).length), γ.cn, Nat.zero_le _, rfl, by have := HFl.out; have := HBn.out; omega, HP.out⟩
               case round =>
                clear HP
                obtain ⟨kk, A1, n1, c1, hkk, rfl, hn1, hP⟩ := hrel
                have HP := hid hP
                have hbs := hP.a.below.size
                have hqq : mn ≤ 1000 := by have := HBn.out; omega
                have hol := hP.a.o.lt
                clear hP
                by_cases hlt : kk < mn
                · obtain ⟨z, hf⟩ : ∃ z, dnodes[kk]? = some z := ⟨_, List.getElem?_eq_getElem (by have := HD.out.ln; simp only at this; omega)⟩
                  obtain ⟨bb, off, hao, hbB, hc⟩ := (HD.out.n.below HP.out.a.below).rec_ nodeV_len HD.out.ln hf
                  simp only at hao
                  subst hao
                  have Hst := hid (foldl_take (f := putK NodeD.name) (a := (nodes.filter fun x => !ggn.any fun s => decide (s = NodeD.name x))) hf)
                  have hB1 : Below wr.heap.size wr (wr.alloc (.cells (nodeV z).toArray 40)) := (Below.refl _ _).alloc (Nat.le_refl _) _
                  have hP1 := HP.out.kept hB1
                  have HC := hid (rput_node z _ A1 n1 c1 (wr.alloc (.cells (nodeV z).toArray 40)) hP1.n hP1.ln (by have := HBn.out; omega))
                  obtain ⟨name, room, zone⟩ := z
                  rw [show ((nodeV ⟨name, room, zone⟩).toArray) = #[.string name, .int .i64 room, .string zone] from rfl] at HC hP1
                  obtain ⟨e0, e1, e2⟩ := rc3 hc
                  have HP1 := hid hP1
                  have hlb : bb < wr.heap.size := by omega
                  have o1 : (wr.alloc (.cells #[.string name, .int .i64 room, .string zone] 40)).cell? ⟨γ.D, 2, none⟩ = some (.slice A1 n1 c1) := hP1.a.o.cell 2
                  clear hc hf hB1 hP1
                  go_wp2_with fail
                  refine Calls.mono HC.out ?_
                  rintro e w2 ⟨A', c', rfl, ho, hb2⟩
                  have hP2 := HP1.out.kept hb2
                  have hsl := own_slAt ho
                  have hln := putK_len NodeD.name ((dnodes.take kk).foldl (putK NodeD.name) (nodes.filter fun x => !ggn.any fun s => decide (s = NodeD.name x))) ⟨name, room, zone⟩
                  rw [HP1.out.ln] at hln
                  have o2 : w2.cell? ⟨γ.D, 2, none⟩ = some (.slice A1 n1 c1) := hP2.a.o.cell 2
                  have y2 : w2.frozen? ⟨γ.D, 2, none⟩ = false := hP2.a.o.thaw 2
                  have HF := hid (hP2.putN (c' := c') hsl rfl)
                  clear hP2 hsl ho hb2 HC o1 e0 e1 e2
                  go_wp2
                  go_roundw
                  case rel => exact ⟨kk + 1, A', (putK NodeD.name ((dnodes.take kk).foldl (putK NodeD.name) (nodes.filter fun x => !ggn.any fun s => decide (s = NodeD.name x))) ⟨name, room, zone⟩).length, c', by omega, by go_num, by omega, by rw [Hst.out]; exact HF.out⟩
                  case measure => simp [intOf]; omega
                · have hP := HP.out
                  rw [List.take_of_length_le (by have := HD.out.ln; simp only at this; omega)] at hP
                  have HP := hid (show RpAt w (⟨rev, jobs, nodes, leases⟩ : StateD) ⟨aj, nj, cj, an, nn, cn, al, nl, cl⟩ (⟨from_, to_, djobs, dnodes, dleases, ggj, ggn, ggl⟩ : DeltaD) ⟨bj, mj, ej, bn, mn, en, bl, ml, el, gj, qj, fj, gn, qn, fn, gl, ql, fl⟩ γ.D to_ (applyL JobD.name jobs djobs ggj) Pj Nj Cj (applyL NodeD.name nodes dnodes ggn) A1 n1 c1 (leases.filter fun x => !ggl.any fun s => decide (s = LeaseD.job x)) γ.al ((leases.filter fun x => !ggl.any fun s => decide (s = LeaseD.job x)).length) γ.cl wr from hP)
                  obtain ⟨Pn, rfl⟩ : ∃ q, q = A1 := ⟨_, rfl⟩
                  obtain ⟨Nn, rfl⟩ : ∃ q, q = n1 := ⟨_, rfl⟩
                  obtain ⟨Cn, rfl⟩ : ∃ q, q = c1 := ⟨_, rfl⟩
                  have hnn : Nn ≤ 80 := by have := HBn.out; omega
                  clear hP hbs hn1 hkk hqq
                  have dg : wr.cell? ⟨w.heap.size + 1, 4, none⟩ = some (.slice bl ml el) := HP.out.a.d.cell 4
                  go_wp2
                  clear hlt dg
                  go_loopw [126] (fun i wr => ∃ (kk : Nat) (A1 : Option Addr) (n1 c1 : Nat), kk ≤ ml ∧ i = .int .i64 kk ∧ n1 ≤ 40 + kk ∧ RpAt w (⟨rev, jobs, nodes, leases⟩ : StateD) ⟨aj, nj, cj, an, nn, cn, al, nl, cl⟩ (⟨from_, to_, djobs, dnodes, dleases, ggj, ggn, ggl⟩ : DeltaD) ⟨bj, mj, ej, bn, mn, en, bl, ml, el, gj, qj, fj, gn, qn, fn, gl, ql, fl⟩ γ.D to_ (applyL JobD.name jobs djobs ggj) Pj Nj Cj (applyL NodeD.name nodes dnodes ggn) Pn Nn Cn ((dleases.take kk).foldl (putK LeaseD.job) (leases.filter fun x => !ggl.any fun s => decide (s = LeaseD.job x))) A1 n1 c1 wr) (fun i _ => ml - (intOf i).toNat)
                  case atStart => exact ⟨0, γ.al, ((leases.filter fun x => !ggl.any fun s => decide (s = LeaseD.job x)).length), γ.cl, Nat.zero_le _, rfl, by have := HFl.out; have := HBn.out; omega, HP.out⟩
                  case round =>
                   clear HP
                   obtain ⟨kk, A1, n1, c1, hkk, rfl, hn1, hP⟩ := hrel
                   have HP := hid hP
                   have hbs := hP.a.below.size
                   have hqq : ml ≤ 1000 := by have := HBn.out; omega
                   have hol := hP.a.o.lt
                   clear hP
                   by_cases hlt : kk < ml
                   · obtain ⟨z, hf⟩ : ∃ z, dleases[kk]? = some z := ⟨_, List.getElem?_eq_getElem (by have := HD.out.ll; simp only at this; omega)⟩
                     obtain ⟨bb, off, hao, hbB, hc⟩ := (HD.out.l.below HP.out.a.below).rec_ leaseV_len HD.out.ll hf
                     simp only at hao
                     subst hao
                     have Hst := hid (foldl_take (f := putK LeaseD.job) (a := (leases.filter fun x => !ggl.any fun s => decide (s = LeaseD.job x))) hf)
                     have hB1 : Below wr.heap.size wr (wr.alloc (.cells (leaseV z).toArray 42)) := (Below.refl _ _).alloc (Nat.le_refl _) _
                     have hP1 := HP.out.kept hB1
                     have HC := hid (rput_lease z _ A1 n1 c1 (wr.alloc (.cells (leaseV z).toArray 42)) hP1.l hP1.ll (by have := HBn.out; omega))
                     obtain ⟨job, node, till⟩ := z
                     rw [show ((leaseV ⟨job, node, till⟩).toArray) = #[.string job, .string node, .int .i64 till] from rfl] at HC hP1
                     obtain ⟨e0, e1, e2⟩ := rc3 hc
                     have HP1 := hid hP1
                     have hlb : bb < wr.heap.size := by omega
                     have o1 : (wr.alloc (.cells #[.string job, .string node, .int .i64 till] 42)).cell? ⟨γ.D, 3, none⟩ = some (.slice A1 n1 c1) := hP1.a.o.cell 3
                     clear hc hf hB1 hP1
                     go_wp2_with fail
                     refine Calls.mono HC.out ?_
                     rintro e w2 ⟨A', c', rfl, ho, hb2⟩
                     have hP2 := HP1.out.kept hb2
                     have hsl := own_slAt ho
                     have hln := putK_len LeaseD.job ((dleases.take kk).foldl (putK LeaseD.job) (leases.filter fun x => !ggl.any fun s => decide (s = LeaseD.job x))) ⟨job, node, till⟩
                     rw [HP1.out.ll] at hln
                     have o2 : w2.cell? ⟨γ.D, 3, none⟩ = some (.slice A1 n1 c1) := hP2.a.o.cell 3
                     have y2 : w2.frozen? ⟨γ.D, 3, none⟩ = false := hP2.a.o.thaw 3
                     have HF := hid (hP2.putL (c' := c') hsl rfl)
                     clear hP2 hsl ho hb2 HC o1 e0 e1 e2
                     go_wp2
                     go_roundw
                     case rel => exact ⟨kk + 1, A', (putK LeaseD.job ((dleases.take kk).foldl (putK LeaseD.job) (leases.filter fun x => !ggl.any fun s => decide (s = LeaseD.job x))) ⟨job, node, till⟩).length, c', by omega, by go_num, by omega, by rw [Hst.out]; exact HF.out⟩
                     case measure => simp [intOf]; omega
                   · have hP := HP.out
                     rw [List.take_of_length_le (by have := HD.out.ll; simp only at this; omega)] at hP
                     have HP := hid (show RpAt w (⟨rev, jobs, nodes, leases⟩ : StateD) ⟨aj, nj, cj, an, nn, cn, al, nl, cl⟩ (⟨from_, to_, djobs, dnodes, dleases, ggj, ggn, ggl⟩ : DeltaD) ⟨bj, mj, ej, bn, mn, en, bl, ml, el, gj, qj, fj, gn, qn, fn, gl, ql, fl⟩ γ.D to_ (applyL JobD.name jobs djobs ggj) Pj Nj Cj (applyL NodeD.name nodes dnodes ggn) Pn Nn Cn (applyL LeaseD.job leases dleases ggl) A1 n1 c1 wr from hP)
                     obtain ⟨Pl, rfl⟩ : ∃ q, q = A1 := ⟨_, rfl⟩
                     obtain ⟨Nl, rfl⟩ : ∃ q, q = n1 := ⟨_, rfl⟩
                     obtain ⟨Cl, rfl⟩ : ∃ q, q = c1 := ⟨_, rfl⟩
                     have hnl : Nl ≤ 80 := by have := HBn.out; omega
                     clear hP hbs hn1 hkk hqq
                     have hP := HP.out
                     have hsz' : StAt wr wr.heap.size (applyS (⟨rev, jobs, nodes, leases⟩ : StateD) (⟨from_, to_, djobs, dnodes, dleases, ggj, ggn, ggl⟩ : DeltaD)) ⟨Pj, Nj, Cj, Pn, Nn, Cn, Pl, Nl, Cl⟩ :=
                      ⟨hP.j, hP.n, hP.l, hP.lj, hP.ln, hP.ll, by simp only; omega, by simp only; omega, by simp only; omega,
                       fun z hz => (Mj.out z hz).elim (HS.out.oj z) (HD.out.oj z), fun z hz => (Mn.out z hz).elim (HS.out.on_ z) (HD.out.on_ z), fun z hz => (Ml.out z hz).elim (HS.out.ol z) (HD.out.ol z)⟩
                     have HZ := hid hsz'
                     have HCk := hid (rcheck_any _ _ wr hsz')
                     rw [show applyS (⟨rev, jobs, nodes, leases⟩ : StateD) (⟨from_, to_, djobs, dnodes, dleases, ggj, ggn, ggl⟩ : DeltaD) = ⟨to_, (applyL JobD.name jobs djobs ggj), (applyL NodeD.name nodes dnodes ggn), (applyL LeaseD.job leases dleases ggl)⟩ from rfl] at HCk
                     simp only [stC] at HCk
                     obtain ⟨o0, o1, o2, o3⟩ := Blk.c4 (hP.a.o)
                     clear hP hsz'
                     go_wp2_with fail
                     refine Calls.mono HCk.out ?_
                     rintro e wc ⟨rfl, hbc⟩
                     have hPc := HP.out.kept hbc
                     have HBc := hid hPc.a.below
                     have HRc := hid hPc.a.r
                     have HOc := hid hPc.a.o
                     have hlc := hPc.a.lo
                     have HZc := hid ((HZ.out.below hbc).more hbc.size)
                     clear hbc hPc o0 o1 o2 o3 HZ HCk HP
                     obtain ⟨E, hE⟩ : ∃ E, checkE (applyS (⟨rev, jobs, nodes, leases⟩ : StateD) (⟨from_, to_, djobs, dnodes, dleases, ggj, ggn, ggl⟩ : DeltaD)) = E := ⟨_, rfl⟩
                     rw [show checkE (⟨to_, (applyL JobD.name jobs djobs ggj), (applyL NodeD.name nodes dnodes ggn), (applyL LeaseD.job leases dleases ggl)⟩ : StateD) = E from hE]
                     by_cases he : E = 0
                     rotate_left
                     · have hend := hid (Hnone.out E (by rw [Eb.out HE.out HE2.out HFr.out HMj.out HMn.out HMl.out (by rw [hE]; exact he), hE]))
                       have e1 : (E == 0) = false := beq_eq_false_iff_ne.2 he
                       have e2 : (E != 0) = true := bne_iff_ne.2 he
                       obtain ⟨r0, r1, r2, r3⟩ := Blk.c4 (HRc.out)
                       obtain ⟨z0, z1, z2, z3⟩ := Blk.z4 (HRc.out)
                       obtain ⟨hbl, hgr⟩ := Blk.S4 (HRc.out) (.int .i64 0) (.slice none 0 0) (.slice none 0 0) (.slice none 0 0)
                       obtain ⟨q0, q1, q2, q3⟩ := Blk.c4 hbl
                       have Hfin := hid (hend.out _ (grow_keep HBc.out hgr (by omega)))
                       clear hbl hgr
                       go_wp2
                       refine bodyPost_ret (v := .tuple #[.agg #[.int .i64 0, .slice none 0 0, .slice none 0 0, .slice none 0 0], .int .i64 E]) (by simp [results, Tryz.f17, go_sem, q0, q1, q2, q3]) rfl ?_
                       exact Hfin.out
                     subst he
                     have hend := hid (Hok.out (applyS (⟨rev, jobs, nodes, leases⟩ : StateD) (⟨from_, to_, djobs, dnodes, dleases, ggj, ggn, ggl⟩ : DeltaD)) ⟨Pj, Nj, Cj, Pn, Nn, Cn, Pl, Nl, Cl⟩ (Ek.out HE.out HE2.out HFr.out HMj.out HMn.out HMl.out hE))
                     clear hE
                     obtain ⟨o0, o1, o2, o3⟩ := Blk.c4 (HOc.out)
                     obtain ⟨r0, r1, r2, r3⟩ := Blk.c4 (HRc.out)
                     obtain ⟨z0, z1, z2, z3⟩ := Blk.z4 (HRc.out)
                     obtain ⟨hbl, hgr⟩ := Blk.S4 (HRc.out) (.int .i64 to_) (.slice Pj Nj Cj) (.slice Pn Nn Cn) (.slice Pl Nl Cl)
                     obtain ⟨q0, q1, q2, q3⟩ := Blk.c4 hbl
                     have hst' := HZc.out.butZ HRc.out (by simp) hgr
                     have Hfin := hid (hend.out _ (hst'.more (by have := hgr.size; omega)) (grow_keep HBc.out hgr (by omega)))
                     clear hbl hgr hst'
                     go_wp2
                     refine bodyPost_ret (v := .tuple #[.agg #[.int .i64 to_, .slice Pj Nj Cj, .slice Pn Nn Cn, .slice Pl Nl Cl], .int .i64 0]) (by simp [results, Tryz.f17, go_sem, q0, q1, q2, q3]) rfl ?_
                     exact Hfin.out
end Go.Proofs.YtjgnnobccecpeaaGreatDoor
