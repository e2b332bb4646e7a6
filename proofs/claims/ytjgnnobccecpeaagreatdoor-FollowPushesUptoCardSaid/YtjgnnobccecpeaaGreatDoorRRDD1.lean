/- Of the proof of a statement: RDD1. -/
import Derived.Test.YtjgnnobccecpeaaGreatDoorRDDec
import Derived.Test.YtjgnnobccecpeaaGreatDoorRRDec
set_option linter.unusedVariables false
set_option linter.unusedSimpArgs false
set_option maxRecDepth 100000
set_option maxHeartbeats 8000000
/- The walk of the closure in the reference's DeltaDecode. -/
namespace Go.Proofs.YtjgnnobccecpeaaGreatDoor
open Go.Lib (hid)
open Go.RowKit
def toV (g S : Nat) (f t : Nat) (_ : Unit) : Nat → Value → Prop
 | 0, u => u = .pointer (some ⟨S, 0, none⟩)
 | 1, u => u = .int .i64 (f : Int)
 | 2, u => u = .pointer (some ⟨g, 0, none⟩)
 | 3, u => u = .int .i64 (t : Int)
 | 4, u => u = .int .i64 (addW f t)
 | 5, u => u = .pointer (some ⟨S, 1, none⟩)
 | _, _ => True
def toPh (g S : Nat) (f t : Nat) (s1 s2 : ByteArray) (w0 : World) : Nat → Unit → World → Prop
 | 0, _, w => SxAt w g s1 ∧ Two w0 w g S ∧ Blk w S 49 #[.int .i64 (f : Int), .int .i64 0, .slice none 0 0, .slice none 0 0, .slice none 0 0, .slice none 0 0, .slice none 0 0, .slice none 0 0]
 | 1, _, w => SxAt w g s2 ∧ Two w0 w g S ∧ Blk w S 49 #[.int .i64 (f : Int), .int .i64 0, .slice none 0 0, .slice none 0 0, .slice none 0 0, .slice none 0 0, .slice none 0 0, .slice none 0 0]
 | _, _, w => SxAt w g s2 ∧ Two w0 w g S ∧ Blk w S 49 #[.int .i64 (f : Int), .int .i64 (addW f t), .slice none 0 0, .slice none 0 0, .slice none 0 0, .slice none 0 0, .slice none 0 0, .slice none 0 0]
def toPhB (g S : Nat) (f : Nat) (s1 : ByteArray) (w0 : World) : Nat → Unit → World → Prop
 | 0, _, w => SxAt w g s1 ∧ Two w0 w g S ∧ Blk w S 49 #[.int .i64 (f : Int), .int .i64 0, .slice none 0 0, .slice none 0 0, .slice none 0 0, .slice none 0 0, .slice none 0 0, .slice none 0 0]
 | _, _, _ => False
theorem Two.drew {w u : World} {a b : Nat} (h : Two w u a b) : Two w u.drew a b := ⟨h.os, h.tape, h.output, h.size, h.block⟩
theorem SxAt.drew {w : World} {g : Nat} {s : ByteArray} (h : SxAt w g s) : SxAt w.drew g s := h
theorem Two.alloc {w u : World} {a b : Nat} (h : Two w u a b) (o : Obj) : Two w (u.alloc o) a b := h.fst (grow_below a ((Below.refl _ _).alloc (Nat.le_refl _) _))
theorem DeOwn.less {w : World} {g g' : Nat} {d : DeltaD} {x : DelA} (h : DeOwn w g d x) (hg : g' ≤ g) : DeOwn w g' d x := by
 obtain ⟨⟨b1, h1, o1⟩, ⟨b2, h2, o2⟩, ⟨b3, h3, o3⟩, ⟨b4, h4, o4⟩, ⟨b5, h5, o5⟩, ⟨b6, h6, o6⟩, l1, l2, l3, l4, l5, l6⟩ := h
 exact ⟨⟨b1, by omega, o1⟩, ⟨b2, by omega, o2⟩, ⟨b3, by omega, o3⟩, ⟨b4, by omega, o4⟩, ⟨b5, by omega, o5⟩, ⟨b6, by omega, o6⟩, l1, l2, l3, l4, l5, l6⟩
def T2P (f : Nat) (z : Int) (p : List JobD × List NodeD × List LeaseD) (gj gn : List ByteArray) (s : ByteArray) : RR DeltaD := (takeP 40 textP s).bind fun gl s => .ok ⟨(f : Int), z, p.1, p.2.1, p.2.2, gj, gn, gl⟩ s
def T1P (f : Nat) (z : Int) (p : List JobD × List NodeD × List LeaseD) (gj : List ByteArray) (s : ByteArray) : RR DeltaD := (takeP 20 textP s).bind fun gn s => T2P f z p gj gn s
def T0P (f : Nat) (z : Int) (p : List JobD × List NodeD × List LeaseD) (s : ByteArray) : RR DeltaD := (takeP 40 textP s).bind fun gj s => T1P f z p gj s
theorem dlP_eq (b : ByteArray) : dlP b = (numP b).bind fun f s => (numP s).bind fun t s => (rowsP 3 s).bind fun p s => T0P f (addW f t) p s := by
 unfold dlP rowsP T0P T1P T2P
 cases numP b with
 | bad x => rfl
 | ok f s =>
  simp only [RR.bind_ok]
  cases numP s with
  | bad x => rfl
  | ok t s =>
   simp only [RR.bind_ok]
   cases takeP 40 (jobP 3) s with
   | bad x => rfl
   | ok j s =>
    simp only [RR.bind_ok]
    cases takeP 20 (nodeP 3) s with
    | bad x => rfl
    | ok n s =>
     simp only [RR.bind_ok]
     cases takeP 40 leaseP s with
     | bad x => rfl
     | ok l s => rfl
def RD1Post (g S : Nat) (b : ByteArray) (w : World) (e : Ending) (w' : World) : Prop :=
 Two w w' g S ∧ match dlP b with
 | .ok d r => e = .returned (.tuple #[]) ∧ SxAt w' g r ∧ ∃ x : DelA, Blk w' S 49 (dC d x) ∧ DeOwn w' g d x
 | .bad x => e = thrown x ∧ ∃ cs, Blk w' S 49 cs
theorem RD1Post.bad {g S x : Nat} {b : ByteArray} {w w' : World} {cs : Array Value} (h : dlP b = .bad x) (ht : Two w w' g S) (hb : Blk w' S 49 cs) : RD1Post g S b w (thrown x) w' := ⟨ht, by rw [h]; exact ⟨rfl, cs, hb⟩⟩
theorem RD1Post.ok {g S : Nat} {b r : ByteArray} {d : DeltaD} {w w' : World} {x : DelA} (h : dlP b = .ok d r) (ht : Two w w' g S) (hs : SxAt w' g r) (hb : Blk w' S 49 (dC d x)) (ho : DeOwn w' g d x) : RD1Post g S b w (.returned (.tuple #[])) w' := ⟨ht, by rw [h]; exact ⟨rfl, hs, x, hb, ho⟩⟩
section
variable {w : World} {o : Oper} {a : Act} {Q : Exit → Act → World → Prop}
theorem wp_push_str {K : Act → World → Prop} {w1 : World} (s x : Operand) (ho : o.op = .call { callee := .builtin .append, args := #[s, x], argTypes := #[47, 47] })
 (base : Nat) (A : Option Addr) (m c : Nat) (l : List ByteArray) (tx : ByteArray) (hs : a.eval s = .slice A m c) (hown : w1.ownsRow base 9 1 (.slice A m c) m (rowsV strV l))
 (hw : w = w1.alloc (.cells #[.string tx] 9)) (hx : a.eval x = .slice (some ⟨w1.heap.size, 0, none⟩) 1 1) (hm : m ≤ 1000) (hbase : base ≤ w1.heap.size)
 (h : ∀ A' c' w', w'.ownsRow base 9 1 (.slice A' (m + 1) c') (m + 1) (rowsV strV (l ++ [tx])) → Grew w1 w' (.slice A m c) (.slice A' (m + 1) c') → K (a.put o.dst (.slice A' (m + 1) c')) w') :
 o.wp Tryz.prog a w K Q := by
 subst hw
 obtain ⟨i0, hi, hz0, hz1, hz2⟩ := info_parts infoStrT
 have hown2 := hown.alloc (.cells #[.string tx] 9)
 obtain ⟨v', w', hrun, h2, h3, h4, h5⟩ := run_append_own_at (P := Tryz.prog) (w1.alloc (.cells #[.string tx] 9)) base 47 o.type 9 i0 (.string ⟨#[]⟩) 1 16 Tryz.underlying47 hi hz0 hz1 hz2 rfl (by decide) _ m _ hown2 ⟨w1.heap.size, 0, none⟩ 1 1 [.string tx] rfl (fun j u hu => by
  have := RowAt.new w1 9 #[.string tx] j u hu
  unfold Addr.add
  split
  · rename_i hj; subst hj; simpa using this
  · simpa using this) (fun u hu => by have hu := List.mem_singleton.1 hu; subst hu; rfl) (by unfold maxLen; omega) (by omega) (by simp; omega)
 have e1 : rowsV strV l ++ [.string tx] = rowsV strV (l ++ [tx]) := by rw [rowsV_append, rowsV_one]; rfl
 rw [e1] at h2
 unfold Oper.wp execOp
 simp only [ho, resolve, invoke, builtin, Sem.run_bind, Sem.run_pure, Result.andThen_ok, List.map_toArray, List.map_cons, List.map_nil, hs, hx, hrun]
 rcases h2.2 with ⟨_, h0⟩ | ⟨g, cap, cur, hv, _⟩
 · omega
 · subst hv
   have g0 : Grew w1 (w1.alloc (.cells #[.string tx] 9)) (.slice A m c) (.slice A m c) := ⟨⟨rfl, rfl, rfl, by simp, fun k hk _ => Below.heap_alloc _ _ _ hk⟩, .inl rfl⟩
   refine h _ _ _ h2 (g0.trans ⟨h3, ?_⟩)
   rcases h5 with h5 | h5
   · exact .inl h5
   · exact .inr ⟨_, h5, Nat.le_refl _⟩
end
theorem own_two {w w' : World} {g S sz n : Nat} {e : TypeId} {v : Value} {xs : List Value} (h : ∃ b, g < b ∧ w.ownsRow b e sz v n xs) (ht : Two w w' g S) (hS : S < g) : ∃ b, g < b ∧ w'.ownsRow b e sz v n xs := by
 obtain ⟨b, hb, h1, h | ⟨q, cap, cur, hv, hq, hgq, r⟩⟩ := h
 · exact ⟨b, hb, h1, .inl h⟩
 · have hlt : q < w.heap.size := (Array.getElem?_eq_some_iff.1 hgq).1
   exact ⟨b, hb, h1, .inr ⟨q, cap, cur, hv, hq, (ht.block q hlt (by omega) (by omega)).trans hgq, r⟩⟩
theorem Two.trans {w u v : World} {a b : Nat} (h : Two w u a b) (k : Two u v a b) : Two w v a b :=
 ⟨k.os.trans h.os, k.tape.trans h.tape, k.output.trans h.output, Nat.le_trans h.size k.size, fun i hi h1 h2 => (k.block i (Nat.lt_of_lt_of_le hi h.size) h1 h2).trans (h.block i hi h1 h2)⟩
theorem Two.grew {w u v : World} {a b : Nat} {x y : Value} (h : Two w u a b) (hg : Grew u v x y) (hx : ∀ k, x.ownBlock = some k → w.heap.size ≤ k) : Two w v a b :=
 ⟨hg.grown.os.trans h.os, hg.grown.tape.trans h.tape, hg.grown.output.trans h.output, Nat.le_trans h.size hg.grown.size, fun k hk h1 h2 => (hg.grown.block k (Nat.lt_of_lt_of_le hk h.size) (fun e => by have := hx k e.symm; omega)).trans (h.block k hk h1 h2)⟩
def gpV (g S ix : Nat) (A : Option Addr) (q c : Nat) (tx : ByteArray) (γ : Nat × Option Addr × Nat) : Nat → Value → Prop
 | 0, u => u = .pointer (some ⟨S, ix, none⟩)
 | 1, u => u = .pointer (some ⟨S, ix, none⟩)
 | 2, u => u = .pointer (some ⟨S, ix, none⟩)
 | 3, u => u = .slice A q c
 | 4, u => u = .pointer (some ⟨g, 0, none⟩)
 | 5, u => u = .string tx
 | 6, u => u = .slice (some ⟨γ.1, 0, none⟩) 1 1
 | 7, u => u = .slice γ.2.1 (q + 1) γ.2.2
 | 8, u => u = .pointer (some ⟨S, ix, none⟩)
 | _, _ => True
theorem gpV_6 {g S ix : Nat} {A : Option Addr} {q c : Nat} {tx : ByteArray} {γ : Nat × Option Addr × Nat} (x : Nat) : ∀ j v, j ≠ 6 → gpV g S ix A q c tx γ j v → gpV g S ix A q c tx (x, γ.2) j v := fun j v hj h =>
 match j, hj, h with
 | 0, _, h => h | 1, _, h => h | 2, _, h => h | 3, _, h => h | 4, _, h => h | 5, _, h => h | 6, hj, _ => absurd rfl hj | 7, _, h => h | 8, _, h => h | _ + 9, _, _ => trivial
theorem gpV_7 {g S ix : Nat} {A : Option Addr} {q c : Nat} {tx : ByteArray} {γ : Nat × Option Addr × Nat} (y : Option Addr × Nat) : ∀ j v, j ≠ 7 → gpV g S ix A q c tx γ j v → gpV g S ix A q c tx (γ.1, y) j v := fun j v hj h =>
 match j, hj, h with
 | 0, _, h => h | 1, _, h => h | 2, _, h => h | 3, _, h => h | 4, _, h => h | 5, _, h => h | 6, _, h => h | 7, hj, _ => absurd rfl hj | 8, _, h => h | _ + 9, _, _ => trivial
def GpAt (g S : Nat) (wB : World) (cells : Array Value) (s : ByteArray) (A : Option Addr) (q c : Nat) (l : List ByteArray) (w : World) : Prop :=
 SxAt w g s ∧ Two wB w g S ∧ Blk w S 49 cells ∧ w.ownsRow wB.heap.size 9 1 (.slice A q c) q (rowsV strV l)
def gpPh (g S : Nat) (wB : World) (cells : Option Addr → Nat → Nat → Array Value) (s s' : ByteArray) (A : Option Addr) (q c : Nat) (l : List ByteArray) (tx : ByteArray) : Nat → Nat × Option Addr × Nat → World → Prop
 | 0, _, w => GpAt g S wB (cells A q c) s A q c l w
 | 1, _, w => GpAt g S wB (cells A q c) s' A q c l w
 | 2, γ, w => ∃ w1, w = w1.alloc (.cells #[.string tx] 9) ∧ w1.heap.size = γ.1 ∧ GpAt g S wB (cells A q c) s' A q c l w1
 | 3, γ, w => GpAt g S wB (cells A q c) s' γ.2.1 (q + 1) γ.2.2 (l ++ [tx]) w
 | _, γ, w => GpAt g S wB (cells γ.2.1 (q + 1) γ.2.2) s' γ.2.1 (q + 1) γ.2.2 (l ++ [tx]) w
def gpPhB (g S : Nat) (wB : World) (cells : Option Addr → Nat → Nat → Array Value) (s : ByteArray) (A : Option Addr) (q c : Nat) (l : List ByteArray) : Nat → Nat × Option Addr × Nat → World → Prop
 | 0, _, w => GpAt g S wB (cells A q c) s A q c l w
 | _, _, _ => False
theorem GpAt.drew {g S : Nat} {wB : World} {cells : Array Value} {s : ByteArray} {A : Option Addr} {q c : Nat} {l : List ByteArray} {w : World} (h : GpAt g S wB cells s A q c l w) : GpAt g S wB cells s A q c l w.drew := ⟨h.1.drew, h.2.1.drew, h.2.2.1, h.2.2.2⟩
def restP (f : Nat) (z : Int) (p : List JobD × List NodeD × List LeaseD) (gj gn gl : List ByteArray) (s : ByteArray) : Nat → RR DeltaD
 | 0 => T0P f z p s
 | 1 => T1P f z p gj s
 | 2 => T2P f z p gj gn s
 | _ => .ok ⟨(f : Int), z, p.1, p.2.1, p.2.2, gj, gn, gl⟩ s
def ROt (g S Pb : Nat) (b : ByteArray) (f : Nat) (z : Int) (p : List JobD × List NodeD × List LeaseD) (aj : Option Addr) (cj : Nat) (an : Option Addr) (cn : Nat) (al : Option Addr) (cl : Nat) (w0 : World) (i : Value) (wr : World) : Prop :=
 ∃ (k : Nat) (gj gn gl : List ByteArray) (agj : Option Addr) (cgj : Nat) (agn : Option Addr) (cgn : Nat) (agl : Option Addr) (cgl : Nat) (s : ByteArray), k ≤ 3 ∧ i = .int .i64 k ∧ SxAt wr g s ∧ Two w0 wr g S ∧
  Blk wr Pb 241 #[.pointer (some ⟨S, 5, none⟩), .pointer (some ⟨S, 6, none⟩), .pointer (some ⟨S, 7, none⟩)] ∧
  Blk wr S 49 #[.int .i64 (f : Int), .int .i64 z, .slice aj p.1.length cj, .slice an p.2.1.length cn, .slice al p.2.2.length cl, .slice agj gj.length cgj, .slice agn gn.length cgn, .slice agl gl.length cgl] ∧
  DeOwn wr g ⟨(f : Int), z, p.1, p.2.1, p.2.2, gj, gn, gl⟩ ⟨aj, p.1.length, cj, an, p.2.1.length, cn, al, p.2.2.length, cl, agj, gj.length, cgj, agn, gn.length, cgn, agl, gl.length, cgl⟩ ∧
  dlP b = restP f z p gj gn gl s k ∧ (k ≤ 0 → gj = [] ∧ agj = none ∧ cgj = 0) ∧ (k ≤ 1 → gn = [] ∧ agn = none ∧ cgn = 0) ∧ (k ≤ 2 → gl = [] ∧ agl = none ∧ cgl = 0)
def GIn (g S : Nat) (wB : World) (m : Nat) (tot : RR (List ByteArray)) (cells : Option Addr → Nat → Nat → Array Value) (i : Value) (wr : World) : Prop :=
 ∃ (q : Nat) (A : Option Addr) (c : Nat) (l : List ByteArray) (s : ByteArray), q ≤ m ∧ i = .int .i64 q ∧ l.length = q ∧ GpAt g S wB (cells A q c) s A q c l wr ∧ SkRel textP tot m q l s
theorem rdd1 (g S : Nat) (b : ByteArray) (w : World) (hx : SxAt w g b) (hS : Blk w S 49 zDel) (hSg : S < g) :
 Calls Tryz.prog 178 #[.pointer (some ⟨g, 0, none⟩), .pointer (some ⟨S, 0, none⟩)] w (RD1Post g S b w) := by
 have hP := hid (dlP_eq b)
 have HN := hid (sxnum g b w hx)
 have HS := hid hS
 have hgl := hx.1.lt
 clear hx hS
 go_enter Tryz.func178, Tryz.ntmps178
 go_wp2_with fail
 refine Calls.mono HN.out ?_
 intro e w1 hp
 rcases hr : numP b with ⟨f, s1⟩ | x
 rotate_left
 · obtain ⟨rfl, hg⟩ := hp.bad hr
   have hend := hid (RD1Post.bad (show dlP b = .bad x by rw [hP.out, hr]; rfl) ((Two.refl w g S).fst hg) (grow_blk hg HS.out (Nat.ne_of_lt hSg)))
   clear hg hr hp
   unfold thrown
   go_wp2
   exact ⟨rfl, hend.out⟩
 obtain ⟨rfl, hs1, hg1⟩ := hp.ok hr
 have hf := numP_le hr
 have E0 := hid hr
 have hSb := grow_blk hg1 HS.out (Nat.ne_of_lt hSg)
 have z0 : w1.frozen? ⟨S, 0, none⟩ = false := hSb.thaw 0
 have x0 : w1.cell? ⟨S, 0, none⟩ = some (.int .i64 0) := hSb.cell 0
 have hSl := hSb.lt
 have T1 := hid (((Two.refl w g S).fst hg1).snd (grow_set w1 S 0 (.int .i64 (f : Int))))
 have B1 := hid (show Blk (w1.setCell ⟨S, 0, none⟩ (.int .i64 (f : Int))) S 49 #[.int .i64 (f : Int), .int .i64 0, .slice none 0 0, .slice none 0 0, .slice none 0 0, .slice none 0 0, .slice none 0 0, .slice none 0 0] from Blk.eq (hSb.set 0 _) rfl)
 have X1 := hid (hs1.grow (grow_set w1 S 0 (.int .i64 (f : Int))) (Nat.ne_of_gt hSg))
 clear hr hp hs1 hg1 hSb HN
 go_wp2_with fail
 rcases hr2 : numP s1 with ⟨t, s2⟩ | x
 rotate_left
 · refine wp_region_phases (n := 52) (by kernel_rfl) (toV g S f 0) [3, 6] (toPhB g S f s1 w) () (by decide +kernel) (by decide +kernel) rfl ⟨X1.out.drew, T1.out.drew, B1.out⟩ ?_ (fun _ a wx hd => hd.ph.elim)
   refine ⟨?_, ?_, ?_, ?_, ?_, ?_, ?_, trivial⟩
   · refine ⟨rfl, .inr ⟨by decide, 0, 2, by decide +kernel, by decide +kernel, fun p _ a wx _ _ hp hk => ?_⟩⟩
     have h1 := hk.k 1 rfl
     simp [go_sem, Oper.wp, execOp, Act.eval, h1]
     exact ⟨_, rfl, rfl, hp⟩
   · refine ⟨rfl, .inr ⟨by decide, 0, 2, by decide +kernel, by decide +kernel, fun p _ a wx _ _ hp hk => ?_⟩⟩
     obtain ⟨u1, hu1, ru1⟩ := hk.g 0 8 rfl rfl
     replace ru1 : u1 = _ := ru1
     subst ru1
     have hc : wx.cell? ⟨S, 0, none⟩ = some (.int .i64 (f : Int)) := by
      match p, hp with
      | 0, hp => exact hp.2.2.cell 0
      | n + 1, hp => exact hp.elim
     simp [go_sem, Oper.wp, execOp, Act.eval, hu1, hc]
     exact ⟨_, rfl, rfl, hp⟩
   · refine ⟨rfl, .inr ⟨by decide, 0, 2, by decide +kernel, by decide +kernel, fun p _ a wx _ _ hp hk => ?_⟩⟩
     have h1 := hk.k 0 rfl
     simp [go_sem, Oper.wp, execOp, Act.eval, h1]
     exact ⟨_, rfl, rfl, hp⟩
   · refine ⟨rfl, .inl ⟨0, rfl, fun _ a wx hp hk => ?_⟩⟩
     obtain ⟨u1, hu1, ru1⟩ := hk.g 2 10 rfl rfl
     replace ru1 : u1 = _ := ru1
     subst ru1
     simp [go_sem, Oper.wp, execOp, Act.eval, hu1]
     have hdf := hk.2.2
     refine (sxnum g s1 wx hp.1).mono ?_
     intro e w' hq
     obtain ⟨rfl, hg2⟩ := hq.bad hr2
     have hend := hid (RD1Post.bad (show dlP b = .bad x by rw [hP.out, E0.out, RR.bind_ok, hr2]; rfl) (hp.2.1.fst hg2) (grow_blk hg2 hp.2.2 (Nat.ne_of_lt hSg)))
     clear hq hg2 hk hp
     unfold thrown
     go_wp2
     exact ⟨hdf, hend.out⟩
   · refine ⟨rfl, .inr ⟨by decide, 1, 2, by decide +kernel, by decide +kernel, fun p _ a wx hlo _ hp hk => ?_⟩⟩
     match p, hp, hlo with
     | 0, _, h => exact absurd h (by decide)
     | n + 1, hp, _ => exact hp.elim
   · refine ⟨rfl, .inr ⟨by decide, 0, 2, by decide +kernel, by decide +kernel, fun p _ a wx _ _ hp hk => ?_⟩⟩
     have h1 := hk.k 1 rfl
     simp [go_sem, Oper.wp, execOp, Act.eval, h1]
     exact ⟨_, rfl, rfl, hp⟩
   · exact ⟨rfl, .inl ⟨1, rfl, fun _ a wx hp hk => hp.elim⟩⟩
 have ht := numP_le hr2
 have hadd := wrap_addW hf ht
 have E1 := hid hr2
 refine wp_region_phases (n := 52) (by kernel_rfl) (toV g S f t) [3, 6] (toPh g S f t s1 s2 w) () (by decide +kernel) (by decide +kernel) rfl ⟨X1.out.drew, T1.out.drew, B1.out⟩ ?_ ?_
 · refine ⟨?_, ?_, ?_, ?_, ?_, ?_, ?_, trivial⟩
   · refine ⟨rfl, .inr ⟨by decide, 0, 2, by decide +kernel, by decide +kernel, fun p _ a wx _ _ hp hk => ?_⟩⟩
     have h1 := hk.k 1 rfl
     simp [go_sem, Oper.wp, execOp, Act.eval, h1]
     exact ⟨_, rfl, rfl, hp⟩
   · refine ⟨rfl, .inr ⟨by decide, 0, 2, by decide +kernel, by decide +kernel, fun p _ a wx _ _ hp hk => ?_⟩⟩
     obtain ⟨u1, hu1, ru1⟩ := hk.g 0 8 rfl rfl
     replace ru1 : u1 = _ := ru1
     subst ru1
     have hc : wx.cell? ⟨S, 0, none⟩ = some (.int .i64 (f : Int)) := by
      match p, hp with
      | 0, hp => exact hp.2.2.cell 0
      | 1, hp => exact hp.2.2.cell 0
      | n + 2, hp => exact hp.2.2.cell 0
     simp [go_sem, Oper.wp, execOp, Act.eval, hu1, hc]
     exact ⟨_, rfl, rfl, hp⟩
   · refine ⟨rfl, .inr ⟨by decide, 0, 2, by decide +kernel, by decide +kernel, fun p _ a wx _ _ hp hk => ?_⟩⟩
     have h1 := hk.k 0 rfl
     simp [go_sem, Oper.wp, execOp, Act.eval, h1]
     exact ⟨_, rfl, rfl, hp⟩
   · refine ⟨rfl, .inl ⟨0, rfl, fun _ a wx hp hk => ?_⟩⟩
     obtain ⟨u1, hu1, ru1⟩ := hk.g 2 10 rfl rfl
     replace ru1 : u1 = _ := ru1
     subst ru1
     simp [go_sem, Oper.wp, execOp, Act.eval, hu1]
     refine (sxnum g s1 wx hp.1).mono ?_
     intro e w' hq
     obtain ⟨rfl, hs2, hg2⟩ := hq.ok hr2
     exact ⟨_, rfl, (), rfl, hs2, hp.2.1.fst hg2, grow_blk hg2 hp.2.2 (Nat.ne_of_lt hSg)⟩
   · refine ⟨rfl, .inr ⟨by decide, 1, 2, by decide +kernel, by decide +kernel, fun p _ a wx _ _ hp hk => ?_⟩⟩
     obtain ⟨u1, hu1, ru1⟩ := hk.g 1 9 rfl rfl
     replace ru1 : u1 = _ := ru1
     subst ru1
     obtain ⟨u2, hu2, ru2⟩ := hk.g 3 11 rfl rfl
     replace ru2 : u2 = _ := ru2
     subst ru2
     simp [go_sem, Oper.wp, execOp, Act.eval, hu1, hu2, hadd]
     exact ⟨_, rfl, rfl, hp⟩
   · refine ⟨rfl, .inr ⟨by decide, 0, 2, by decide +kernel, by decide +kernel, fun p _ a wx _ _ hp hk => ?_⟩⟩
     have h1 := hk.k 1 rfl
     simp [go_sem, Oper.wp, execOp, Act.eval, h1]
     exact ⟨_, rfl, rfl, hp⟩
   · refine ⟨rfl, .inl ⟨1, rfl, fun _ a wx hp hk => ?_⟩⟩
     obtain ⟨u1, hu1, ru1⟩ := hk.g 4 12 rfl rfl
     replace ru1 : u1 = _ := ru1
     subst ru1
     obtain ⟨u2, hu2, ru2⟩ := hk.g 5 13 rfl rfl
     replace ru2 : u2 = _ := ru2
     subst ru2
     have hc : wx.cell? ⟨S, 1, none⟩ = some (.int .i64 0) := hp.2.2.cell 1
     have hz : wx.frozen? ⟨S, 1, none⟩ = false := hp.2.2.thaw 1
     simp [go_sem, Oper.wp, execOp, Act.eval, hu1, hu2, hc, hz]
     exact ⟨.int .i64 0, (), trivial, hp.1.grow (grow_set wx S 1 _) (Nat.ne_of_gt hSg), hp.2.1.snd (grow_set wx S 1 _), Blk.eq (hp.2.2.set 1 _) rfl⟩
 intro _ a wx hd
 obtain ⟨hX2, hT2, hB2⟩ := hd.ph
 obtain ⟨fv, rfl, -⟩ := hd.frame [8, 9, 10, 11, 12, 13] rfl
 simp [Exit.then]
 have HR := hid (sxrows g s2 3 wx hX2)
 have X2 := hid hX2
 have T2 := hid hT2
 have B2 := hid hB2
 clear hd T1 B1 X1 z0 x0 hSl hX2 hT2 hB2 hr2 hadd
 go_wp2_with fail
 refine Calls.mono HR.out ?_
 rintro e w2 ⟨hg, hp⟩
 have hSb := grow_blk hg B2.out (Nat.ne_of_lt hSg)
 rcases hr : rowsP 3 s2 with ⟨⟨j, n, l⟩, r⟩ | x
 rotate_left
 · rw [hr] at hp
   have hp : e = thrown x := hp
   subst hp
   have hend := hid (RD1Post.bad (show dlP b = .bad x by rw [hP.out, E0.out, RR.bind_ok, E1.out, RR.bind_ok, hr]; rfl) (T2.out.fst hg) hSb)
   clear hg hr hSb
   unfold thrown
   go_wp2
   exact ⟨rfl, hend.out⟩
 rw [hr] at hp
 obtain ⟨aj, cj, an, cn, al, cl, rfl, hs, oj, on_, ol⟩ := hp
 have hq := hid (show dlP b = T0P f (addW f t) (j, n, l) r by rw [hP.out, E0.out, RR.bind_ok, E1.out, RR.bind_ok, hr]; rfl)
 have hsl := hSb.lt
 have z2 := hSb.thaw 2
 have z3 := hSb.thaw 3
 have z4 := hSb.thaw 4
 have x2 := (show _ = (some (.slice none 0 0) : Option Value) from hSb.cell 2)
 have x3 := (show _ = (some (.slice none 0 0) : Option Value) from hSb.cell 3)
 have x4 := (show _ = (some (.slice none 0 0) : Option Value) from hSb.cell 4)
 have hG := bes_set (bes_set (bes_set (grow_refl w2 S) 2 (.slice aj j.length cj)) 3 (.slice an n.length cn)) 4 (.slice al l.length cl)
 have HT := hid ((T2.out.fst hg).snd hG)
 have HX := hid (hs.grow hG (Nat.ne_of_gt hSg))
 have hwz : g < wx.heap.size := Nat.lt_of_lt_of_le hgl T2.out.size
 have O1 := hid (ownT_grow oj hG (Nat.lt_trans hSg hwz))
 have O2 := hid (ownT_grow on_ hG (Nat.lt_trans hSg hwz))
 have O3 := hid (ownT_grow ol hG (Nat.lt_trans hSg hwz))
 have HB := hid (Blk.eq (((hSb.set 2 (.slice aj j.length cj)).set 3 (.slice an n.length cn)).set 4 (.slice al l.length cl)) (show _ = #[.int .i64 (f : Int), .int .i64 (addW f t), .slice aj j.length cj, .slice an n.length cn, .slice al l.length cl, .slice none 0 0, .slice none 0 0, .slice none 0 0] from rfl))
 have HL : Below w2.heap.size (((w2.setCell ⟨S, 2, none⟩ (.slice aj j.length cj)).setCell ⟨S, 3, none⟩ (.slice an n.length cn)).setCell ⟨S, 4, none⟩ (.slice al l.length cl)) ((((w2.setCell ⟨S, 2, none⟩ (.slice aj j.length cj)).setCell ⟨S, 3, none⟩ (.slice an n.length cn)).setCell ⟨S, 4, none⟩ (.slice al l.length cl)).alloc (.cells #[.pointer (some ⟨S, 5, none⟩), .pointer (some ⟨S, 6, none⟩), .pointer (some ⟨S, 7, none⟩)] 241)) := (Below.refl _ _).alloc (by simp [World.setCell]) _
 have PB := heap_alloc_new (((w2.setCell ⟨S, 2, none⟩ (.slice aj j.length cj)).setCell ⟨S, 3, none⟩ (.slice an n.length cn)).setCell ⟨S, 4, none⟩ (.slice al l.length cl)) (.cells #[.pointer (some ⟨S, 5, none⟩), .pointer (some ⟨S, 6, none⟩), .pointer (some ⟨S, 7, none⟩)] 241)
 have hz2 : (((w2.setCell ⟨S, 2, none⟩ (.slice aj j.length cj)).setCell ⟨S, 3, none⟩ (.slice an n.length cn)).setCell ⟨S, 4, none⟩ (.slice al l.length cl)).heap.size = w2.heap.size := by simp [World.setCell]
 have HT2 := hid (HT.out.alloc (.cells #[.pointer (some ⟨S, 5, none⟩), .pointer (some ⟨S, 6, none⟩), .pointer (some ⟨S, 7, none⟩)] 241))
 have HX2 := hid (HX.out.alloc (.cells #[.pointer (some ⟨S, 5, none⟩), .pointer (some ⟨S, 6, none⟩), .pointer (some ⟨S, 7, none⟩)] 241))
 have HB2 := hid (HB.out.alloc (.cells #[.pointer (some ⟨S, 5, none⟩), .pointer (some ⟨S, 6, none⟩), .pointer (some ⟨S, 7, none⟩)] 241))
 have hgw2 : g < w2.heap.size := by have := HX.out.1.lt; omega
 rw [hz2] at PB
 have hag : ∀ (o : Obj), World.grownBy (((w2.setCell ⟨S, 2, none⟩ (.slice aj j.length cj)).setCell ⟨S, 3, none⟩ (.slice an n.length cn)).setCell ⟨S, 4, none⟩ (.slice al l.length cl)) ((((w2.setCell ⟨S, 2, none⟩ (.slice aj j.length cj)).setCell ⟨S, 3, none⟩ (.slice an n.length cn)).setCell ⟨S, 4, none⟩ (.slice al l.length cl)).alloc o) (some g) := fun o => grow_below g ((Below.refl _ _).alloc (Nat.le_refl _) o)
 have P1 := hid (ownT_grow O1.out (hag (.cells #[.pointer (some ⟨S, 5, none⟩), .pointer (some ⟨S, 6, none⟩), .pointer (some ⟨S, 7, none⟩)] 241)) hwz)
 have P2 := hid (ownT_grow O2.out (hag (.cells #[.pointer (some ⟨S, 5, none⟩), .pointer (some ⟨S, 6, none⟩), .pointer (some ⟨S, 7, none⟩)] 241)) hwz)
 have P3 := hid (ownT_grow O3.out (hag (.cells #[.pointer (some ⟨S, 5, none⟩), .pointer (some ⟨S, 6, none⟩), .pointer (some ⟨S, 7, none⟩)] 241)) hwz)
 have PB2 := hid (show Blk ((((w2.setCell ⟨S, 2, none⟩ (.slice aj j.length cj)).setCell ⟨S, 3, none⟩ (.slice an n.length cn)).setCell ⟨S, 4, none⟩ (.slice al l.length cl)).alloc (.cells #[.pointer (some ⟨S, 5, none⟩), .pointer (some ⟨S, 6, none⟩), .pointer (some ⟨S, 7, none⟩)] 241)) w2.heap.size 241 #[.pointer (some ⟨S, 5, none⟩), .pointer (some ⟨S, 6, none⟩), .pointer (some ⟨S, 7, none⟩)] from PB)
 clear hg hr hs oj on_ ol hG hSb HR X2 T2 B2 HL PB hag HT HX HB O1 O2 O3 hz2
 go_wp2
 clear x2 x3 x4 z2 z3 z4
 go_loopw [28] (fun i wr => ROt g S w2.heap.size b f (addW f t) (j, n, l) aj cj an cn al cl w i wr) (fun i _ => 3 - (intOf i).toNat)
 case atStart =>
  exact ⟨0, [], [], [], none, 0, none, 0, none, 0, r, by omega, rfl, HX2.out, HT2.out, PB2.out, HB2.out, ⟨⟨_, hwz, P1.out⟩, ⟨_, hwz, P2.out⟩, ⟨_, hwz, P3.out⟩, ⟨_, Nat.lt_succ_self g, World.ownsRow_nil _ _ _ _⟩, ⟨_, Nat.lt_succ_self g, World.ownsRow_nil _ _ _ _⟩, ⟨_, Nat.lt_succ_self g, World.ownsRow_nil _ _ _ _⟩, rfl, rfl, rfl, rfl, rfl, rfl⟩, hq.out, fun _ => ⟨rfl, rfl, rfl⟩, fun _ => ⟨rfl, rfl, rfl⟩, fun _ => ⟨rfl, rfl, rfl⟩⟩
 case round =>
  clear HX2 HT2 PB2 HB2 P1 P2 P3 hq
  obtain ⟨k, gj, gn, gl, agj, cgj, agn, cgn, agl, cgl, s, hk, rfl, hX, hT, hPb, hB, hO, hrel, un0, un1, un2⟩ := hrel
  simp only at hB hO hrel
  by_cases hk3 : k = 3
  · subst hk3
    have hend := hid (RD1Post.ok (d := ⟨(f : Int), addW f t, j, n, l, gj, gn, gl⟩) (x := ⟨aj, j.length, cj, an, n.length, cn, al, l.length, cl, agj, gj.length, cgj, agn, gn.length, cgn, agl, gl.length, cgl⟩) hrel hT hX hB hO)
    clear hX hT hPb hB hO hrel un0 un1 un2
    go_wp2
    go_end0
    exact hend.out
  have hXl := hid hX
  have hTl := hid hT
  have hPl := hid hPb
  have hBl := hid hB
  have hOl := hid hO
  have hRl := hid hrel
  have hPlt := hPb.lt
  have yP0 : wr.cell? ⟨w2.heap.size, 0, none⟩ = some (.pointer (some ⟨S, 5, none⟩)) := hPb.cell 0
  have yP1 : wr.cell? ⟨w2.heap.size, 1, none⟩ = some (.pointer (some ⟨S, 6, none⟩)) := hPb.cell 1
  have yP2 : wr.cell? ⟨w2.heap.size, 2, none⟩ = some (.pointer (some ⟨S, 7, none⟩)) := hPb.cell 2
  clear hX hT hPb hB hO hrel
  rcases (show k = 0 ∨ k = 1 ∨ k = 2 by omega) with rfl | rfl | rfl
  · -- the table number 0
    obtain ⟨rfl, rfl, rfl⟩ := un0 (by omega)
    obtain ⟨rfl, rfl, rfl⟩ := un1 (by omega)
    obtain ⟨rfl, rfl, rfl⟩ := un2 (by omega)
    clear un0 un1 un2 hk3 hk
    go_wp2_with fail
    refine Calls.mono (sxmany g 40 s _ (hXl.out.alloc _) (by decide)) ?_
    intro e w5 hp
    have HBad := hid (fun x (h : takeP 40 textP s = .bad x) => (show dlP b = .bad x by rw [hRl.out]; show T0P _ _ _  _ = _; unfold T0P; rw [h, RR.bind_bad]))
    rcases hr : manyP 40 s with ⟨m, s5⟩ | x
    rotate_left
    · obtain ⟨rfl, hg⟩ := hp.bad hr
      have hend := hid (RD1Post.bad (HBad.out x (takeP_many hr)) ((hTl.out.alloc _).fst hg) (grow_blk hg (hBl.out.alloc _) (Nat.ne_of_lt hSg)))
      clear hg hr hp
      unfold thrown
      go_wp2
      exact ⟨rfl, hend.out⟩
    obtain ⟨rfl, hs5, hg5⟩ := hp.ok hr
    have hm : m ≤ 40 := manyP_le hr
    have HT5 := hid ((hTl.out.alloc _).fst hg5)
    have HB5 := hid (grow_blk hg5 (hBl.out.alloc _) (Nat.ne_of_lt hSg))
    have HP5 := hid (grow_blk hg5 (hPl.out.alloc _) (Nat.ne_of_gt hgw2))
    have HO5 := hid ((hOl.out.grow (grow_below g ((Below.refl _ _).alloc (Nat.le_refl _) _))).grow hg5)
    have hgB : g < w5.heap.size := hs5.1.lt
    have HS5 := hid (show GIn g S w5 m (takeP 40 textP s) (fun A q c => #[.int .i64 (f : Int), .int .i64 (addW f t), .slice aj j.length cj, .slice an n.length cn, .slice al l.length cl, .slice A q c, .slice none 0 0, .slice none 0 0]) (.int .i64 0) w5 from ⟨0, none, 0, [], s5, Nat.zero_le _, rfl, rfl, ⟨hs5, Two.refl _ _ _, HB5.out, World.ownsRow_nil _ _ _ _⟩, SkRel.start hr⟩)
    clear hr hp hs5 hg5 hXl hTl hBl hPl hOl yP0 yP1 yP2
    go_wp2
    go_loopw [39] (fun i wr => GIn g S w5 m (takeP 40 textP s) (fun A q c => #[.int .i64 (f : Int), .int .i64 (addW f t), .slice aj j.length cj, .slice an n.length cn, .slice al l.length cl, .slice A q c, .slice none 0 0, .slice none 0 0]) i wr) (fun i _ => m - (intOf i).toNat)
    case atStart => exact HS5.out
    case round =>
    clear HS5
    obtain ⟨q, A, c, ts, sq, hq, rfl, hl, hG, hsk⟩ := hrel
    have HG := hid hG
    have Hsk := hid hsk
    have Hl := hid hl
    clear hG hsk hl
    by_cases hlt : q < m
    rotate_left
    · obtain rfl : q = m := by omega
      have Hd := hid Hsk.out.done
      have hl := Hl.out
      subst hl
      have Hrel := hid (show dlP b = restP f (addW f t) (j, n, l) ts [] [] sq 1 by rw [hRl.out]; show T0P _ _ _  _ = _; unfold T0P; rw [Hd.out, RR.bind_ok]; rfl)
      have HOn := hid (show DeOwn wr g ⟨(f : Int), addW f t, j, n, l, ts, [], []⟩ ⟨aj, j.length, cj, an, n.length, cn, al, l.length, cl, A, ts.length, c, none, 0, 0, none, 0, 0⟩ from ⟨own_two HO5.out.j HG.out.2.1 hSg, own_two HO5.out.n HG.out.2.1 hSg, own_two HO5.out.l HG.out.2.1 hSg, ⟨_, hgB, HG.out.2.2.2⟩, own_two HO5.out.gn HG.out.2.1 hSg, own_two HO5.out.gl HG.out.2.1 hSg, HO5.out.lj, HO5.out.ln, HO5.out.ll, rfl, rfl, rfl⟩)
      have HPn := hid (HG.out.2.1.blk HP5.out (Nat.ne_of_gt hgw2) (by omega))
      have HTn := hid (HT5.out.trans HG.out.2.1)
      have HXn := hid HG.out.1
      have HBn := hid HG.out.2.2.1
      clear HT5 HB5 HP5 HO5 HG Hsk Hl Hd
      go_wp2
      go_roundw
      case rel => exact ⟨1, ts, [], [], A, c, none, 0, none, 0, sq, by omega, by go_num, HXn.out, HTn.out, HPn.out, HBn.out, HOn.out, Hrel.out, fun h => absurd h (by omega), fun _ => ⟨rfl, rfl, rfl⟩, fun _ => ⟨rfl, rfl, rfl⟩⟩
      case measure => simp [intOf]
    go_wp2_with fail
    rcases hrt : textP sq with ⟨tx, sr⟩ | x
    rotate_left
    · refine wp_region_phases (n := 52) (by kernel_rfl) (gpV g S 5 A q c ⟨#[]⟩) [5, 6, 7, 9] (gpPhB g S w5 (fun A q c => #[.int .i64 (f : Int), .int .i64 (addW f t), .slice aj j.length cj, .slice an n.length cn, .slice al l.length cl, .slice A q c, .slice none 0 0, .slice none 0 0]) sq A q c ts) (0, none, 0) (by decide +kernel) (by decide +kernel) rfl HG.out.drew ?_ (fun _ a wx hd => hd.ph.elim)
      refine ⟨?_, ?_, ?_, ?_, ?_, ?_, ?_, ?_, ?_, ?_, trivial⟩
      · refine ⟨rfl, .inr ⟨by decide, 0, 4, by decide +kernel, by decide +kernel, fun p γ a wx _ hph hp hk => ?_⟩⟩
        have h1 := hk.k 4 rfl
        simp [go_sem, Oper.wp, execOp, Act.eval, h1]
        exact ⟨_, rfl, rfl, hp⟩
      · refine ⟨rfl, .inr ⟨by decide, 0, 4, by decide +kernel, by decide +kernel, fun p γ a wx _ hph hp hk => ?_⟩⟩
        have h1 := hk.k 4 rfl
        simp [go_sem, Oper.wp, execOp, Act.eval, h1]
        exact ⟨_, rfl, rfl, hp⟩
      · refine ⟨rfl, .inr ⟨by decide, 0, 4, by decide +kernel, by decide +kernel, fun p γ a wx _ hph hp hk => ?_⟩⟩
        obtain ⟨u1, hu1, ru1⟩ := hk.g 1 42 rfl rfl
        replace ru1 : u1 = _ := ru1
        subst ru1
        simp [go_sem, Oper.wp, execOp, Act.eval, hu1]
        exact ⟨_, rfl, rfl, hp⟩
      · refine ⟨rfl, .inr ⟨by decide, 0, 2, by decide +kernel, by decide +kernel, fun p γ a wx _ hph hp hk => ?_⟩⟩
        obtain ⟨u1, hu1, ru1⟩ := hk.g 2 43 rfl rfl
        replace ru1 : u1 = _ := ru1
        subst ru1
        have hc : wx.cell? ⟨S, 5, none⟩ = some (.slice A q c) := by
         match p, hp with
         | 0, hp => exact hp.2.2.1.cell 5
         | n + 1, hp => exact hp.elim
        simp [go_sem, Oper.wp, execOp, Act.eval, hu1, hc]
        exact ⟨_, rfl, rfl, hp⟩
      · refine ⟨rfl, .inr ⟨by decide, 0, 4, by decide +kernel, by decide +kernel, fun p γ a wx _ hph hp hk => ?_⟩⟩
        have h1 := hk.k 0 rfl
        simp [go_sem, Oper.wp, execOp, Act.eval, h1]
        exact ⟨_, rfl, rfl, hp⟩
      · refine ⟨rfl, .inl ⟨0, rfl, fun γ a wx hp hk => ?_⟩⟩
        obtain ⟨u1, hu1, ru1⟩ := hk.g 4 45 rfl rfl
        replace ru1 : u1 = _ := ru1
        subst ru1
        simp [go_sem, Oper.wp, execOp, Act.eval, hu1]
        have hdf := hk.2.2
        refine (sxtext g sq wx hp.1).mono ?_
        intro e w' hq
        obtain ⟨rfl, hg2⟩ := hq.bad hrt
        have hend := hid (RD1Post.bad (HBad.out x (Hsk.out.bad hlt hrt)) ((HT5.out.trans hp.2.1).fst hg2) (grow_blk hg2 hp.2.2.1 (Nat.ne_of_lt hSg)))
        clear hq hg2 hk hp
        unfold thrown
        go_wp2
        exact ⟨hdf, hend.out⟩
      · exact ⟨rfl, .inl ⟨1, rfl, fun _ a wx hp hk => hp.elim⟩⟩
      · exact ⟨rfl, .inl ⟨2, rfl, fun _ a wx hp hk => hp.elim⟩⟩
      · refine ⟨rfl, .inr ⟨by decide, 0, 4, by decide +kernel, by decide +kernel, fun p γ a wx _ hph hp hk => ?_⟩⟩
        obtain ⟨u1, hu1, ru1⟩ := hk.g 0 41 rfl rfl
        replace ru1 : u1 = _ := ru1
        subst ru1
        simp [go_sem, Oper.wp, execOp, Act.eval, hu1]
        exact ⟨_, rfl, rfl, hp⟩
      · exact ⟨rfl, .inl ⟨3, rfl, fun _ a wx hp hk => hp.elim⟩⟩
    refine wp_region_phases (n := 52) (by kernel_rfl) (gpV g S 5 A q c tx) [5, 6, 7, 9] (gpPh g S w5 (fun A q c => #[.int .i64 (f : Int), .int .i64 (addW f t), .slice aj j.length cj, .slice an n.length cn, .slice al l.length cl, .slice A q c, .slice none 0 0, .slice none 0 0]) sq sr A q c ts tx) (0, none, 0) (by decide +kernel) (by decide +kernel) rfl HG.out.drew ?_ ?_
    · refine ⟨?_, ?_, ?_, ?_, ?_, ?_, ?_, ?_, ?_, ?_, trivial⟩
      · refine ⟨rfl, .inr ⟨by decide, 0, 4, by decide +kernel, by decide +kernel, fun p γ a wx _ hph hp hk => ?_⟩⟩
        have h1 := hk.k 4 rfl
        simp [go_sem, Oper.wp, execOp, Act.eval, h1]
        exact ⟨_, rfl, rfl, hp⟩
      · refine ⟨rfl, .inr ⟨by decide, 0, 4, by decide +kernel, by decide +kernel, fun p γ a wx _ hph hp hk => ?_⟩⟩
        have h1 := hk.k 4 rfl
        simp [go_sem, Oper.wp, execOp, Act.eval, h1]
        exact ⟨_, rfl, rfl, hp⟩
      · refine ⟨rfl, .inr ⟨by decide, 0, 4, by decide +kernel, by decide +kernel, fun p γ a wx _ hph hp hk => ?_⟩⟩
        obtain ⟨u1, hu1, ru1⟩ := hk.g 1 42 rfl rfl
        replace ru1 : u1 = _ := ru1
        subst ru1
        simp [go_sem, Oper.wp, execOp, Act.eval, hu1]
        exact ⟨_, rfl, rfl, hp⟩
      · refine ⟨rfl, .inr ⟨by decide, 0, 2, by decide +kernel, by decide +kernel, fun p γ a wx _ hph hp hk => ?_⟩⟩
        obtain ⟨u1, hu1, ru1⟩ := hk.g 2 43 rfl rfl
        replace ru1 : u1 = _ := ru1
        subst ru1
        have hc : wx.cell? ⟨S, 5, none⟩ = some (.slice A q c) := by
         match p, hph, hp with
         | 0, _, hp => exact hp.2.2.1.cell 5
         | 1, _, hp => exact hp.2.2.1.cell 5
         | 2, _, hp => obtain ⟨v1, rfl, _, hp⟩ := hp; exact (hp.2.2.1.alloc _).cell 5
         | n + 3, h, _ => omega
        simp [go_sem, Oper.wp, execOp, Act.eval, hu1, hc]
        exact ⟨_, rfl, rfl, hp⟩
      · refine ⟨rfl, .inr ⟨by decide, 0, 4, by decide +kernel, by decide +kernel, fun p γ a wx _ hph hp hk => ?_⟩⟩
        have h1 := hk.k 0 rfl
        simp [go_sem, Oper.wp, execOp, Act.eval, h1]
        exact ⟨_, rfl, rfl, hp⟩
      · refine ⟨rfl, .inl ⟨0, rfl, fun γ a wx hp hk => ?_⟩⟩
        obtain ⟨u1, hu1, ru1⟩ := hk.g 4 45 rfl rfl
        replace ru1 : u1 = _ := ru1
        subst ru1
        simp [go_sem, Oper.wp, execOp, Act.eval, hu1]
        refine (sxtext g sq wx hp.1).mono ?_
        intro e w' hq
        obtain ⟨rfl, hs2, hg2⟩ := hq.ok hrt
        exact ⟨_, rfl, γ.1, γ.2.1, γ.2.2, fun _ _ _ h => h, rfl, hs2, hp.2.1.fst hg2, grow_blk hg2 hp.2.2.1 (Nat.ne_of_lt hSg), ownT_grow hp.2.2.2 hg2 hgB⟩
      · refine ⟨rfl, .inl ⟨1, rfl, fun γ a wx hp hk => ?_⟩⟩
        obtain ⟨u1, hu1, ru1⟩ := hk.g 5 46 rfl rfl
        replace ru1 : u1 = _ := ru1
        subst ru1
        simp [go_sem, Oper.wp, execOp, Act.eval, hu1]
        exact ⟨_, rfl, wx.heap.size, γ.2.1, γ.2.2, gpV_6 _, rfl, wx, rfl, rfl, hp⟩
      · refine ⟨rfl, .inl ⟨2, rfl, fun γ a wx hp hk => ?_⟩⟩
        obtain ⟨u1, hu1, ru1⟩ := hk.g 3 44 rfl rfl
        replace ru1 : u1 = _ := ru1
        subst ru1
        obtain ⟨u2, hu2, ru2⟩ := hk.g 6 47 rfl rfl
        replace ru2 : u2 = _ := ru2
        subst ru2
        obtain ⟨v1, rfl, hvs, hp⟩ := hp
        refine wp_push_str _ _ rfl w5.heap.size A q c ts tx (by simp [Act.eval, hu1]) hp.2.2.2 rfl (by simp [Act.eval, hu2, hvs]) (by omega) hp.2.1.size (fun A' c' w' ho' hg' => ?_)
        have hvb := fun k hk => (hp.2.2.2.lt k hk).1
        exact ⟨_, (γ.1, A', c'), rfl, gpV_7 _, rfl, hp.1.grewT hg' hvb hgB, hp.2.1.grew hg' hvb, hp.2.2.1.grewT hg' hvb (Nat.lt_trans hSg hgB), ho'⟩
      · refine ⟨rfl, .inr ⟨by decide, 0, 4, by decide +kernel, by decide +kernel, fun p γ a wx _ hph hp hk => ?_⟩⟩
        obtain ⟨u1, hu1, ru1⟩ := hk.g 0 41 rfl rfl
        replace ru1 : u1 = _ := ru1
        subst ru1
        simp [go_sem, Oper.wp, execOp, Act.eval, hu1]
        exact ⟨_, rfl, rfl, hp⟩
      · refine ⟨rfl, .inl ⟨3, rfl, fun γ a wx hp hk => ?_⟩⟩
        obtain ⟨u1, hu1, ru1⟩ := hk.g 7 48 rfl rfl
        replace ru1 : u1 = _ := ru1
        subst ru1
        obtain ⟨u2, hu2, ru2⟩ := hk.g 8 49 rfl rfl
        replace ru2 : u2 = _ := ru2
        subst ru2
        have hc : wx.cell? ⟨S, 5, none⟩ = some (.slice A q c) := hp.2.2.1.cell 5
        have hz : wx.frozen? ⟨S, 5, none⟩ = false := hp.2.2.1.thaw 5
        simp [go_sem, Oper.wp, execOp, Act.eval, hu1, hu2, hc, hz]
        exact ⟨.int .i64 0, γ.1, γ.2.1, γ.2.2, fun _ _ _ h => h, trivial, hp.1.grow (grow_set wx S 5 _) (Nat.ne_of_gt hSg), hp.2.1.snd (grow_set wx S 5 _), Blk.eq (hp.2.2.1.set 5 _) rfl, ownT_grow hp.2.2.2 (grow_set wx S 5 _) (Nat.lt_trans hSg hgB)⟩
    intro γ a wx hd
    have Hph := hid hd.ph
    obtain ⟨fv, rfl, -⟩ := hd.frame [41, 42, 43, 44, 45, 46, 47, 48, 49] rfl
    have Hstep := hid (Hsk.out.step hlt hrt)
    clear hd
    simp [Exit.then]
    go_wp2
    go_roundw
    case rel => exact ⟨q + 1, γ.2.1, γ.2.2, ts ++ [tx], sr, by omega, by go_num, by simp [Hl.out], Hph.out, Hstep.out⟩
    case measure => simp [intOf]; omega
  · -- the table number 1
    obtain ⟨rfl, rfl, rfl⟩ := un1 (by omega)
    obtain ⟨rfl, rfl, rfl⟩ := un2 (by omega)
    clear un0 un1 un2 hk3 hk
    go_wp2_with fail
    refine Calls.mono (sxmany g 20 s _ (hXl.out.alloc _) (by decide)) ?_
    intro e w5 hp
    have HBad := hid (fun x (h : takeP 20 textP s = .bad x) => (show dlP b = .bad x by rw [hRl.out]; show T1P _ _ _ gj _ = _; unfold T1P; rw [h, RR.bind_bad]))
    rcases hr : manyP 20 s with ⟨m, s5⟩ | x
    rotate_left
    · obtain ⟨rfl, hg⟩ := hp.bad hr
      have hend := hid (RD1Post.bad (HBad.out x (takeP_many hr)) ((hTl.out.alloc _).fst hg) (grow_blk hg (hBl.out.alloc _) (Nat.ne_of_lt hSg)))
      clear hg hr hp
      unfold thrown
      go_wp2
      exact ⟨rfl, hend.out⟩
    obtain ⟨rfl, hs5, hg5⟩ := hp.ok hr
    have hm : m ≤ 20 := manyP_le hr
    have HT5 := hid ((hTl.out.alloc _).fst hg5)
    have HB5 := hid (grow_blk hg5 (hBl.out.alloc _) (Nat.ne_of_lt hSg))
    have HP5 := hid (grow_blk hg5 (hPl.out.alloc _) (Nat.ne_of_gt hgw2))
    have HO5 := hid ((hOl.out.grow (grow_below g ((Below.refl _ _).alloc (Nat.le_refl _) _))).grow hg5)
    have hgB : g < w5.heap.size := hs5.1.lt
    have HS5 := hid (show GIn g S w5 m (takeP 20 textP s) (fun A q c => #[.int .i64 (f : Int), .int .i64 (addW f t), .slice aj j.length cj, .slice an n.length cn, .slice al l.length cl, .slice agj gj.length cgj, .slice A q c, .slice none 0 0]) (.int .i64 0) w5 from ⟨0, none, 0, [], s5, Nat.zero_le _, rfl, rfl, ⟨hs5, Two.refl _ _ _, HB5.out, World.ownsRow_nil _ _ _ _⟩, SkRel.start hr⟩)
    clear hr hp hs5 hg5 hXl hTl hBl hPl hOl yP0 yP1 yP2
    go_wp2
    go_loopw [39] (fun i wr => GIn g S w5 m (takeP 20 textP s) (fun A q c => #[.int .i64 (f : Int), .int .i64 (addW f t), .slice aj j.length cj, .slice an n.length cn, .slice al l.length cl, .slice agj gj.length cgj, .slice A q c, .slice none 0 0]) i wr) (fun i _ => m - (intOf i).toNat)
    case atStart => exact HS5.out
    case round =>
    clear HS5
    obtain ⟨q, A, c, ts, sq, hq, rfl, hl, hG, hsk⟩ := hrel
    have HG := hid hG
    have Hsk := hid hsk
    have Hl := hid hl
    clear hG hsk hl
    by_cases hlt : q < m
    rotate_left
    · obtain rfl : q = m := by omega
      have Hd := hid Hsk.out.done
      have hl := Hl.out
      subst hl
      have Hrel := hid (show dlP b = restP f (addW f t) (j, n, l) gj ts [] sq 2 by rw [hRl.out]; show T1P _ _ _ gj _ = _; unfold T1P; rw [Hd.out, RR.bind_ok]; rfl)
      have HOn := hid (show DeOwn wr g ⟨(f : Int), addW f t, j, n, l, gj, ts, []⟩ ⟨aj, j.length, cj, an, n.length, cn, al, l.length, cl, agj, gj.length, cgj, A, ts.length, c, none, 0, 0⟩ from ⟨own_two HO5.out.j HG.out.2.1 hSg, own_two HO5.out.n HG.out.2.1 hSg, own_two HO5.out.l HG.out.2.1 hSg, own_two HO5.out.gj HG.out.2.1 hSg, ⟨_, hgB, HG.out.2.2.2⟩, own_two HO5.out.gl HG.out.2.1 hSg, HO5.out.lj, HO5.out.ln, HO5.out.ll, rfl, rfl, rfl⟩)
      have HPn := hid (HG.out.2.1.blk HP5.out (Nat.ne_of_gt hgw2) (by omega))
      have HTn := hid (HT5.out.trans HG.out.2.1)
      have HXn := hid HG.out.1
      have HBn := hid HG.out.2.2.1
      clear HT5 HB5 HP5 HO5 HG Hsk Hl Hd
      go_wp2
      go_roundw
      case rel => exact ⟨2, gj, ts, [], agj, cgj, A, c, none, 0, sq, by omega, by go_num, HXn.out, HTn.out, HPn.out, HBn.out, HOn.out, Hrel.out, fun h => absurd h (by omega), fun h => absurd h (by omega), fun _ => ⟨rfl, rfl, rfl⟩⟩
      case measure => simp [intOf]
    go_wp2_with fail
    rcases hrt : textP sq with ⟨tx, sr⟩ | x
    rotate_left
    · refine wp_region_phases (n := 52) (by kernel_rfl) (gpV g S 6 A q c ⟨#[]⟩) [5, 6, 7, 9] (gpPhB g S w5 (fun A q c => #[.int .i64 (f : Int), .int .i64 (addW f t), .slice aj j.length cj, .slice an n.length cn, .slice al l.length cl, .slice agj gj.length cgj, .slice A q c, .slice none 0 0]) sq A q c ts) (0, none, 0) (by decide +kernel) (by decide +kernel) rfl HG.out.drew ?_ (fun _ a wx hd => hd.ph.elim)
      refine ⟨?_, ?_, ?_, ?_, ?_, ?_, ?_, ?_, ?_, ?_, trivial⟩
      · refine ⟨rfl, .inr ⟨by decide, 0, 4, by decide +kernel, by decide +kernel, fun p γ a wx _ hph hp hk => ?_⟩⟩
        have h1 := hk.k 4 rfl
        simp [go_sem, Oper.wp, execOp, Act.eval, h1]
        exact ⟨_, rfl, rfl, hp⟩
      · refine ⟨rfl, .inr ⟨by decide, 0, 4, by decide +kernel, by decide +kernel, fun p γ a wx _ hph hp hk => ?_⟩⟩
        have h1 := hk.k 4 rfl
        simp [go_sem, Oper.wp, execOp, Act.eval, h1]
        exact ⟨_, rfl, rfl, hp⟩
      · refine ⟨rfl, .inr ⟨by decide, 0, 4, by decide +kernel, by decide +kernel, fun p γ a wx _ hph hp hk => ?_⟩⟩
        obtain ⟨u1, hu1, ru1⟩ := hk.g 1 42 rfl rfl
        replace ru1 : u1 = _ := ru1
        subst ru1
        simp [go_sem, Oper.wp, execOp, Act.eval, hu1]
        exact ⟨_, rfl, rfl, hp⟩
      · refine ⟨rfl, .inr ⟨by decide, 0, 2, by decide +kernel, by decide +kernel, fun p γ a wx _ hph hp hk => ?_⟩⟩
        obtain ⟨u1, hu1, ru1⟩ := hk.g 2 43 rfl rfl
        replace ru1 : u1 = _ := ru1
        subst ru1
        have hc : wx.cell? ⟨S, 6, none⟩ = some (.slice A q c) := by
         match p, hp with
         | 0, hp => exact hp.2.2.1.cell 6
         | n + 1, hp => exact hp.elim
        simp [go_sem, Oper.wp, execOp, Act.eval, hu1, hc]
        exact ⟨_, rfl, rfl, hp⟩
      · refine ⟨rfl, .inr ⟨by decide, 0, 4, by decide +kernel, by decide +kernel, fun p γ a wx _ hph hp hk => ?_⟩⟩
        have h1 := hk.k 0 rfl
        simp [go_sem, Oper.wp, execOp, Act.eval, h1]
        exact ⟨_, rfl, rfl, hp⟩
      · refine ⟨rfl, .inl ⟨0, rfl, fun γ a wx hp hk => ?_⟩⟩
        obtain ⟨u1, hu1, ru1⟩ := hk.g 4 45 rfl rfl
        replace ru1 : u1 = _ := ru1
        subst ru1
        simp [go_sem, Oper.wp, execOp, Act.eval, hu1]
        have hdf := hk.2.2
        refine (sxtext g sq wx hp.1).mono ?_
        intro e w' hq
        obtain ⟨rfl, hg2⟩ := hq.bad hrt
        have hend := hid (RD1Post.bad (HBad.out x (Hsk.out.bad hlt hrt)) ((HT5.out.trans hp.2.1).fst hg2) (grow_blk hg2 hp.2.2.1 (Nat.ne_of_lt hSg)))
        clear hq hg2 hk hp
        unfold thrown
        go_wp2
        exact ⟨hdf, hend.out⟩
      · exact ⟨rfl, .inl ⟨1, rfl, fun _ a wx hp hk => hp.elim⟩⟩
      · exact ⟨rfl, .inl ⟨2, rfl, fun _ a wx hp hk => hp.elim⟩⟩
      · refine ⟨rfl, .inr ⟨by decide, 0, 4, by decide +kernel, by decide +kernel, fun p γ a wx _ hph hp hk => ?_⟩⟩
        obtain ⟨u1, hu1, ru1⟩ := hk.g 0 41 rfl rfl
        replace ru1 : u1 = _ := ru1
        subst ru1
        simp [go_sem, Oper.wp, execOp, Act.eval, hu1]
        exact ⟨_, rfl, rfl, hp⟩
      · exact ⟨rfl, .inl ⟨3, rfl, fun _ a wx hp hk => hp.elim⟩⟩
    refine wp_region_phases (n := 52) (by kernel_rfl) (gpV g S 6 A q c tx) [5, 6, 7, 9] (gpPh g S w5 (fun A q c => #[.int .i64 (f : Int), .int .i64 (addW f t), .slice aj j.length cj, .slice an n.length cn, .slice al l.length cl, .slice agj gj.length cgj, .slice A q c, .slice none 0 0]) sq sr A q c ts tx) (0, none, 0) (by decide +kernel) (by decide +kernel) rfl HG.out.drew ?_ ?_
    · refine ⟨?_, ?_, ?_, ?_, ?_, ?_, ?_, ?_, ?_, ?_, trivial⟩
      · refine ⟨rfl, .inr ⟨by decide, 0, 4, by decide +kernel, by decide +kernel, fun p γ a wx _ hph hp hk => ?_⟩⟩
        have h1 := hk.k 4 rfl
        simp [go_sem, Oper.wp, execOp, Act.eval, h1]
        exact ⟨_, rfl, rfl, hp⟩
      · refine ⟨rfl, .inr ⟨by decide, 0, 4, by decide +kernel, by decide +kernel, fun p γ a wx _ hph hp hk => ?_⟩⟩
        have h1 := hk.k 4 rfl
        simp [go_sem, Oper.wp, execOp, Act.eval, h1]
        exact ⟨_, rfl, rfl, hp⟩
      · refine ⟨rfl, .inr ⟨by decide, 0, 4, by decide +kernel, by decide +kernel, fun p γ a wx _ hph hp hk => ?_⟩⟩
        obtain ⟨u1, hu1, ru1⟩ := hk.g 1 42 rfl rfl
        replace ru1 : u1 = _ := ru1
        subst ru1
        simp [go_sem, Oper.wp, execOp, Act.eval, hu1]
        exact ⟨_, rfl, rfl, hp⟩
      · refine ⟨rfl, .inr ⟨by decide, 0, 2, by decide +kernel, by decide +kernel, fun p γ a wx _ hph hp hk => ?_⟩⟩
        obtain ⟨u1, hu1, ru1⟩ := hk.g 2 43 rfl rfl
        replace ru1 : u1 = _ := ru1
        subst ru1
        have hc : wx.cell? ⟨S, 6, none⟩ = some (.slice A q c) := by
         match p, hph, hp with
         | 0, _, hp => exact hp.2.2.1.cell 6
         | 1, _, hp => exact hp.2.2.1.cell 6
         | 2, _, hp => obtain ⟨v1, rfl, _, hp⟩ := hp; exact (hp.2.2.1.alloc _).cell 6
         | n + 3, h, _ => omega
        simp [go_sem, Oper.wp, execOp, Act.eval, hu1, hc]
        exact ⟨_, rfl, rfl, hp⟩
      · refine ⟨rfl, .inr ⟨by decide, 0, 4, by decide +kernel, by decide +kernel, fun p γ a wx _ hph hp hk => ?_⟩⟩
        have h1 := hk.k 0 rfl
        simp [go_sem, Oper.wp, execOp, Act.eval, h1]
        exact ⟨_, rfl, rfl, hp⟩
      · refine ⟨rfl, .inl ⟨0, rfl, fun γ a wx hp hk => ?_⟩⟩
        obtain ⟨u1, hu1, ru1⟩ := hk.g 4 45 rfl rfl
        replace ru1 : u1 = _ := ru1
        subst ru1
        simp [go_sem, Oper.wp, execOp, Act.eval, hu1]
        refine (sxtext g sq wx hp.1).mono ?_
        intro e w' hq
        obtain ⟨rfl, hs2, hg2⟩ := hq.ok hrt
        exact ⟨_, rfl, γ.1, γ.2.1, γ.2.2, fun _ _ _ h => h, rfl, hs2, hp.2.1.fst hg2, grow_blk hg2 hp.2.2.1 (Nat.ne_of_lt hSg), ownT_grow hp.2.2.2 hg2 hgB⟩
      · refine ⟨rfl, .inl ⟨1, rfl, fun γ a wx hp hk => ?_⟩⟩
        obtain ⟨u1, hu1, ru1⟩ := hk.g 5 46 rfl rfl
        replace ru1 : u1 = _ := ru1
        subst ru1
        simp [go_sem, Oper.wp, execOp, Act.eval, hu1]
        exact ⟨_, rfl, wx.heap.size, γ.2.1, γ.2.2, gpV_6 _, rfl, wx, rfl, rfl, hp⟩
      · refine ⟨rfl, .inl ⟨2, rfl, fun γ a wx hp hk => ?_⟩⟩
        obtain ⟨u1, hu1, ru1⟩ := hk.g 3 44 rfl rfl
        replace ru1 : u1 = _ := ru1
        subst ru1
        obtain ⟨u2, hu2, ru2⟩ := hk.g 6 47 rfl rfl
        replace ru2 : u2 = _ := ru2
        subst ru2
        obtain ⟨v1, rfl, hvs, hp⟩ := hp
        refine wp_push_str _ _ rfl w5.heap.size A q c ts tx (by simp [Act.eval, hu1]) hp.2.2.2 rfl (by simp [Act.eval, hu2, hvs]) (by omega) hp.2.1.size (fun A' c' w' ho' hg' => ?_)
        have hvb := fun k hk => (hp.2.2.2.lt k hk).1
        exact ⟨_, (γ.1, A', c'), rfl, gpV_7 _, rfl, hp.1.grewT hg' hvb hgB, hp.2.1.grew hg' hvb, hp.2.2.1.grewT hg' hvb (Nat.lt_trans hSg hgB), ho'⟩
      · refine ⟨rfl, .inr ⟨by decide, 0, 4, by decide +kernel, by decide +kernel, fun p γ a wx _ hph hp hk => ?_⟩⟩
        obtain ⟨u1, hu1, ru1⟩ := hk.g 0 41 rfl rfl
        replace ru1 : u1 = _ := ru1
        subst ru1
        simp [go_sem, Oper.wp, execOp, Act.eval, hu1]
        exact ⟨_, rfl, rfl, hp⟩
      · refine ⟨rfl, .inl ⟨3, rfl, fun γ a wx hp hk => ?_⟩⟩
        obtain ⟨u1, hu1, ru1⟩ := hk.g 7 48 rfl rfl
        replace ru1 : u1 = _ := ru1
        subst ru1
        obtain ⟨u2, hu2, ru2⟩ := hk.g 8 49 rfl rfl
        replace ru2 : u2 = _ := ru2
        subst ru2
        have hc : wx.cell? ⟨S, 6, none⟩ = some (.slice A q c) := hp.2.2.1.cell 6
        have hz : wx.frozen? ⟨S, 6, none⟩ = false := hp.2.2.1.thaw 6
        simp [go_sem, Oper.wp, execOp, Act.eval, hu1, hu2, hc, hz]
        exact ⟨.int .i64 0, γ.1, γ.2.1, γ.2.2, fun _ _ _ h => h, trivial, hp.1.grow (grow_set wx S 6 _) (Nat.ne_of_gt hSg), hp.2.1.snd (grow_set wx S 6 _), Blk.eq (hp.2.2.1.set 6 _) rfl, ownT_grow hp.2.2.2 (grow_set wx S 6 _) (Nat.lt_trans hSg hgB)⟩
    intro γ a wx hd
    have Hph := hid hd.ph
    obtain ⟨fv, rfl, -⟩ := hd.frame [41, 42, 43, 44, 45, 46, 47, 48, 49] rfl
    have Hstep := hid (Hsk.out.step hlt hrt)
    clear hd
    simp [Exit.then]
    go_wp2
    go_roundw
    case rel => exact ⟨q + 1, γ.2.1, γ.2.2, ts ++ [tx], sr, by omega, by go_num, by simp [Hl.out], Hph.out, Hstep.out⟩
    case measure => simp [intOf]; omega
  · -- the table number 2
    obtain ⟨rfl, rfl, rfl⟩ := un2 (by omega)
    clear un0 un1 un2 hk3 hk
    go_wp2_with fail
    refine Calls.mono (sxmany g 40 s _ (hXl.out.alloc _) (by decide)) ?_
    intro e w5 hp
    have HBad := hid (fun x (h : takeP 40 textP s = .bad x) => (show dlP b = .bad x by rw [hRl.out]; show T2P _ _ _ gj gn _ = _; unfold T2P; rw [h, RR.bind_bad]))
    rcases hr : manyP 40 s with ⟨m, s5⟩ | x
    rotate_left
    · obtain ⟨rfl, hg⟩ := hp.bad hr
      have hend := hid (RD1Post.bad (HBad.out x (takeP_many hr)) ((hTl.out.alloc _).fst hg) (grow_blk hg (hBl.out.alloc _) (Nat.ne_of_lt hSg)))
      clear hg hr hp
      unfold thrown
      go_wp2
      exact ⟨rfl, hend.out⟩
    obtain ⟨rfl, hs5, hg5⟩ := hp.ok hr
    have hm : m ≤ 40 := manyP_le hr
    have HT5 := hid ((hTl.out.alloc _).fst hg5)
    have HB5 := hid (grow_blk hg5 (hBl.out.alloc _) (Nat.ne_of_lt hSg))
    have HP5 := hid (grow_blk hg5 (hPl.out.alloc _) (Nat.ne_of_gt hgw2))
    have HO5 := hid ((hOl.out.grow (grow_below g ((Below.refl _ _).alloc (Nat.le_refl _) _))).grow hg5)
    have hgB : g < w5.heap.size := hs5.1.lt
    have HS5 := hid (show GIn g S w5 m (takeP 40 textP s) (fun A q c => #[.int .i64 (f : Int), .int .i64 (addW f t), .slice aj j.length cj, .slice an n.length cn, .slice al l.length cl, .slice agj gj.length cgj, .slice agn gn.length cgn, .slice A q c]) (.int .i64 0) w5 from ⟨0, none, 0, [], s5, Nat.zero_le _, rfl, rfl, ⟨hs5, Two.refl _ _ _, HB5.out, World.ownsRow_nil _ _ _ _⟩, SkRel.start hr⟩)
    clear hr hp hs5 hg5 hXl hTl hBl hPl hOl yP0 yP1 yP2
    go_wp2
    go_loopw [39] (fun i wr => GIn g S w5 m (takeP 40 textP s) (fun A q c => #[.int .i64 (f : Int), .int .i64 (addW f t), .slice aj j.length cj, .slice an n.length cn, .slice al l.length cl, .slice agj gj.length cgj, .slice agn gn.length cgn, .slice A q c]) i wr) (fun i _ => m - (intOf i).toNat)
    case atStart => exact HS5.out
    case round =>
    clear HS5
    obtain ⟨q, A, c, ts, sq, hq, rfl, hl, hG, hsk⟩ := hrel
    have HG := hid hG
    have Hsk := hid hsk
    have Hl := hid hl
    clear hG hsk hl
    by_cases hlt : q < m
    rotate_left
    · obtain rfl : q = m := by omega
      have Hd := hid Hsk.out.done
      have hl := Hl.out
      subst hl
      have Hrel := hid (show dlP b = restP f (addW f t) (j, n, l) gj gn ts sq 3 by rw [hRl.out]; show T2P _ _ _ gj gn _ = _; unfold T2P; rw [Hd.out, RR.bind_ok]; rfl)
      have HOn := hid (show DeOwn wr g ⟨(f : Int), addW f t, j, n, l, gj, gn, ts⟩ ⟨aj, j.length, cj, an, n.length, cn, al, l.length, cl, agj, gj.length, cgj, agn, gn.length, cgn, A, ts.length, c⟩ from ⟨own_two HO5.out.j HG.out.2.1 hSg, own_two HO5.out.n HG.out.2.1 hSg, own_two HO5.out.l HG.out.2.1 hSg, own_two HO5.out.gj HG.out.2.1 hSg, own_two HO5.out.gn HG.out.2.1 hSg, ⟨_, hgB, HG.out.2.2.2⟩, HO5.out.lj, HO5.out.ln, HO5.out.ll, rfl, rfl, rfl⟩)
      have HPn := hid (HG.out.2.1.blk HP5.out (Nat.ne_of_gt hgw2) (by omega))
      have HTn := hid (HT5.out.trans HG.out.2.1)
      have HXn := hid HG.out.1
      have HBn := hid HG.out.2.2.1
      clear HT5 HB5 HP5 HO5 HG Hsk Hl Hd
      go_wp2
      go_roundw
      case rel => exact ⟨3, gj, gn, ts, agj, cgj, agn, cgn, A, c, sq, by omega, by go_num, HXn.out, HTn.out, HPn.out, HBn.out, HOn.out, Hrel.out, fun h => absurd h (by omega), fun h => absurd h (by omega), fun h => absurd h (by omega)⟩
      case measure => simp [intOf]
    go_wp2_with fail
    rcases hrt : textP sq with ⟨tx, sr⟩ | x
    rotate_left
    · refine wp_region_phases (n := 52) (by kernel_rfl) (gpV g S 7 A q c ⟨#[]⟩) [5, 6, 7, 9] (gpPhB g S w5 (fun A q c => #[.int .i64 (f : Int), .int .i64 (addW f t), .slice aj j.length cj, .slice an n.length cn, .slice al l.length cl, .slice agj gj.length cgj, .slice agn gn.length cgn, .slice A q c]) sq A q c ts) (0, none, 0) (by decide +kernel) (by decide +kernel) rfl HG.out.drew ?_ (fun _ a wx hd => hd.ph.elim)
      refine ⟨?_, ?_, ?_, ?_, ?_, ?_, ?_, ?_, ?_, ?_, trivial⟩
      · refine ⟨rfl, .inr ⟨by decide, 0, 4, by decide +kernel, by decide +kernel, fun p γ a wx _ hph hp hk => ?_⟩⟩
        have h1 := hk.k 4 rfl
        simp [go_sem, Oper.wp, execOp, Act.eval, h1]
        exact ⟨_, rfl, rfl, hp⟩
      · refine ⟨rfl, .inr ⟨by decide, 0, 4, by decide +kernel, by decide +kernel, fun p γ a wx _ hph hp hk => ?_⟩⟩
        have h1 := hk.k 4 rfl
        simp [go_sem, Oper.wp, execOp, Act.eval, h1]
        exact ⟨_, rfl, rfl, hp⟩
      · refine ⟨rfl, .inr ⟨by decide, 0, 4, by decide +kernel, by decide +kernel, fun p γ a wx _ hph hp hk => ?_⟩⟩
        obtain ⟨u1, hu1, ru1⟩ := hk.g 1 42 rfl rfl
        replace ru1 : u1 = _ := ru1
        subst ru1
        simp [go_sem, Oper.wp, execOp, Act.eval, hu1]
        exact ⟨_, rfl, rfl, hp⟩
      · refine ⟨rfl, .inr ⟨by decide, 0, 2, by decide +kernel, by decide +kernel, fun p γ a wx _ hph hp hk => ?_⟩⟩
        obtain ⟨u1, hu1, ru1⟩ := hk.g 2 43 rfl rfl
        replace ru1 : u1 = _ := ru1
        subst ru1
        have hc : wx.cell? ⟨S, 7, none⟩ = some (.slice A q c) := by
         match p, hp with
         | 0, hp => exact hp.2.2.1.cell 7
         | n + 1, hp => exact hp.elim
        simp [go_sem, Oper.wp, execOp, Act.eval, hu1, hc]
        exact ⟨_, rfl, rfl, hp⟩
      · refine ⟨rfl, .inr ⟨by decide, 0, 4, by decide +kernel, by decide +kernel, fun p γ a wx _ hph hp hk => ?_⟩⟩
        have h1 := hk.k 0 rfl
        simp [go_sem, Oper.wp, execOp, Act.eval, h1]
        exact ⟨_, rfl, rfl, hp⟩
      · refine ⟨rfl, .inl ⟨0, rfl, fun γ a wx hp hk => ?_⟩⟩
        obtain ⟨u1, hu1, ru1⟩ := hk.g 4 45 rfl rfl
        replace ru1 : u1 = _ := ru1
        subst ru1
        simp [go_sem, Oper.wp, execOp, Act.eval, hu1]
        have hdf := hk.2.2
        refine (sxtext g sq wx hp.1).mono ?_
        intro e w' hq
        obtain ⟨rfl, hg2⟩ := hq.bad hrt
        have hend := hid (RD1Post.bad (HBad.out x (Hsk.out.bad hlt hrt)) ((HT5.out.trans hp.2.1).fst hg2) (grow_blk hg2 hp.2.2.1 (Nat.ne_of_lt hSg)))
        clear hq hg2 hk hp
        unfold thrown
        go_wp2
        exact ⟨hdf, hend.out⟩
      · exact ⟨rfl, .inl ⟨1, rfl, fun _ a wx hp hk => hp.elim⟩⟩
      · exact ⟨rfl, .inl ⟨2, rfl, fun _ a wx hp hk => hp.elim⟩⟩
      · refine ⟨rfl, .inr ⟨by decide, 0, 4, by decide +kernel, by decide +kernel, fun p γ a wx _ hph hp hk => ?_⟩⟩
        obtain ⟨u1, hu1, ru1⟩ := hk.g 0 41 rfl rfl
        replace ru1 : u1 = _ := ru1
        subst ru1
        simp [go_sem, Oper.wp, execOp, Act.eval, hu1]
        exact ⟨_, rfl, rfl, hp⟩
      · exact ⟨rfl, .inl ⟨3, rfl, fun _ a wx hp hk => hp.elim⟩⟩
    refine wp_region_phases (n := 52) (by kernel_rfl) (gpV g S 7 A q c tx) [5, 6, 7, 9] (gpPh g S w5 (fun A q c => #[.int .i64 (f : Int), .int .i64 (addW f t), .slice aj j.length cj, .slice an n.length cn, .slice al l.length cl, .slice agj gj.length cgj, .slice agn gn.length cgn, .slice A q c]) sq sr A q c ts tx) (0, none, 0) (by decide +kernel) (by decide +kernel) rfl HG.out.drew ?_ ?_
    · refine ⟨?_, ?_, ?_, ?_, ?_, ?_, ?_, ?_, ?_, ?_, trivial⟩
      · refine ⟨rfl, .inr ⟨by decide, 0, 4, by decide +kernel, by decide +kernel, fun p γ a wx _ hph hp hk => ?_⟩⟩
        have h1 := hk.k 4 rfl
        simp [go_sem, Oper.wp, execOp, Act.eval, h1]
        exact ⟨_, rfl, rfl, hp⟩
      · refine ⟨rfl, .inr ⟨by decide, 0, 4, by decide +kernel, by decide +kernel, fun p γ a wx _ hph hp hk => ?_⟩⟩
        have h1 := hk.k 4 rfl
        simp [go_sem, Oper.wp, execOp, Act.eval, h1]
        exact ⟨_, rfl, rfl, hp⟩
      · refine ⟨rfl, .inr ⟨by decide, 0, 4, by decide +kernel, by decide +kernel, fun p γ a wx _ hph hp hk => ?_⟩⟩
        obtain ⟨u1, hu1, ru1⟩ := hk.g 1 42 rfl rfl
        replace ru1 : u1 = _ := ru1
        subst ru1
        simp [go_sem, Oper.wp, execOp, Act.eval, hu1]
        exact ⟨_, rfl, rfl, hp⟩
      · refine ⟨rfl, .inr ⟨by decide, 0, 2, by decide +kernel, by decide +kernel, fun p γ a wx _ hph hp hk => ?_⟩⟩
        obtain ⟨u1, hu1, ru1⟩ := hk.g 2 43 rfl rfl
        replace ru1 : u1 = _ := ru1
        subst ru1
        have hc : wx.cell? ⟨S, 7, none⟩ = some (.slice A q c) := by
         match p, hph, hp with
         | 0, _, hp => exact hp.2.2.1.cell 7
         | 1, _, hp => exact hp.2.2.1.cell 7
         | 2, _, hp => obtain ⟨v1, rfl, _, hp⟩ := hp; exact (hp.2.2.1.alloc _).cell 7
         | n + 3, h, _ => omega
        simp [go_sem, Oper.wp, execOp, Act.eval, hu1, hc]
        exact ⟨_, rfl, rfl, hp⟩
      · refine ⟨rfl, .inr ⟨by decide, 0, 4, by decide +kernel, by decide +kernel, fun p γ a wx _ hph hp hk => ?_⟩⟩
        have h1 := hk.k 0 rfl
        simp [go_sem, Oper.wp, execOp, Act.eval, h1]
        exact ⟨_, rfl, rfl, hp⟩
      · refine ⟨rfl, .inl ⟨0, rfl, fun γ a wx hp hk => ?_⟩⟩
        obtain ⟨u1, hu1, ru1⟩ := hk.g 4 45 rfl rfl
        replace ru1 : u1 = _ := ru1
        subst ru1
        simp [go_sem, Oper.wp, execOp, Act.eval, hu1]
        refine (sxtext g sq wx hp.1).mono ?_
        intro e w' hq
        obtain ⟨rfl, hs2, hg2⟩ := hq.ok hrt
        exact ⟨_, rfl, γ.1, γ.2.1, γ.2.2, fun _ _ _ h => h, rfl, hs2, hp.2.1.fst hg2, grow_blk hg2 hp.2.2.1 (Nat.ne_of_lt hSg), ownT_grow hp.2.2.2 hg2 hgB⟩
      · refine ⟨rfl, .inl ⟨1, rfl, fun γ a wx hp hk => ?_⟩⟩
        obtain ⟨u1, hu1, ru1⟩ := hk.g 5 46 rfl rfl
        replace ru1 : u1 = _ := ru1
        subst ru1
        simp [go_sem, Oper.wp, execOp, Act.eval, hu1]
        exact ⟨_, rfl, wx.heap.size, γ.2.1, γ.2.2, gpV_6 _, rfl, wx, rfl, rfl, hp⟩
      · refine ⟨rfl, .inl ⟨2, rfl, fun γ a wx hp hk => ?_⟩⟩
        obtain ⟨u1, hu1, ru1⟩ := hk.g 3 44 rfl rfl
        replace ru1 : u1 = _ := ru1
        subst ru1
        obtain ⟨u2, hu2, ru2⟩ := hk.g 6 47 rfl rfl
        replace ru2 : u2 = _ := ru2
        subst ru2
        obtain ⟨v1, rfl, hvs, hp⟩ := hp
        refine wp_push_str _ _ rfl w5.heap.size A q c ts tx (by simp [Act.eval, hu1]) hp.2.2.2 rfl (by simp [Act.eval, hu2, hvs]) (by omega) hp.2.1.size (fun A' c' w' ho' hg' => ?_)
        have hvb := fun k hk => (hp.2.2.2.lt k hk).1
        exact ⟨_, (γ.1, A', c'), rfl, gpV_7 _, rfl, hp.1.grewT hg' hvb hgB, hp.2.1.grew hg' hvb, hp.2.2.1.grewT hg' hvb (Nat.lt_trans hSg hgB), ho'⟩
      · refine ⟨rfl, .inr ⟨by decide, 0, 4, by decide +kernel, by decide +kernel, fun p γ a wx _ hph hp hk => ?_⟩⟩
        obtain ⟨u1, hu1, ru1⟩ := hk.g 0 41 rfl rfl
        replace ru1 : u1 = _ := ru1
        subst ru1
        simp [go_sem, Oper.wp, execOp, Act.eval, hu1]
        exact ⟨_, rfl, rfl, hp⟩
      · refine ⟨rfl, .inl ⟨3, rfl, fun γ a wx hp hk => ?_⟩⟩
        obtain ⟨u1, hu1, ru1⟩ := hk.g 7 48 rfl rfl
        replace ru1 : u1 = _ := ru1
        subst ru1
        obtain ⟨u2, hu2, ru2⟩ := hk.g 8 49 rfl rfl
        replace ru2 : u2 = _ := ru2
        subst ru2
        have hc : wx.cell? ⟨S, 7, none⟩ = some (.slice A q c) := hp.2.2.1.cell 7
        have hz : wx.frozen? ⟨S, 7, none⟩ = false := hp.2.2.1.thaw 7
        simp [go_sem, Oper.wp, execOp, Act.eval, hu1, hu2, hc, hz]
        exact ⟨.int .i64 0, γ.1, γ.2.1, γ.2.2, fun _ _ _ h => h, trivial, hp.1.grow (grow_set wx S 7 _) (Nat.ne_of_gt hSg), hp.2.1.snd (grow_set wx S 7 _), Blk.eq (hp.2.2.1.set 7 _) rfl, ownT_grow hp.2.2.2 (grow_set wx S 7 _) (Nat.lt_trans hSg hgB)⟩
    intro γ a wx hd
    have Hph := hid hd.ph
    obtain ⟨fv, rfl, -⟩ := hd.frame [41, 42, 43, 44, 45, 46, 47, 48, 49] rfl
    have Hstep := hid (Hsk.out.step hlt hrt)
    clear hd
    simp [Exit.then]
    go_wp2
    go_roundw
    case rel => exact ⟨q + 1, γ.2.1, γ.2.2, ts ++ [tx], sr, by omega, by go_num, by simp [Hl.out], Hph.out, Hstep.out⟩
    case measure => simp [intOf]; omega
end Go.Proofs.YtjgnnobccecpeaaGreatDoor
