/- Of the proof of a statement: DDec. -/
import Derived.Deep.RegionWith
import Derived.Deep.Cut
import Derived.Deep.CutRange
import Derived.Test.YtjgnnobccecpeaaGreatDoorRDChkR
import Derived.Test.YtjgnnobccecpeaaGreatDoorRTakeD
import Derived.Test.YtjgnnobccecpeaaGreatDoorRWDec
set_option linter.unusedVariables false
set_option linter.unusedSimpArgs false
set_option maxRecDepth 100000
set_option maxHeartbeats 8000000
/- The walk of delta.Decode. -/
namespace Go.Proofs.YtjgnnobccecpeaaGreatDoor
open Go.Lib (hid)
open Go.RowKit
def DDPost (b : ByteArray) (w : World) (e : Ending) (w' : World) : Prop :=
 ∃ (d : DeltaD) (x : DelA) (E : Int), e = .returned (.tuple #[.agg (dC d x), .int .i64 E]) ∧ decDF b = (d, E) ∧ DelAt w' w'.heap.size d x ∧ Below w.heap.size w w'
def nilDA : DelA := ⟨none, 0, 0, none, 0, 0, none, 0, 0, none, 0, 0, none, 0, 0, none, 0, 0⟩
theorem zeroDeAt (w : World) (B : Nat) : DelAt w B zeroDe nilDA :=
 ⟨SlAt.nil, SlAt.nil, SlAt.nil, SlAt.nil, SlAt.nil, SlAt.nil, rfl, rfl, rfl, rfl, rfl, rfl, by decide, by decide, by decide, by decide, by decide, by decide, (fun _ h => by cases h), (fun _ h => by cases h), (fun _ h => by cases h), (fun _ h => by cases h), (fun _ h => by cases h), (fun _ h => by cases h)⟩
theorem DDPost.none_ {b : ByteArray} {E : Int} {w w' : World} (h : decDF b = (zeroDe, E)) (hb : Below w.heap.size w w') : DDPost b w (.returned (.tuple #[.agg zDel, .int .i64 E])) w' :=
 ⟨zeroDe, nilDA, E, rfl, h, zeroDeAt _ _, hb⟩
theorem wrap_addW {f t : Nat} (hf : f ≤ 4611686018427387904) (ht : t ≤ 4611686018427387904) : IntKind.i64.wrap ((f : Int) + (t : Int)) = addW f t := by
 rw [IntKind.wrap_i64]
 unfold addW
 split <;> omega
theorem grow_drew (w : World) (b : Nat) : w.grownBy w.drew (some b) := ⟨rfl, rfl, rfl, Nat.le_refl _, fun _ _ _ => rfl⟩
structure DGe (w0 w : World) (G : Nat) (σ : RR Unit) (P D R : Nat) (cs : Array Value) : Prop where
 ok : RxOk w G σ
 keep : Below w0.heap.size w0 w
 new : w0.heap.size ≤ G
 p : Blk w P 294 #[.pointer (some ⟨G, 0, none⟩)]
 d : Blk w D 49 cs
 r : Blk w R 49 zDel
 pg : P ≠ G
 dg : G < D
 rg : R ≠ G
 pd : P ≠ D
 rd : R ≠ D
 nr : w0.heap.size ≤ R
theorem DGe.next {w0 w w' : World} {G P D R : Nat} {σ σ' : RR Unit} {cs : Array Value} (h : DGe w0 w G σ P D R cs) (hok : RxOk w' G σ') (hg : w.grownBy w' (some G)) : DGe w0 w' G σ' P D R cs :=
 ⟨hok, grow_keep h.keep hg h.new, h.new, grow_blk hg h.p h.pg, grow_blk hg h.d (Nat.ne_of_gt h.dg), grow_blk hg h.r h.rg, h.pg, h.dg, h.rg, h.pd, h.rd, h.nr⟩
theorem DGe.put {w0 w : World} {G P D R : Nat} {σ : RR Unit} {cs : Array Value} (h : DGe w0 w G σ P D R cs) (i : Nat) (u : Value) (cs' : Array Value) (e : cs.setIfInBounds i u = cs') : DGe w0 (w.setCell ⟨D, i, none⟩ u) G σ P D R cs' :=
 e ▸ ⟨h.ok.set _ _ _ h.dg, grow_keep h.keep (grow_set w D i u) (Nat.le_of_lt (Nat.lt_of_le_of_lt h.new h.dg)), h.new, grow_blk (grow_set _ _ _ _) h.p h.pd, h.d.set i u, grow_blk (grow_set _ _ _ _) h.r h.rd, h.pg, h.dg, h.rg, h.pd, h.rd, h.nr⟩
theorem DGe.drew {w0 w : World} {G P D R : Nat} {σ : RR Unit} {cs : Array Value} (h : DGe w0 w G σ P D R cs) : DGe w0 w.drew G σ P D R cs :=
 ⟨h.ok.grow (grow_drew w (G + 1)) (Nat.lt_succ_self _), grow_keep h.keep (grow_drew w G) h.new, h.new, h.p, h.d, h.r, h.pg, h.dg, h.rg, h.pd, h.rd, h.nr⟩
structure DeOwn (w : World) (g : Nat) (d : DeltaD) (x : DelA) : Prop where
 j : ∃ b, g < b ∧ w.ownsRow b 38 5 (.slice x.aj x.nj x.cj) x.nj (rowsV jobV d.jobs)
 n : ∃ b, g < b ∧ w.ownsRow b 40 3 (.slice x.an x.nn x.cn) x.nn (rowsV nodeV d.nodes)
 l : ∃ b, g < b ∧ w.ownsRow b 42 3 (.slice x.al x.nl x.cl) x.nl (rowsV leaseV d.leases)
 gj : ∃ b, g < b ∧ w.ownsRow b 9 1 (.slice x.agj x.ngj x.cgj) x.ngj (rowsV strV d.gj)
 gn : ∃ b, g < b ∧ w.ownsRow b 9 1 (.slice x.agn x.ngn x.cgn) x.ngn (rowsV strV d.gn)
 gl : ∃ b, g < b ∧ w.ownsRow b 9 1 (.slice x.agl x.ngl x.cgl) x.ngl (rowsV strV d.gl)
 lj : d.jobs.length = x.nj
 ln : d.nodes.length = x.nn
 ll : d.leases.length = x.nl
 lgj : d.gj.length = x.ngj
 lgn : d.gn.length = x.ngn
 lgl : d.gl.length = x.ngl
theorem own_up {w w' : World} {g sz n : Nat} {e : TypeId} {v : Value} {xs : List Value} (h : ∃ b, g < b ∧ w.ownsRow b e sz v n xs) (hg : w.grownBy w' (some g)) : ∃ b, g < b ∧ w'.ownsRow b e sz v n xs := by
 obtain ⟨b, hb, ho⟩ := h; exact ⟨b, hb, ownT_grow ho hg hb⟩
theorem DeOwn.grow {w w' : World} {g : Nat} {d : DeltaD} {x : DelA} (h : DeOwn w g d x) (hg : w.grownBy w' (some g)) : DeOwn w' g d x :=
 ⟨own_up h.j hg, own_up h.n hg, own_up h.l hg, own_up h.gj hg, own_up h.gn hg, own_up h.gl hg, h.lj, h.ln, h.ll, h.lgj, h.lgn, h.lgl⟩
structure DeSizes (d : DeltaD) : Prop where
 j : d.jobs.length ≤ 40
 n : d.nodes.length ≤ 20
 l : d.leases.length ≤ 40
 gj : d.gj.length ≤ 40
 gn : d.gn.length ≤ 20
 gl : d.gl.length ≤ 40
 oj : JobsOk d.jobs
 on_ : NodesOk d.nodes
 ol : LeasesOk d.leases
 ogj : NamesOk d.gj
 ogn : NamesOk d.gn
 ogl : NamesOk d.gl
theorem own_slAt' {w : World} {g sz n c : Nat} {A : Option Addr} {e : TypeId} {xs : List Value} (h : ∃ b, g < b ∧ w.ownsRow b e sz (.slice A n c) n xs) : SlAt w w.heap.size sz A n xs := by
 obtain ⟨b, hb, ho⟩ := h; exact own_slAt ho
theorem DeOwn.at_ {w : World} {g : Nat} {d : DeltaD} {x : DelA} (h : DeOwn w g d x) (z : DeSizes d) : DelAt w w.heap.size d x :=
 ⟨own_slAt' h.j, own_slAt' h.n, own_slAt' h.l, own_slAt' h.gj, own_slAt' h.gn, own_slAt' h.gl, h.lj, h.ln, h.ll, h.lgj, h.lgn, h.lgl,
  by have := z.j; have := h.lj; omega, by have := z.n; have := h.ln; omega, by have := z.l; have := h.ll; omega, by have := z.gj; have := h.lgj; omega, by have := z.gn; have := h.lgn; omega, by have := z.gl; have := h.lgl; omega,
  z.oj, z.on_, z.ol, z.ogj, z.ogn, z.ogl⟩
theorem ddecode_large (b : ByteArray) (w : World) (hb : 6000 < b.size) (hb2 : b.size ≤ 9223372036854775807) : Calls Tryz.prog 173 #[.string b] w (DDPost b w) := by
 have Hend := hid (fun w' => DDPost.none_ (w := w) (w' := w') (decDF_large hb))
 have Hb1 := hid (show Below w.heap.size w (w.alloc (.cells zDel 49)) from (Below.refl _ _).alloc (Nat.le_refl _) _)
 have d1 : decide ((6000 : Int) < (b.size : Int)) = true := decide_eq_true (by omega)
 go_enter Tryz.func173, Tryz.ntmps173
 go_wp2
 refine bodyPost_ret (v := .tuple #[.agg #[.int .i64 0, .int .i64 0, .slice none 0 0, .slice none 0 0, .slice none 0 0, .slice none 0 0, .slice none 0 0, .slice none 0 0], .int .i64 2]) (by simp [results, Tryz.results173, go_sem]) rfl ?_
 exact Hend.out _ Hb1.out
theorem ddecode_in (b : ByteArray) (w : World) (hT : Tabs w) (hb : ¬ 6000 < b.size) : Calls Tryz.prog 173 #[.string b] w (DDPost b w) := by
 have d1 : decide ((6000 : Int) < (b.size : Int)) = false := decide_eq_false (by omega)
 have Hbad := hid (fun x h w' => DDPost.none_ (w := w) (w' := w') (decDF_bad (b := b) (e := x) hb h))
 have Hchk := hid (fun d r h h3 w' => DDPost.none_ (w := w) (w' := w') (decDF_check (b := b) (r := r) (d := d) hb h h3))
 have Hok := hid (fun d r h h3 => decDF_ok (b := b) (r := r) (d := d) hb h h3)
 have hTl := hT.lts
 have hb1 : Below w.heap.size w (w.alloc (.cells zDel 49)) := (Below.refl _ _).alloc (Nat.le_refl _) _
 have hb2 := hb1.alloc hb1.size (.cells #[.string b, .int .i64 0] 296)
 have hb3 := hb2.alloc hb2.size (.cells #[.pointer (some ⟨w.heap.size + 1, 0, none⟩)] 294)
 have n0 : Blk (((w.alloc (.cells zDel 49)).alloc (.cells #[.string b, .int .i64 0] 296)).alloc (.cells #[.pointer (some ⟨w.heap.size + 1, 0, none⟩)] 294)) w.heap.size 49 zDel := Blk.alloc (Blk.alloc (show Blk _ _ _ _ from heap_alloc_new w _) _) _
 have n1 : Blk (((w.alloc (.cells zDel 49)).alloc (.cells #[.string b, .int .i64 0] 296)).alloc (.cells #[.pointer (some ⟨w.heap.size + 1, 0, none⟩)] 294)) (w.heap.size + 1) 296 #[.string b, .int .i64 0] := by
  have h := heap_alloc_new (w.alloc (.cells zDel 49)) (.cells #[.string b, .int .i64 0] 296)
  rw [show (w.alloc (.cells zDel 49)).heap.size = w.heap.size + 1 by simp] at h
  exact Blk.alloc (show Blk _ _ _ _ from h) _
 have n2 : Blk (((w.alloc (.cells zDel 49)).alloc (.cells #[.string b, .int .i64 0] 296)).alloc (.cells #[.pointer (some ⟨w.heap.size + 1, 0, none⟩)] 294)) (w.heap.size + 2) 294 #[.pointer (some ⟨w.heap.size + 1, 0, none⟩)] := by
  have h := heap_alloc_new ((w.alloc (.cells zDel 49)).alloc (.cells #[.string b, .int .i64 0] 296)) (.cells #[.pointer (some ⟨w.heap.size + 1, 0, none⟩)] 294)
  rw [show ((w.alloc (.cells zDel 49)).alloc (.cells #[.string b, .int .i64 0] 296)).heap.size = w.heap.size + 2 by simp] at h
  exact h
 have hx0 : RxOk (((w.alloc (.cells zDel 49)).alloc (.cells #[.string b, .int .i64 0] 296)).alloc (.cells #[.pointer (some ⟨w.heap.size + 1, 0, none⟩)] 294)) (w.heap.size + 1) (.ok () b) := ⟨n1, (show b.size ≤ RxMax by unfold RxMax; omega), hT.below hb3, by omega, by omega⟩
 have HN := hid (ryNumber (w.heap.size + 1) (.ok () b) (((w.alloc (.cells zDel 49)).alloc (.cells #[.string b, .int .i64 0] 296)).alloc (.cells #[.pointer (some ⟨w.heap.size + 1, 0, none⟩)] 294)) hx0)
 have N0 := hid n0
 have N2 := hid n2
 have HB3 := hid hb3
 have hT2 := hid hT
 clear hT hb hTl hb1 hb2 hb3 n0 n1 n2 hx0
 go_enter Tryz.func173, Tryz.ntmps173
 go_wp2_with fail
 refine Calls.mono HN.out ?_
 rintro e u1 ⟨f, rfl, hv1, ok1, kp1⟩
 have hf := rxval_le hv1
 have V1 := hid hv1
 have hDs : w.heap.size + 2 < u1.heap.size := (grow_blk kp1 N2.out (by omega)).lt
 have yp1 : u1.cell? ⟨w.heap.size + 2, 0, none⟩ = some (.pointer (some ⟨w.heap.size + 1, 0, none⟩)) := (grow_blk kp1 N2.out (by omega)).cell 0
 have h1 : DGe w (u1.alloc (.cells #[.int .i64 (f : Int), .int .i64 0, .slice none 0 0, .slice none 0 0, .slice none 0 0, .slice none 0 0, .slice none 0 0, .slice none 0 0] 49)) (w.heap.size + 1) _ (w.heap.size + 2) u1.heap.size w.heap.size #[.int .i64 (f : Int), .int .i64 0, .slice none 0 0, .slice none 0 0, .slice none 0 0, .slice none 0 0, .slice none 0 0, .slice none 0 0] :=
  { ok := ok1.alloc _
    keep := (grow_keep HB3.out kp1 (by omega)).alloc (Nat.le_of_lt (Nat.lt_of_le_of_lt (Nat.le_add_right _ _) hDs)) _
    new := by omega
    p := (grow_blk kp1 N2.out (by omega)).alloc _
    d := heap_alloc_new u1 _
    r := (grow_blk kp1 N0.out (by omega)).alloc _
    pg := by omega
    dg := by omega
    rg := by omega
    pd := by omega
    rd := by omega
    nr := Nat.le_refl _ }
 have H1 := hid h1.drew
 have HN2 := hid (ryNumber (w.heap.size + 1) _ _ h1.drew.ok)
 clear kp1 N0 N2 HB3 HN
 generalize hR1 : ((RR.ok () b).bind fun _ s => numP s) = R1 at hv1 h1 ok1
 have E1 := hid (show R1 = numP b from hR1.symm)
 have V1 := hid hv1
 have H1 := hid h1.drew
 have HN2 := hid (ryNumber (w.heap.size + 1) _ _ h1.drew.ok)
 clear hv1 ok1 h1 hR1
 generalize hu : u1.heap.size = D at H1 hDs
 have Hu := hid hu
 clear hu
 go_upto_region 5 with fail
 rw [Hu.out]
 go_cut [] from 18 to 23 (fun wx => ∃ t : Nat, t ≤ 4611686018427387904 ∧ RxVal (R1.st.bind fun _ s => numP s) (fun n => n = 0) t ∧ DGe w wx (w.heap.size + 1) (R1.st.bind fun _ s => numP s).st (w.heap.size + 2) D w.heap.size #[.int .i64 (f : Int), .int .i64 (addW f t), .slice none 0 0, .slice none 0 0, .slice none 0 0, .slice none 0 0, .slice none 0 0, .slice none 0 0])
 case first =>
  have xd0 : (u1.alloc (.cells #[.int .i64 (f : Int), .int .i64 0, .slice none 0 0, .slice none 0 0, .slice none 0 0, .slice none 0 0, .slice none 0 0, .slice none 0 0] 49)).drew.cell? ⟨D, 0, none⟩ = some (.int .i64 (f : Int)) := H1.out.d.cell 0
  have xp0 : (u1.alloc (.cells #[.int .i64 (f : Int), .int .i64 0, .slice none 0 0, .slice none 0 0, .slice none 0 0, .slice none 0 0, .slice none 0 0, .slice none 0 0] 49)).drew.cell? ⟨w.heap.size + 2, 0, none⟩ = some (.pointer (some ⟨w.heap.size + 1, 0, none⟩)) := H1.out.p.cell 0
  have hW := hid (fun t ht => wrap_addW (f := f) (t := t) hf ht)
  generalize (u1.alloc (.cells #[.int .i64 (f : Int), .int .i64 0, .slice none 0 0, .slice none 0 0, .slice none 0 0, .slice none 0 0, .slice none 0 0, .slice none 0 0] 49)) = W1 at H1 HN2 xd0 xp0 ⊢
  clear yp1 hf
  go_region_with (go_at_call 229; refine (HN2.out).mono ?_; rintro e u2 ⟨t, rfl, hv2, ok2, kp2⟩; have ht := rxval_le hv2; have hw := hW.out t ht; have h2 := H1.out.next ok2 kp2; have c0 : u2.cell? ⟨D, 0, none⟩ = some (.int .i64 (f : Int)) := h2.d.cell 0; have c1 : u2.cell? ⟨D, 1, none⟩ = some (.int .i64 0) := h2.d.cell 1; have z1 : u2.frozen? ⟨D, 1, none⟩ = false := h2.d.thaw 1; have HF := hid (show t ≤ 4611686018427387904 ∧ RxVal (R1.st.bind fun _ s => numP s) (fun n => n = 0) t ∧ DGe w (u2.setCell ⟨D, 1, none⟩ (.int .i64 (addW f t))) (w.heap.size + 1) (R1.st.bind fun _ s => numP s).st (w.heap.size + 2) D w.heap.size #[.int .i64 (f : Int), .int .i64 (addW f t), .slice none 0 0, .slice none 0 0, .slice none 0 0, .slice none 0 0, .slice none 0 0, .slice none 0 0] from ⟨ht, hv2, h2.put 1 (.int .i64 (addW f t)) _ rfl⟩); clear hv2 ok2 kp2 h2)
  all_goals (go_wp2_with fail; go_meet; exact ⟨t, HF.out⟩)
 clear yp1 HN2 H1 Hu
 obtain ⟨t, ht, hv2, h2⟩ := hcut
 generalize hR2 : (R1.st.bind fun _ s => numP s) = R2 at hv2 h2
 have E2 := hid hR2.symm
 have V2 := hid hv2
 have H2 := hid h2
 have ypc : wc.cell? ⟨w.heap.size + 2, 0, none⟩ = some (.pointer (some ⟨w.heap.size + 1, 0, none⟩)) := h2.p.cell 0
 have hDl : D < wc.heap.size := h2.d.lt
 clear hR2 hv2 h2
 go_wp2_with fail
 refine Calls.mono (dtake_job (w.heap.size + 1) (w.heap.size + 2) 40 _ _ H2.out.ok (by omega) H2.out.p H2.out.pg) ?_
 rintro e u3 ⟨aj, nj, cj, rfl, ok3, kp3, tb3⟩
 generalize hR3 : (R2.st.bind fun _ s => takeP 40 (jobP 3) s) = R3 at ok3 tb3
 have E3 := hid hR3.symm
 clear hR3 ypc
 have Da := H2.out.next ok3 kp3
 have zs : u3.frozen? ⟨D, 2, none⟩ = false := Da.d.thaw 2
 have ys : u3.cell? ⟨D, 2, none⟩ = some (.slice none 0 0) := Da.d.cell 2
 have yp3 : u3.cell? ⟨w.heap.size + 2, 0, none⟩ = some (.pointer (some ⟨w.heap.size + 1, 0, none⟩)) := Da.p.cell 0
 have H3 := hid (Da.put 2 (.slice aj nj cj) #[.int .i64 (f : Int), .int .i64 (addW f t), .slice aj nj cj, .slice none 0 0, .slice none 0 0, .slice none 0 0, .slice none 0 0, .slice none 0 0] rfl)
 have hlTj := hid (show D < wc.heap.size from H2.out.d.lt)
 have Tj := hid (TblOk.grow (show TblOk _ 38 5 jobV wc.heap.size aj nj cj u3 from tb3) (grow_set u3 D 2 (.slice aj nj cj)) (by have := hlTj.out; omega))
 have hDl : D < u3.heap.size := Da.d.lt
 clear Da ok3 kp3 tb3 H2
 go_wp2_with fail
 refine Calls.mono (dtake_node (w.heap.size + 1) (w.heap.size + 2) 20 _ _ H3.out.ok (by omega) H3.out.p H3.out.pg) ?_
 rintro e u4 ⟨an, nn, cn, rfl, ok4, kp4, tb4⟩
 generalize hR4 : (R3.st.bind fun _ s => takeP 20 (nodeP 3) s) = R4 at ok4 tb4
 have E4 := hid hR4.symm
 clear hR4 yp3 zs ys
 have Da := H3.out.next ok4 kp4
 have zs : u4.frozen? ⟨D, 3, none⟩ = false := Da.d.thaw 3
 have ys : u4.cell? ⟨D, 3, none⟩ = some (.slice none 0 0) := Da.d.cell 3
 have yp4 : u4.cell? ⟨w.heap.size + 2, 0, none⟩ = some (.pointer (some ⟨w.heap.size + 1, 0, none⟩)) := Da.p.cell 0
 have H4 := hid (Da.put 3 (.slice an nn cn) #[.int .i64 (f : Int), .int .i64 (addW f t), .slice aj nj cj, .slice an nn cn, .slice none 0 0, .slice none 0 0, .slice none 0 0, .slice none 0 0] rfl)
 have Tj' := hid (Tj.out.grow kp4 (by have := hlTj.out; omega))
 have Tj := hid (Tj'.out.grow (grow_set u4 D 3 (.slice an nn cn)) (by have := hlTj.out; omega))
 clear Tj'
 have hlTn := hid (show D < (u3.setCell ⟨D, 2, none⟩ (.slice aj nj cj)).heap.size from H3.out.d.lt)
 have Tn := hid (TblOk.grow (show TblOk _ 40 3 nodeV (u3.setCell ⟨D, 2, none⟩ (.slice aj nj cj)).heap.size an nn cn u4 from tb4) (grow_set u4 D 3 (.slice an nn cn)) (by have := hlTn.out; omega))
 have hDl : D < u4.heap.size := Da.d.lt
 clear Da ok4 kp4 tb4 H3
 go_wp2_with fail
 refine Calls.mono (dtake_lease (w.heap.size + 1) 40 _ _ H4.out.ok (by omega)) ?_
 rintro e u5 ⟨al, nl, cl, rfl, ok5, kp5, tb5⟩
 generalize hR5 : (R4.st.bind fun _ s => takeP 40 leaseP s) = R5 at ok5 tb5
 have E5 := hid hR5.symm
 clear hR5 yp4 zs ys
 have Da := H4.out.next ok5 kp5
 have zs : u5.frozen? ⟨D, 4, none⟩ = false := Da.d.thaw 4
 have ys : u5.cell? ⟨D, 4, none⟩ = some (.slice none 0 0) := Da.d.cell 4
 have yp5 : u5.cell? ⟨w.heap.size + 2, 0, none⟩ = some (.pointer (some ⟨w.heap.size + 1, 0, none⟩)) := Da.p.cell 0
 have H5 := hid (Da.put 4 (.slice al nl cl) #[.int .i64 (f : Int), .int .i64 (addW f t), .slice aj nj cj, .slice an nn cn, .slice al nl cl, .slice none 0 0, .slice none 0 0, .slice none 0 0] rfl)
 have Tj' := hid (Tj.out.grow kp5 (by have := hlTj.out; omega))
 have Tj := hid (Tj'.out.grow (grow_set u5 D 4 (.slice al nl cl)) (by have := hlTj.out; omega))
 clear Tj'
 have Tn' := hid (Tn.out.grow kp5 (by have := hlTn.out; omega))
 have Tn := hid (Tn'.out.grow (grow_set u5 D 4 (.slice al nl cl)) (by have := hlTn.out; omega))
 clear Tn'
 have hlTl := hid (show D < (u4.setCell ⟨D, 3, none⟩ (.slice an nn cn)).heap.size from H4.out.d.lt)
 have Tl := hid (TblOk.grow (show TblOk _ 42 3 leaseV (u4.setCell ⟨D, 3, none⟩ (.slice an nn cn)).heap.size al nl cl u5 from tb5) (grow_set u5 D 4 (.slice al nl cl)) (by have := hlTl.out; omega))
 have hDl : D < u5.heap.size := Da.d.lt
 clear Da ok5 kp5 tb5 H4
 go_wp2_with fail
 refine Calls.mono (dtake_str (w.heap.size + 1) 40 _ _ H5.out.ok (by omega)) ?_
 rintro e u6 ⟨agj, ngj, cgj, rfl, ok6, kp6, tb6⟩
 generalize hR6 : (R5.st.bind fun _ s => takeP 40 textP s) = R6 at ok6 tb6
 have E6 := hid hR6.symm
 clear hR6 yp5 zs ys
 have Da := H5.out.next ok6 kp6
 have zs : u6.frozen? ⟨D, 5, none⟩ = false := Da.d.thaw 5
 have ys : u6.cell? ⟨D, 5, none⟩ = some (.slice none 0 0) := Da.d.cell 5
 have yp6 : u6.cell? ⟨w.heap.size + 2, 0, none⟩ = some (.pointer (some ⟨w.heap.size + 1, 0, none⟩)) := Da.p.cell 0
 have H6 := hid (Da.put 5 (.slice agj ngj cgj) #[.int .i64 (f : Int), .int .i64 (addW f t), .slice aj nj cj, .slice an nn cn, .slice al nl cl, .slice agj ngj cgj, .slice none 0 0, .slice none 0 0] rfl)
 have Tj' := hid (Tj.out.grow kp6 (by have := hlTj.out; omega))
 have Tj := hid (Tj'.out.grow (grow_set u6 D 5 (.slice agj ngj cgj)) (by have := hlTj.out; omega))
 clear Tj'
 have Tn' := hid (Tn.out.grow kp6 (by have := hlTn.out; omega))
 have Tn := hid (Tn'.out.grow (grow_set u6 D 5 (.slice agj ngj cgj)) (by have := hlTn.out; omega))
 clear Tn'
 have Tl' := hid (Tl.out.grow kp6 (by have := hlTl.out; omega))
 have Tl := hid (Tl'.out.grow (grow_set u6 D 5 (.slice agj ngj cgj)) (by have := hlTl.out; omega))
 clear Tl'
 have hlTgj := hid (show D < (u5.setCell ⟨D, 4, none⟩ (.slice al nl cl)).heap.size from H5.out.d.lt)
 have Tgj := hid (TblOk.grow (show TblOk _ 9 1 strV (u5.setCell ⟨D, 4, none⟩ (.slice al nl cl)).heap.size agj ngj cgj u6 from tb6) (grow_set u6 D 5 (.slice agj ngj cgj)) (by have := hlTgj.out; omega))
 have hDl : D < u6.heap.size := Da.d.lt
 clear Da ok6 kp6 tb6 H5
 go_wp2_with fail
 refine Calls.mono (dtake_str (w.heap.size + 1) 20 _ _ H6.out.ok (by omega)) ?_
 rintro e u7 ⟨agn, ngn, cgn, rfl, ok7, kp7, tb7⟩
 generalize hR7 : (R6.st.bind fun _ s => takeP 20 textP s) = R7 at ok7 tb7
 have E7 := hid hR7.symm
 clear hR7 yp6 zs ys
 have Da := H6.out.next ok7 kp7
 have zs : u7.frozen? ⟨D, 6, none⟩ = false := Da.d.thaw 6
 have ys : u7.cell? ⟨D, 6, none⟩ = some (.slice none 0 0) := Da.d.cell 6
 have yp7 : u7.cell? ⟨w.heap.size + 2, 0, none⟩ = some (.pointer (some ⟨w.heap.size + 1, 0, none⟩)) := Da.p.cell 0
 have H7 := hid (Da.put 6 (.slice agn ngn cgn) #[.int .i64 (f : Int), .int .i64 (addW f t), .slice aj nj cj, .slice an nn cn, .slice al nl cl, .slice agj ngj cgj, .slice agn ngn cgn, .slice none 0 0] rfl)
 have Tj' := hid (Tj.out.grow kp7 (by have := hlTj.out; omega))
 have Tj := hid (Tj'.out.grow (grow_set u7 D 6 (.slice agn ngn cgn)) (by have := hlTj.out; omega))
 clear Tj'
 have Tn' := hid (Tn.out.grow kp7 (by have := hlTn.out; omega))
 have Tn := hid (Tn'.out.grow (grow_set u7 D 6 (.slice agn ngn cgn)) (by have := hlTn.out; omega))
 clear Tn'
 have Tl' := hid (Tl.out.grow kp7 (by have := hlTl.out; omega))
 have Tl := hid (Tl'.out.grow (grow_set u7 D 6 (.slice agn ngn cgn)) (by have := hlTl.out; omega))
 clear Tl'
 have Tgj' := hid (Tgj.out.grow kp7 (by have := hlTgj.out; omega))
 have Tgj := hid (Tgj'.out.grow (grow_set u7 D 6 (.slice agn ngn cgn)) (by have := hlTgj.out; omega))
 clear Tgj'
 have hlTgn := hid (show D < (u6.setCell ⟨D, 5, none⟩ (.slice agj ngj cgj)).heap.size from H6.out.d.lt)
 have Tgn := hid (TblOk.grow (show TblOk _ 9 1 strV (u6.setCell ⟨D, 5, none⟩ (.slice agj ngj cgj)).heap.size agn ngn cgn u7 from tb7) (grow_set u7 D 6 (.slice agn ngn cgn)) (by have := hlTgn.out; omega))
 have hDl : D < u7.heap.size := Da.d.lt
 clear Da ok7 kp7 tb7 H6
 go_wp2_with fail
 refine Calls.mono (dtake_str (w.heap.size + 1) 40 _ _ H7.out.ok (by omega)) ?_
 rintro e u8 ⟨agl, ngl, cgl, rfl, ok8, kp8, tb8⟩
 generalize hR8 : (R7.st.bind fun _ s => takeP 40 textP s) = R8 at ok8 tb8
 have E8 := hid hR8.symm
 clear hR8 yp7 zs ys
 have Da := H7.out.next ok8 kp8
 have zs : u8.frozen? ⟨D, 7, none⟩ = false := Da.d.thaw 7
 have ys : u8.cell? ⟨D, 7, none⟩ = some (.slice none 0 0) := Da.d.cell 7
 have yp8 : u8.cell? ⟨w.heap.size + 2, 0, none⟩ = some (.pointer (some ⟨w.heap.size + 1, 0, none⟩)) := Da.p.cell 0
 have H8 := hid (Da.put 7 (.slice agl ngl cgl) #[.int .i64 (f : Int), .int .i64 (addW f t), .slice aj nj cj, .slice an nn cn, .slice al nl cl, .slice agj ngj cgj, .slice agn ngn cgn, .slice agl ngl cgl] rfl)
 have Tj' := hid (Tj.out.grow kp8 (by have := hlTj.out; omega))
 have Tj := hid (Tj'.out.grow (grow_set u8 D 7 (.slice agl ngl cgl)) (by have := hlTj.out; omega))
 clear Tj'
 have Tn' := hid (Tn.out.grow kp8 (by have := hlTn.out; omega))
 have Tn := hid (Tn'.out.grow (grow_set u8 D 7 (.slice agl ngl cgl)) (by have := hlTn.out; omega))
 clear Tn'
 have Tl' := hid (Tl.out.grow kp8 (by have := hlTl.out; omega))
 have Tl := hid (Tl'.out.grow (grow_set u8 D 7 (.slice agl ngl cgl)) (by have := hlTl.out; omega))
 clear Tl'
 have Tgj' := hid (Tgj.out.grow kp8 (by have := hlTgj.out; omega))
 have Tgj := hid (Tgj'.out.grow (grow_set u8 D 7 (.slice agl ngl cgl)) (by have := hlTgj.out; omega))
 clear Tgj'
 have Tgn' := hid (Tgn.out.grow kp8 (by have := hlTgn.out; omega))
 have Tgn := hid (Tgn'.out.grow (grow_set u8 D 7 (.slice agl ngl cgl)) (by have := hlTgn.out; omega))
 clear Tgn'
 have hlTgl := hid (show D < (u7.setCell ⟨D, 6, none⟩ (.slice agn ngn cgn)).heap.size from H7.out.d.lt)
 have Tgl := hid (TblOk.grow (show TblOk _ 9 1 strV (u7.setCell ⟨D, 6, none⟩ (.slice agn ngn cgn)).heap.size agl ngl cgl u8 from tb8) (grow_set u8 D 7 (.slice agl ngl cgl)) (by have := hlTgl.out; omega))
 have hDl : D < u8.heap.size := Da.d.lt
 clear Da ok8 kp8 tb8 H7
 go_wp2_with fail
 refine Calls.mono (ryEnd (w.heap.size + 1) _ _ H8.out.ok) ?_
 rintro e ue ⟨rfl, ke⟩
 clear yp8 zs ys
 have hGd := H8.out.ok.good
 have hJ := dl_join E1.out E2.out E3.out E4.out E5.out E6.out E7.out E8.out
 have hSb := grow_blk ke H8.out.d (by omega)
 have hRb := grow_blk ke H8.out.r (by omega)
 have hKb := grow_keep H8.out.keep ke (by omega)
 have hTj := Tj.out.grow ke (by have := hlTj.out; omega)
 have hTn := Tn.out.grow ke (by have := hlTn.out; omega)
 have hTl := Tl.out.grow ke (by have := hlTl.out; omega)
 have hTgj := Tgj.out.grow ke (by have := hlTgj.out; omega)
 have hTgn := Tgn.out.grow ke (by have := hlTgn.out; omega)
 have hTgl := Tgl.out.grow ke (by have := hlTgl.out; omega)
 have HRb := hid hRb
 have HKb := hid hKb
 have hSl := hSb.lt
 have hRl := hRb.lt
 have u0z : ue.frozen? ⟨w.heap.size, 0, none⟩ = false := hRb.thaw 0
 have s0z : ue.cell? ⟨w.heap.size, 0, none⟩ = some (.int .i64 0) := hRb.cell 0
 have u1z : ue.frozen? ⟨w.heap.size, 1, none⟩ = false := hRb.thaw 1
 have s1z : ue.cell? ⟨w.heap.size, 1, none⟩ = some (.int .i64 0) := hRb.cell 1
 have u2z : ue.frozen? ⟨w.heap.size, 2, none⟩ = false := hRb.thaw 2
 have s2z : ue.cell? ⟨w.heap.size, 2, none⟩ = some (.slice none 0 0) := hRb.cell 2
 have u3z : ue.frozen? ⟨w.heap.size, 3, none⟩ = false := hRb.thaw 3
 have s3z : ue.cell? ⟨w.heap.size, 3, none⟩ = some (.slice none 0 0) := hRb.cell 3
 have u4z : ue.frozen? ⟨w.heap.size, 4, none⟩ = false := hRb.thaw 4
 have s4z : ue.cell? ⟨w.heap.size, 4, none⟩ = some (.slice none 0 0) := hRb.cell 4
 have u5z : ue.frozen? ⟨w.heap.size, 5, none⟩ = false := hRb.thaw 5
 have s5z : ue.cell? ⟨w.heap.size, 5, none⟩ = some (.slice none 0 0) := hRb.cell 5
 have u6z : ue.frozen? ⟨w.heap.size, 6, none⟩ = false := hRb.thaw 6
 have s6z : ue.cell? ⟨w.heap.size, 6, none⟩ = some (.slice none 0 0) := hRb.cell 6
 have u7z : ue.frozen? ⟨w.heap.size, 7, none⟩ = false := hRb.thaw 7
 have s7z : ue.cell? ⟨w.heap.size, 7, none⟩ = some (.slice none 0 0) := hRb.cell 7
 have v0z : ue.cell? ⟨D, 0, none⟩ = some (.int .i64 (f : Int)) := hSb.cell 0
 have v1z : ue.cell? ⟨D, 1, none⟩ = some (.int .i64 (addW f t)) := hSb.cell 1
 have v2z : ue.cell? ⟨D, 2, none⟩ = some (.slice aj nj cj) := hSb.cell 2
 have v3z : ue.cell? ⟨D, 3, none⟩ = some (.slice an nn cn) := hSb.cell 3
 have v4z : ue.cell? ⟨D, 4, none⟩ = some (.slice al nl cl) := hSb.cell 4
 have v5z : ue.cell? ⟨D, 5, none⟩ = some (.slice agj ngj cgj) := hSb.cell 5
 have v6z : ue.cell? ⟨D, 6, none⟩ = some (.slice agn ngn cgn) := hSb.cell 6
 have v7z : ue.cell? ⟨D, 7, none⟩ = some (.slice agl ngl cgl) := hSb.cell 7
 have hcase : (∃ x : Nat, x ≠ 0 ∧ endE R8.st = x ∧ endP (dlP b) = .bad x) ∨ (∃ (j : List JobD) (n : List NodeD) (l : List LeaseD) (gj gn gl : List ByteArray) (s : ByteArray), endE R8.st = 0 ∧ endP (dlP b) = .ok ⟨(f : Int), addW f t, j, n, l, gj, gn, gl⟩ s ∧ DeSizes ⟨(f : Int), addW f t, j, n, l, gj, gn, gl⟩ ∧ DeOwn ue w.heap.size ⟨(f : Int), addW f t, j, n, l, gj, gn, gl⟩ ⟨aj, nj, cj, an, nn, cn, al, nl, cl, agj, ngj, cgj, agn, ngn, cgn, agl, ngl, cgl⟩) := by
  cases hf8 : R8.st with
  | bad x =>
   rw [hf8] at hGd
   exact .inl ⟨x, hGd.1, rfl, by rw [hJ.1 x hf8]; rfl⟩
  | ok u s =>
   obtain ⟨f', t', j, n, l, gj, gn, gl, s1, s2, s3, s4, s5, s6, s7, ⟨g1, _⟩, ⟨g2, _⟩, ⟨g3, p3⟩, ⟨g4, p4⟩, ⟨g5, p5⟩, ⟨g6, p6⟩, ⟨g7, p7⟩, ⟨g8, p8⟩, g9⟩ := hJ.2 s hf8
   have hff : f = f' := by have := V1.out; rw [g1] at this; exact this
   have htt : t = t' := by have := V2.out; rw [g2] at this; exact this
   subst hff
   subst htt
   by_cases hs : s.size = 0
   · refine .inr ⟨j, n, l, gj, gn, gl, s, endE_ok0 hs, by rw [g9]; unfold endP; rw [RR.bind_ok, if_pos hs], ?_, ?_⟩
     · obtain ⟨a1, a2⟩ := takeP_all p3
       obtain ⟨b1, b2⟩ := takeP_all p4
       obtain ⟨c1, c2⟩ := takeP_all p5
       obtain ⟨x1, x2⟩ := takeP_all p6
       obtain ⟨y1, y2⟩ := takeP_all p7
       obtain ⟨z1, z2⟩ := takeP_all p8
       exact ⟨a1, b1, c1, x1, y1, z1, fun x hx => by obtain ⟨_, _, h⟩ := a2 x hx; have := jobP_size h; omega, fun x hx => by obtain ⟨_, _, h⟩ := b2 x hx; have := nodeP_size h; omega, fun x hx => by obtain ⟨_, _, h⟩ := c2 x hx; have := leaseP_size h; omega,
        fun x hx => by obtain ⟨_, _, h⟩ := x2 x hx; have := textP_le h; omega, fun x hx => by obtain ⟨_, _, h⟩ := y2 x hx; have := textP_le h; omega, fun x hx => by obtain ⟨_, _, h⟩ := z2 x hx; have := textP_le h; omega⟩
     · obtain ⟨q1, o1⟩ := hTj j s3 g3
       obtain ⟨q2, o2⟩ := hTn n s4 g4
       obtain ⟨q3, o3⟩ := hTl l s5 g5
       obtain ⟨q4, o4⟩ := hTgj gj s6 g6
       obtain ⟨q5, o5⟩ := hTgn gn s7 g7
       obtain ⟨q6, o6⟩ := hTgl gl s g8
       exact ⟨⟨_, by have := hlTj.out; omega, o1⟩, ⟨_, by have := hlTn.out; omega, o2⟩, ⟨_, by have := hlTl.out; omega, o3⟩, ⟨_, by have := hlTgj.out; omega, o4⟩, ⟨_, by have := hlTgn.out; omega, o5⟩, ⟨_, by have := hlTgl.out; omega, o6⟩, q1, q2, q3, q4, q5, q6⟩
   · exact .inl ⟨4, by decide, endE_ok4 hs, by rw [g9]; unfold endP; rw [RR.bind_ok, if_neg hs]⟩
 have haW := addW_bounds hf ht
 clear hJ hGd ke H8 Tj Tn Tl Tgj Tgn Tgl hlTj hlTn hlTl hlTgj hlTgn hlTgl hRb hKb hTj hTn hTl hTgj hTgn hTgl E1 E2 E3 E4 E5 E6 E7 E8 V1 V2
 rcases hcase with ⟨x, hx, hEx, hres⟩ | ⟨j, n, l, gj, gn, gl, s, hEx, hres, hz, ho⟩
 · rw [hEx]
   have hne : ((x : Int) != 0) = true := by rw [bne_iff_ne]; omega
   have hR4 := (Blk.eq ((Blk.eq ((Blk.eq ((Blk.eq ((Blk.eq ((Blk.eq ((Blk.eq ((Blk.eq (HRb.out.set 0 (.int .i64 0)) (show _ = zDel from rfl)).set 1 (.int .i64 0)) (show _ = zDel from rfl)).set 2 (.slice none 0 0)) (show _ = zDel from rfl)).set 3 (.slice none 0 0)) (show _ = zDel from rfl)).set 4 (.slice none 0 0)) (show _ = zDel from rfl)).set 5 (.slice none 0 0)) (show _ = zDel from rfl)).set 6 (.slice none 0 0)) (show _ = zDel from rfl)).set 7 (.slice none 0 0)) (show _ = zDel from rfl))
   have q0 := (show _ = (some (.int .i64 0) : Option Value) from hR4.cell 0)
   have q1 := (show _ = (some (.int .i64 0) : Option Value) from hR4.cell 1)
   have q2 := (show _ = (some (.slice none 0 0) : Option Value) from hR4.cell 2)
   have q3 := (show _ = (some (.slice none 0 0) : Option Value) from hR4.cell 3)
   have q4 := (show _ = (some (.slice none 0 0) : Option Value) from hR4.cell 4)
   have q5 := (show _ = (some (.slice none 0 0) : Option Value) from hR4.cell 5)
   have q6 := (show _ = (some (.slice none 0 0) : Option Value) from hR4.cell 6)
   have q7 := (show _ = (some (.slice none 0 0) : Option Value) from hR4.cell 7)
   have hK4 := hid (grow_keep (grow_keep (grow_keep (grow_keep (grow_keep (grow_keep (grow_keep (grow_keep HKb.out (grow_set _ w.heap.size 0 (.int .i64 0)) (by omega)) (grow_set _ w.heap.size 1 (.int .i64 0)) (by omega)) (grow_set _ w.heap.size 2 (.slice none 0 0)) (by omega)) (grow_set _ w.heap.size 3 (.slice none 0 0)) (by omega)) (grow_set _ w.heap.size 4 (.slice none 0 0)) (by omega)) (grow_set _ w.heap.size 5 (.slice none 0 0)) (by omega)) (grow_set _ w.heap.size 6 (.slice none 0 0)) (by omega)) (grow_set _ w.heap.size 7 (.slice none 0 0)) (by omega))
   have hG4 := hid (bes_set (bes_set (bes_set (bes_set (bes_set (bes_set (bes_set (bes_set (grow_refl ue w.heap.size) 0 (.int .i64 0)) 1 (.int .i64 0)) 2 (.slice none 0 0)) 3 (.slice none 0 0)) 4 (.slice none 0 0)) 5 (.slice none 0 0)) 6 (.slice none 0 0)) 7 (.slice none 0 0))
   clear hR4
   have Hend := hid (Hbad.out x hres _ hK4.out)
   clear hEx hres hSb
   go_wp2
   refine bodyPost_ret (v := .tuple #[.agg #[.int .i64 0, .int .i64 0, .slice none 0 0, .slice none 0 0, .slice none 0 0, .slice none 0 0, .slice none 0 0, .slice none 0 0], .int .i64 (x : Int)]) (by simp [results, Tryz.results173, go_sem, *]) rfl ?_
   exact Hend.out
 · rw [hEx]
   have HZ := hid hz
   have HO := hid ho
   have HC := hid (dcheck_any ⟨(f : Int), addW f t, j, n, l, gj, gn, gl⟩ ⟨aj, nj, cj, an, nn, cn, al, nl, cl, agj, ngj, cgj, agn, ngn, cgn, agl, ngl, cgl⟩ ue (ho.at_ hz) (hT2.out.below HKb.out) (show -9223372036854775808 ≤ (f : Int) by omega) (show (f : Int) ≤ 9223372036854775807 by omega))
   have Hchk' := hid (Hchk.out _ s hres)
   have Hok' := hid (Hok.out _ s hres)
   unfold DCPost at HC
   clear hres hEx hz ho
   obtain ⟨E, hE⟩ : ∃ E, deltaE (⟨(f : Int), addW f t, j, n, l, gj, gn, gl⟩ : DeltaD) = E := ⟨_, rfl⟩
   rw [hE] at HC Hchk' Hok'
   clear hE
   simp only [dC] at HC
   go_wp2_with fail
   refine Calls.mono HC.out ?_
   rintro e w9 ⟨rfl, hb9⟩
   have HR9 := hid (HRb.out.below hb9 hRl)
   have HS9 := hSb.below hb9 hSl
   have HK9 := hid (HKb.out.trans (hb9.mono HKb.out.size))
   have Hb9 := hid hb9
   have hsz9 := hb9.size
   clear v0z v1z v2z v3z v4z v5z v6z v7z hSb
   obtain ⟨uu0, uu1, uu2, uu3, uu4, uu5, uu6, uu7⟩ := Blk.z8 (HR9.out)
   obtain ⟨ss0, ss1, ss2, ss3, ss4, ss5, ss6, ss7⟩ := Blk.c8 (HR9.out)
   obtain ⟨vv0, vv1, vv2, vv3, vv4, vv5, vv6, vv7⟩ := Blk.c8 (HS9)
   clear HS9 hb9
   by_cases h0 : E = 0
   · subst h0
     have Hres := hid (Hok'.out rfl)
     have hR4 := (Blk.eq ((Blk.eq ((Blk.eq ((Blk.eq ((Blk.eq ((Blk.eq ((Blk.eq ((Blk.eq (HR9.out.set 0 (.int .i64 (f : Int))) (show _ = #[.int .i64 (f : Int), .int .i64 0, .slice none 0 0, .slice none 0 0, .slice none 0 0, .slice none 0 0, .slice none 0 0, .slice none 0 0] from rfl)).set 1 (.int .i64 (addW f t))) (show _ = #[.int .i64 (f : Int), .int .i64 (addW f t), .slice none 0 0, .slice none 0 0, .slice none 0 0, .slice none 0 0, .slice none 0 0, .slice none 0 0] from rfl)).set 2 (.slice aj nj cj)) (show _ = #[.int .i64 (f : Int), .int .i64 (addW f t), .slice aj nj cj, .slice none 0 0, .slice none 0 0, .slice none 0 0, .slice none 0 0, .slice none 0 0] from rfl)).set 3 (.slice an nn cn)) (show _ = #[.int .i64 (f : Int), .int .i64 (addW f t), .slice aj nj cj, .slice an nn cn, .slice none 0 0, .slice none 0 0, .slice none 0 0, .slice none 0 0] from rfl)).set 4 (.slice al nl cl)) (show _ = #[.int .i64 (f : Int), .int .i64 (addW f t), .slice aj nj cj, .slice an nn cn, .slice al nl cl, .slice none 0 0, .slice none 0 0, .slice none 0 0] from rfl)).set 5 (.slice agj ngj cgj)) (show _ = #[.int .i64 (f : Int), .int .i64 (addW f t), .slice aj nj cj, .slice an nn cn, .slice al nl cl, .slice agj ngj cgj, .slice none 0 0, .slice none 0 0] from rfl)).set 6 (.slice agn ngn cgn)) (show _ = #[.int .i64 (f : Int), .int .i64 (addW f t), .slice aj nj cj, .slice an nn cn, .slice al nl cl, .slice agj ngj cgj, .slice agn ngn cgn, .slice none 0 0] from rfl)).set 7 (.slice agl ngl cgl)) (show _ = #[.int .i64 (f : Int), .int .i64 (addW f t), .slice aj nj cj, .slice an nn cn, .slice al nl cl, .slice agj ngj cgj, .slice agn ngn cgn, .slice agl ngl cgl] from rfl))
     have q0 := (show _ = (some (.int .i64 (f : Int)) : Option Value) from hR4.cell 0)
     have q1 := (show _ = (some (.int .i64 (addW f t)) : Option Value) from hR4.cell 1)
     have q2 := (show _ = (some (.slice aj nj cj) : Option Value) from hR4.cell 2)
     have q3 := (show _ = (some (.slice an nn cn) : Option Value) from hR4.cell 3)
     have q4 := (show _ = (some (.slice al nl cl) : Option Value) from hR4.cell 4)
     have q5 := (show _ = (some (.slice agj ngj cgj) : Option Value) from hR4.cell 5)
     have q6 := (show _ = (some (.slice agn ngn cgn) : Option Value) from hR4.cell 6)
     have q7 := (show _ = (some (.slice agl ngl cgl) : Option Value) from hR4.cell 7)
     have hK4 := hid (grow_keep (grow_keep (grow_keep (grow_keep (grow_keep (grow_keep (grow_keep (grow_keep HK9.out (grow_set _ w.heap.size 0 (.int .i64 (f : Int))) (by omega)) (grow_set _ w.heap.size 1 (.int .i64 (addW f t))) (by omega)) (grow_set _ w.heap.size 2 (.slice aj nj cj)) (by omega)) (grow_set _ w.heap.size 3 (.slice an nn cn)) (by omega)) (grow_set _ w.heap.size 4 (.slice al nl cl)) (by omega)) (grow_set _ w.heap.size 5 (.slice agj ngj cgj)) (by omega)) (grow_set _ w.heap.size 6 (.slice agn ngn cgn)) (by omega)) (grow_set _ w.heap.size 7 (.slice agl ngl cgl)) (by omega))
     have hG4 := hid (bes_set (bes_set (bes_set (bes_set (bes_set (bes_set (bes_set (bes_set (grow_refl w9 w.heap.size) 0 (.int .i64 (f : Int))) 1 (.int .i64 (addW f t))) 2 (.slice aj nj cj)) 3 (.slice an nn cn)) 4 (.slice al nl cl)) 5 (.slice agj ngj cgj)) 6 (.slice agn ngn cgn)) 7 (.slice agl ngl cgl))
     clear hR4
     go_wp2
     refine bodyPost_ret (v := .tuple #[.agg #[.int .i64 (f : Int), .int .i64 (addW f t), .slice aj nj cj, .slice an nn cn, .slice al nl cl, .slice agj ngj cgj, .slice agn ngn cgn, .slice agl ngl cgl], .int .i64 0]) (by simp [results, Tryz.results173, go_sem, *]) rfl ?_
     exact ⟨⟨(f : Int), addW f t, j, n, l, gj, gn, gl⟩, ⟨aj, nj, cj, an, nn, cn, al, nl, cl, agj, ngj, cgj, agn, ngn, cgn, agl, ngl, cgl⟩, 0, rfl, Hres.out, ((HO.out.grow (grow_below _ Hb9.out)).grow hG4.out).at_ HZ.out, hK4.out⟩
   · have hne : (E != 0) = true := bne_iff_ne.2 h0
     have hR4 := (Blk.eq ((Blk.eq ((Blk.eq ((Blk.eq ((Blk.eq ((Blk.eq ((Blk.eq ((Blk.eq (HR9.out.set 0 (.int .i64 0)) (show _ = zDel from rfl)).set 1 (.int .i64 0)) (show _ = zDel from rfl)).set 2 (.slice none 0 0)) (show _ = zDel from rfl)).set 3 (.slice none 0 0)) (show _ = zDel from rfl)).set 4 (.slice none 0 0)) (show _ = zDel from rfl)).set 5 (.slice none 0 0)) (show _ = zDel from rfl)).set 6 (.slice none 0 0)) (show _ = zDel from rfl)).set 7 (.slice none 0 0)) (show _ = zDel from rfl))
     have q0 := (show _ = (some (.int .i64 0) : Option Value) from hR4.cell 0)
     have q1 := (show _ = (some (.int .i64 0) : Option Value) from hR4.cell 1)
     have q2 := (show _ = (some (.slice none 0 0) : Option Value) from hR4.cell 2)
     have q3 := (show _ = (some (.slice none 0 0) : Option Value) from hR4.cell 3)
     have q4 := (show _ = (some (.slice none 0 0) : Option Value) from hR4.cell 4)
     have q5 := (show _ = (some (.slice none 0 0) : Option Value) from hR4.cell 5)
     have q6 := (show _ = (some (.slice none 0 0) : Option Value) from hR4.cell 6)
     have q7 := (show _ = (some (.slice none 0 0) : Option Value) from hR4.cell 7)
     have hK4 := hid (grow_keep (grow_keep (grow_keep (grow_keep (grow_keep (grow_keep (grow_keep (grow_keep HK9.out (grow_set _ w.heap.size 0 (.int .i64 0)) (by omega)) (grow_set _ w.heap.size 1 (.int .i64 0)) (by omega)) (grow_set _ w.heap.size 2 (.slice none 0 0)) (by omega)) (grow_set _ w.heap.size 3 (.slice none 0 0)) (by omega)) (grow_set _ w.heap.size 4 (.slice none 0 0)) (by omega)) (grow_set _ w.heap.size 5 (.slice none 0 0)) (by omega)) (grow_set _ w.heap.size 6 (.slice none 0 0)) (by omega)) (grow_set _ w.heap.size 7 (.slice none 0 0)) (by omega))
     have hG4 := hid (bes_set (bes_set (bes_set (bes_set (bes_set (bes_set (bes_set (bes_set (grow_refl w9 w.heap.size) 0 (.int .i64 0)) 1 (.int .i64 0)) 2 (.slice none 0 0)) 3 (.slice none 0 0)) 4 (.slice none 0 0)) 5 (.slice none 0 0)) 6 (.slice none 0 0)) 7 (.slice none 0 0))
     clear hR4
     have Hend := hid (Hchk'.out h0 _ hK4.out)
     go_wp2
     refine bodyPost_ret (v := .tuple #[.agg #[.int .i64 0, .int .i64 0, .slice none 0 0, .slice none 0 0, .slice none 0 0, .slice none 0 0, .slice none 0 0, .slice none 0 0], .int .i64 E]) (by simp [results, Tryz.results173, go_sem, *]) rfl ?_
     exact Hend.out
theorem ddecode_any (b : ByteArray) (w : World) (hb : b.size ≤ 9223372036854775807) (hT : Tabs w) : Calls Tryz.prog 173 #[.string b] w (DDPost b w) := by
 by_cases h : 6000 < b.size
 · exact ddecode_large b w h hb
 · exact ddecode_in b w hT h
end Go.Proofs.YtjgnnobccecpeaaGreatDoor
