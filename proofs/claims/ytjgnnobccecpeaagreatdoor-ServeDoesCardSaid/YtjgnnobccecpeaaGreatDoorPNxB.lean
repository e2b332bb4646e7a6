/- Of the proof. -/
import Derived.Test.YtjgnnobccecpeaaGreatDoorPArgReq
import Derived.Test.YtjgnnobccecpeaaGreatDoorPRWo
import Derived.Test.YtjgnnobccecpeaaGreatDoorPRcG
set_option linter.unusedVariables false
set_option linter.unusedSimpArgs false
set_option maxRecDepth 100000
set_option maxHeartbeats 8000000
namespace Go.Proofs.YtjgnnobccecpeaaGreatDoor
open Go.Lib (hid)
open List (foldl_cons foldl_nil setIfInBounds_toArray set_cons_succ set_cons_zero)
open Go.RowKit
def RNxPost (R : Int × StateD × Int) (w : World) (e : Ending) (w' : World) : Prop :=
 ∃ x', e = .returned (.tuple #[.agg (stC R.2.1 x'), .int .i64 R.2.2, .int .i64 R.1]) ∧ StAt w' w'.heap.size R.2.1 x' ∧ Below w.heap.size w w'
structure NxAt (w0 w : World) (O N : Nat) (st : StateD) (x : StA) (now nw : Int) (q : ReqD) (so : StateD) (xo : StA) : Prop where
 below : Below w0.heap.size w0 w
 s : Blk w w0.heap.size 36 (srvC st x now)
 q : Blk w (w0.heap.size + 1) 44 (reqC q)
 r : Blk w (w0.heap.size + 2) 26 zSta
 o : Blk w O 26 (stC so xo)
 n : Blk w N 3 #[.int .i64 nw]
 at_ : StAt w w.heap.size st x
 ao : StAt w w.heap.size so xo
 os : w0.heap.size + 3 ≤ O
 ns : w0.heap.size + 3 ≤ N
 ne : O ≠ N
section
variable {w0 w w' : World} {O N : Nat} {st : StateD} {x : StA} {now nw : Int} {q : ReqD} {so : StateD} {xo : StA}
theorem NxAt.kept (h : NxAt w0 w O N st x now nw q so xo) (hb : Below w.heap.size w w') : NxAt w0 w' O N st x now nw q so xo :=
 ⟨h.below.trans (hb.mono h.below.size), h.s.below hb h.s.lt, h.q.below hb h.q.lt, h.r.below hb h.r.lt, h.o.below hb h.o.lt, h.n.below hb h.n.lt, h.at_.upS hb, h.ao.upS hb, h.os, h.ns, h.ne⟩
theorem NxAt.setO (h : NxAt w0 w O N st x now nw q so xo) (i : Nat) (v : Value) {so' : StateD} {xo' : StA} (hc : (stC so xo).setIfInBounds i v = stC so' xo') (ha : StAt w w.heap.size so' xo') : NxAt w0 (w.setCell ⟨O, i, none⟩ v) O N st x now nw q so' xo' := by
 have hg := grow_set w O i v
 have h1 := h.os
 have h2 := h.ne
 refine ⟨grow_keep h.below hg (by omega), grow_blk hg h.s (by omega), grow_blk hg h.q (by omega), grow_blk hg h.r (by omega), Blk.eq (h.o.set i v) hc, grow_blk hg h.n (fun e => h2 e.symm), (h.at_.butN h.o (noStr_st _ _) hg).more hg.size, (ha.butN h.o (noStr_st _ _) hg).more hg.size, h.os, h.ns, h.ne⟩
theorem NxAt.setN (h : NxAt w0 w O N st x now nw q so xo) (m : Int) : NxAt w0 (w.setCell ⟨N, 0, none⟩ (.int .i64 m)) O N st x now m q so xo := by
 have hg := grow_set w N 0 (.int .i64 m)
 have h1 := h.ns
 have h2 := h.ne
 refine ⟨grow_keep h.below hg (by omega), grow_blk hg h.s (by omega), grow_blk hg h.q (by omega), grow_blk hg h.r (by omega), grow_blk hg h.o h2, Blk.eq (h.n.set 0 _) rfl, (h.at_.butN h.n (noStr_int _) hg).more hg.size, (h.ao.butN h.n (noStr_int _) hg).more hg.size, h.os, h.ns, h.ne⟩
theorem NxAt.end_ (h : NxAt w0 w O N st x now nw q so xo) (hg : w.grownBy w' (some (w0.heap.size + 2))) (E : Int) : RNxPost (E, so, nw) w0 (.returned (.tuple #[.agg (stC so xo), .int .i64 nw, .int .i64 E])) w' :=
 ⟨xo, rfl, (h.ao.butN h.r (noStr_st ⟨0, [], [], []⟩ ⟨none, 0, 0, none, 0, 0, none, 0, 0⟩) hg).more hg.size, grow_keep h.below hg (by omega)⟩
end
theorem nxDelJ (Q : Nat) (q : ReqD) (xs : List JobD) (w : World) (hq : Blk w Q 44 (reqC q)) : Answers (fun l => decide (l.name = q.name)) 125 #[.pointer (some ⟨Q, 0, none⟩)] jobV xs w := by
 intro W hW x _
 have hb : Blk W Q 44 (reqC q) := hq.below hW hq.lt
 have h1 : W.cell? ⟨Q, 12, none⟩ = some (.string q.name) := hb.cell 12
 have hl := hb.lt
 have Hd := hid (beq_dec x.name q.name)
 obtain ⟨name, prio, need, tries, tag⟩ := x
 show Calls Tryz.prog 125 #[.agg #[.string name, .int .i64 prio, .int .i64 need, .int .i64 tries, .string tag], .pointer (some ⟨Q, 0, none⟩)] W _
 clear hq hW hb
 go_enter Tryz.func125, Tryz.ntmps125
 go_wp2
 go_ret
 exact ⟨ret_bool Hd.out, (Below.refl _ _).alloc (Nat.le_refl _) _⟩
theorem nxDelJL (Q : Nat) (q : ReqD) (xs : List LeaseD) (w : World) (hq : Blk w Q 44 (reqC q)) : Answers (fun l => decide (l.job = q.name)) 126 #[.pointer (some ⟨Q, 0, none⟩)] leaseV xs w := by
 intro W hW x _
 have hb : Blk W Q 44 (reqC q) := hq.below hW hq.lt
 have h1 : W.cell? ⟨Q, 12, none⟩ = some (.string q.name) := hb.cell 12
 have hl := hb.lt
 have Hd := hid (beq_dec x.job q.name)
 obtain ⟨job, node, till⟩ := x
 show Calls Tryz.prog 126 #[.agg #[.string job, .string node, .int .i64 till], .pointer (some ⟨Q, 0, none⟩)] W _
 clear hq hW hb
 go_enter Tryz.func126, Tryz.ntmps126
 go_wp2
 go_ret
 exact ⟨ret_bool Hd.out, (Below.refl _ _).alloc (Nat.le_refl _) _⟩
theorem nxDelN (Q : Nat) (q : ReqD) (xs : List NodeD) (w : World) (hq : Blk w Q 44 (reqC q)) : Answers (fun l => decide (l.name = q.name)) 127 #[.pointer (some ⟨Q, 0, none⟩)] nodeV xs w := by
 intro W hW x _
 have hb : Blk W Q 44 (reqC q) := hq.below hW hq.lt
 have h1 : W.cell? ⟨Q, 12, none⟩ = some (.string q.name) := hb.cell 12
 have hl := hb.lt
 have Hd := hid (beq_dec x.name q.name)
 obtain ⟨name, room, zone⟩ := x
 show Calls Tryz.prog 127 #[.agg #[.string name, .int .i64 room, .string zone], .pointer (some ⟨Q, 0, none⟩)] W _
 clear hq hW hb
 go_enter Tryz.func127, Tryz.ntmps127
 go_wp2
 go_ret
 exact ⟨ret_bool Hd.out, (Below.refl _ _).alloc (Nat.le_refl _) _⟩
theorem nxDelNL (Q : Nat) (q : ReqD) (xs : List LeaseD) (w : World) (hq : Blk w Q 44 (reqC q)) : Answers (fun l => decide (l.node = q.name)) 128 #[.pointer (some ⟨Q, 0, none⟩)] leaseV xs w := by
 intro W hW x _
 have hb : Blk W Q 44 (reqC q) := hq.below hW hq.lt
 have h1 : W.cell? ⟨Q, 12, none⟩ = some (.string q.name) := hb.cell 12
 have hl := hb.lt
 have Hd := hid (beq_dec x.node q.name)
 obtain ⟨job, node, till⟩ := x
 show Calls Tryz.prog 128 #[.agg #[.string job, .string node, .int .i64 till], .pointer (some ⟨Q, 0, none⟩)] W _
 clear hq hW hb
 go_enter Tryz.func128, Tryz.ntmps128
 go_wp2
 go_ret
 exact ⟨ret_bool Hd.out, (Below.refl _ _).alloc (Nat.le_refl _) _⟩
theorem nxFree (Q : Nat) (q : ReqD) (xs : List LeaseD) (w : World) (hq : Blk w Q 44 (reqC q)) : Answers (fun l => decide (l.job = q.name)) 129 #[.pointer (some ⟨Q, 0, none⟩)] leaseV xs w := by
 intro W hW x _
 have hb : Blk W Q 44 (reqC q) := hq.below hW hq.lt
 have h1 : W.cell? ⟨Q, 12, none⟩ = some (.string q.name) := hb.cell 12
 have hl := hb.lt
 have Hd := hid (beq_dec x.job q.name)
 obtain ⟨job, node, till⟩ := x
 show Calls Tryz.prog 129 #[.agg #[.string job, .string node, .int .i64 till], .pointer (some ⟨Q, 0, none⟩)] W _
 clear hq hW hb
 go_enter Tryz.func129, Tryz.ntmps129
 go_wp2
 go_ret
 exact ⟨ret_bool Hd.out, (Below.refl _ _).alloc (Nat.le_refl _) _⟩
theorem nxTick (N : Nat) (t : Int) (xs : List LeaseD) (w : World) (hn : Blk w N 3 #[.int .i64 t]) : Answers (fun l => decide (l.till ≤ t)) 130 #[.pointer (some ⟨N, 0, none⟩)] leaseV xs w := by
 intro W hW x _
 have hb : Blk W N 3 #[.int .i64 t] := hn.below hW hn.lt
 have h1 : W.cell? ⟨N, 0, none⟩ = some (.int .i64 t) := hb.cell 0
 have hl := hb.lt
 obtain ⟨job, node, till⟩ := x
 show Calls Tryz.prog 130 #[.agg #[.string job, .string node, .int .i64 till], .pointer (some ⟨N, 0, none⟩)] W _
 clear hn hW hb
 go_enter Tryz.func130, Tryz.ntmps130
 go_wp2
 go_ret
 exact ⟨rfl, (Below.refl _ _).alloc (Nat.le_refl _) _⟩
def NxLPost (w0 : World) (O N : Nat) (st : StateD) (x : StA) (now nw : Int) (q : ReqD) (so : StateD) (ls : List LeaseD) (w : World) (e : Ending) (w' : World) : Prop :=
 e = .returned (.tuple #[]) ∧ ∃ xo', NxAt w0 w' O N st x now nw q ⟨so.rev, so.jobs, so.nodes, ls⟩ xo'
theorem nxLeases (p : LeaseD → Bool) (F : FuncId) (caps : Array Value) (w0 w : World) (O N : Nat) (st : StateD) (x : StA) (now nw : Int) (q : ReqD) (so : StateD) (xo : StA) (h : NxAt w0 w O N st x now nw q so xo) (hl : x.nl ≤ 1000) (hent : ∀ args w, (callFunc F args).run Tryz.prog w = .ok (.enter F args) w) (hp : Answers p F caps leaseV st.leases w) :
 Calls Tryz.prog 124 #[.func (.func F) #[] caps, .pointer (some ⟨w0.heap.size, 0, none⟩), .pointer (some ⟨O, 0, none⟩)] w (NxLPost w0 O N st x now nw q so (st.leases.filter fun l => !p l) w) := by
 have s3 : w.cell? ⟨w0.heap.size, 3, none⟩ = some (.slice x.al x.nl x.cl) := h.s.cell 3
 have hsl := h.s.lt
 have hol := h.o.lt
 have HC := hid (rwo_lease p F caps st.leases x.al x.nl x.cl w hent h.at_.l h.at_.ll hl hp)
 have H := hid h
 clear h hp
 go_enter Tryz.func124, Tryz.ntmps124
 go_wp2_with fail
 refine Calls.mono HC.out ?_
 rintro e w2 ⟨A, c, rfl, ho, hb⟩
 have H2 := H.out.kept hb
 have o3 : w2.cell? ⟨O, 3, none⟩ = some (.slice xo.al xo.nl xo.cl) := H2.o.cell 3
 have z3 : w2.frozen? ⟨O, 3, none⟩ = false := H2.o.thaw 3
 have hol2 := H2.o.lt
 have HF := hid (show NxLPost w0 O N st x now nw q so (st.leases.filter fun l => !p l) w (.returned (.tuple #[])) (w2.setCell ⟨O, 3, none⟩ (.slice A (st.leases.filter fun l => !p l).length c)) from ⟨rfl, _, H2.setO 3 _ rfl (H2.ao.withL c (own_slAt ho) rfl (by have := List.length_filter_le (fun l => !p l) st.leases; have := H.out.at_.ll; omega) (fun l hl => H2.at_.ol l (List.mem_filter.1 hl).1))⟩)
 clear H2 ho hb HC s3 hsl hol
 go_wp2
 go_end0
 exact HF.out
open Go.RowKit
structure NxG where
 O : Option Nat
 N : Option Nat
def nxV (S : Nat) (st : StateD) (x : StA) (now : Int) (γ : NxG) : Nat → Value → Prop
 | 0, u => u = .pointer (some ⟨S, 0, none⟩)
 | 1, u => u = .agg #[.int .i64 st.rev, .slice x.aj x.nj x.cj, .slice x.an x.nn x.cn, .slice x.al x.nl x.cl]
 | 2, u => u = .pointer (some ⟨S, 4, none⟩)
 | 3, u => u = .int .i64 now
 | 4, u => ∃ O, γ.O = some O ∧ u = .pointer (some ⟨O, 0, none⟩)
 | 5, u => ∃ N, γ.N = some N ∧ u = .pointer (some ⟨N, 0, none⟩)
 | _, _ => True
theorem nxV_4 {S : Nat} {st : StateD} {x : StA} {now : Int} {γ : NxG} (O : Option Nat) : ∀ j v, j ≠ 4 → nxV S st x now γ j v → nxV S st x now ⟨O, γ.N⟩ j v := fun j v hj h =>
 match j, hj, h with
 | 0, _, h => h | 1, _, h => h | 2, _, h => h | 3, _, h => h | 4, hj, _ => absurd rfl hj | 5, _, h => h | _ + 6, _, _ => trivial
theorem nxV_5 {S : Nat} {st : StateD} {x : StA} {now : Int} {γ : NxG} (N : Option Nat) : ∀ j v, j ≠ 5 → nxV S st x now γ j v → nxV S st x now ⟨γ.O, N⟩ j v := fun j v hj h =>
 match j, hj, h with
 | 0, _, h => h | 1, _, h => h | 2, _, h => h | 3, _, h => h | 4, _, h => h | 5, hj, _ => absurd rfl hj | _ + 6, _, _ => trivial
structure NxP (w0 : World) (st : StateD) (x : StA) (now : Int) (q : ReqD) (k : Nat) (γ : NxG) (w : World) : Prop where
 below : Below w0.heap.size w0 w
 s : Blk w w0.heap.size 36 (srvC st x now)
 q : Blk w (w0.heap.size + 1) 44 (reqC q)
 r : Blk w (w0.heap.size + 2) 26 zSta
 at_ : StAt w w.heap.size st x
 o : ∀ O, γ.O = some O → w0.heap.size + 3 ≤ O ∧ Blk w O 26 (if k = 0 then zSta else stC st x)
 n : ∀ N, γ.N = some N → w0.heap.size + 3 ≤ N ∧ Blk w N 3 (if k < 2 then #[.int .i64 0] else #[.int .i64 now])
 ne : ∀ O N, γ.O = some O → γ.N = some N → O ≠ N
theorem NxP.allocO {w0 w : World} {st : StateD} {x : StA} {now : Int} {q : ReqD} {γ : NxG} (h : NxP w0 st x now q 0 γ w) : NxP w0 st x now q 0 ⟨some w.heap.size, γ.N⟩ (w.alloc (.cells zSta 26)) := by
 have hb : Below w.heap.size w (w.alloc (.cells zSta 26)) := (Below.refl _ _).alloc (Nat.le_refl _) _
 have hr := h.r.lt
 refine ⟨h.below.trans (hb.mono h.below.size), h.s.below hb h.s.lt, h.q.below hb h.q.lt, h.r.below hb h.r.lt, h.at_.upS hb, fun O hO => ?_, fun N hN => ⟨(h.n N hN).1, (h.n N hN).2.below hb (h.n N hN).2.lt⟩, fun O N hO hN => ?_⟩
 · injection hO with hO
   subst hO
   exact ⟨by omega, heap_alloc_new w _⟩
 · injection hO with hO
   have := (h.n N hN).2.lt
   omega
theorem NxP.allocN {w0 w : World} {st : StateD} {x : StA} {now : Int} {q : ReqD} {γ : NxG} (h : NxP w0 st x now q 0 γ w) : NxP w0 st x now q 0 ⟨γ.O, some w.heap.size⟩ (w.alloc (.cells #[.int .i64 0] 3)) := by
 have hb : Below w.heap.size w (w.alloc (.cells #[.int .i64 0] 3)) := (Below.refl _ _).alloc (Nat.le_refl _) _
 have hr := h.r.lt
 refine ⟨h.below.trans (hb.mono h.below.size), h.s.below hb h.s.lt, h.q.below hb h.q.lt, h.r.below hb h.r.lt, h.at_.upS hb, fun O hO => ⟨(h.o O hO).1, (h.o O hO).2.below hb (h.o O hO).2.lt⟩, fun N hN => ?_, fun O N hO hN => ?_⟩
 · injection hN with hN
   subst hN
   exact ⟨by omega, heap_alloc_new w _⟩
 · injection hN with hN
   have := (h.o O hO).2.lt
   omega
theorem NxP.setO {w0 w w' : World} {st : StateD} {x : StA} {now : Int} {q : ReqD} {γ : NxG} {O : Nat} (h : NxP w0 st x now q 0 γ w) (hO : γ.O = some O) (hg : w.grownBy w' (some O)) (hb : Blk w' O 26 (stC st x)) : NxP w0 st x now q 1 γ w' := by
 obtain ⟨h1, h2⟩ := h.o O hO
 refine ⟨grow_keep h.below hg (by omega), grow_blk hg h.s (by omega), grow_blk hg h.q (by omega), grow_blk hg h.r (by omega), (h.at_.butN h2 (noStr_st ⟨0, [], [], []⟩ ⟨none, 0, 0, none, 0, 0, none, 0, 0⟩) hg).more hg.size, fun O' hO' => ?_, fun N hN => ⟨(h.n N hN).1, grow_blk hg (h.n N hN).2 (fun e => h.ne O N hO hN e.symm)⟩, h.ne⟩
 rw [hO] at hO'
 injection hO' with hO'
 subst hO'
 exact ⟨h1, hb⟩
theorem NxP.setN {w0 w w' : World} {st : StateD} {x : StA} {now : Int} {q : ReqD} {γ : NxG} {N : Nat} (h : NxP w0 st x now q 1 γ w) (hN : γ.N = some N) (hg : w.grownBy w' (some N)) (hb : Blk w' N 3 #[.int .i64 now]) : NxP w0 st x now q 2 γ w' := by
 obtain ⟨h1, h2⟩ := h.n N hN
 refine ⟨grow_keep h.below hg (by omega), grow_blk hg h.s (by omega), grow_blk hg h.q (by omega), grow_blk hg h.r (by omega), (h.at_.butN h2 (noStr_int 0) hg).more hg.size, fun O hO => ⟨(h.o O hO).1, grow_blk hg (h.o O hO).2 (h.ne O N hO hN)⟩, fun N' hN' => ?_, h.ne⟩
 rw [hN] at hN'
 injection hN' with hN'
 subst hN'
 exact ⟨h1, hb⟩
def nxE (w0 : World) (O N : Nat) (st : StateD) (x : StA) (now nw : Int) (q : ReqD) (so : StateD) (xo : StA) (p : Nat) (w : World) : Prop :=
 if p < 2 then NxAt w0 w O N st x now nw q so xo else ∃ wm, NxAt w0 wm O N st x now nw q so xo ∧ wm.grownBy w (some (w0.heap.size + 2)) ∧ Blk w (w0.heap.size + 2) 26 (stC so xo)
theorem nxE_n {w0 w : World} {O N : Nat} {st : StateD} {x : StA} {now nw : Int} {q : ReqD} {so : StateD} {xo : StA} {p : Nat} (h : nxE w0 O N st x now nw q so xo p w) : Blk w N 3 #[.int .i64 nw] := by
 unfold nxE at h
 split at h
 · exact h.n
 · obtain ⟨wm, h1, h2, _⟩ := h
   have := h1.ns
   exact grow_blk h2 h1.n (by omega)
theorem nxE_lt {w0 w : World} {O N : Nat} {st : StateD} {x : StA} {now nw : Int} {q : ReqD} {so : StateD} {xo : StA} {p : Nat} (hp : p < 2) (h : nxE w0 O N st x now nw q so xo p w) : NxAt w0 w O N st x now nw q so xo := by
 unfold nxE at h; rw [if_pos hp] at h; exact h
theorem nxE_mk {w0 w : World} {O N : Nat} {st : StateD} {x : StA} {now nw : Int} {q : ReqD} {so : StateD} {xo : StA} {p : Nat} (hp : p < 2) (h : NxAt w0 w O N st x now nw q so xo) : nxE w0 O N st x now nw q so xo p w := by
 unfold nxE; rw [if_pos hp]; exact h
def nxEV (so : StateD) (xo : StA) (nw E : Int) : Nat → Value → Prop
 | 0, u => u = .agg #[.int .i64 so.rev, .slice xo.aj xo.nj xo.cj, .slice xo.an xo.nn xo.cn, .slice xo.al xo.nl xo.cl]
 | 1, u => u = .int .i64 nw
 | 2, u => u = .agg #[.int .i64 so.rev, .slice xo.aj xo.nj xo.cj, .slice xo.an xo.nn xo.cn, .slice xo.al xo.nl xo.cl]
 | 3, u => u = .int .i64 E
 | 5, u => u = .int .i64 nw
 | 6, u => u = .int .i64 E
 | _, _ => True
theorem NxAt.drewN {w0 w : World} {O N : Nat} {st : StateD} {x : StA} {now nw : Int} {q : ReqD} {so : StateD} {xo : StA} (h : NxAt w0 w O N st x now nw q so xo) : NxAt w0 w.drew O N st x now nw q so xo :=
 ⟨h.below.drew, h.s, h.q, h.r, h.o, h.n, h.at_.drew, h.ao.drew, h.os, h.ns, h.ne⟩
theorem rnext_1 (q : ReqD) (st : StateD) (x : StA) (now : Int) (w : World) (hS : StAt w w.heap.size st x) (h1 : x.nj ≤ 1000) (h2 : x.nn ≤ 1000) (h3 : x.nl ≤ 1000) (hok : ROk q) (HRq : ∀ W, Calls Tryz.prog 123 #[reqA q] W (ErrPost 0 W)) (hq : q.kind = 1) :
 Calls Tryz.prog 39 #[.agg (srvC st x now), reqA q] w (RNxPost (checkE (stPutJ st q.job), stPutJ st q.job, now) w) := by
 obtain ⟨q1, q2, q3, q4⟩ := three_blk w (srvC st x now) (reqC q) zSta (ta := 36) (tb := 44) (tc := 26)
 obtain ⟨W0, hW0⟩ : ∃ W0, ((w.alloc (.cells (srvC st x now) 36)).alloc (.cells (reqC q) 44)).alloc (.cells zSta 26) = W0 := ⟨_, rfl⟩
 rw [hW0] at q1 q2 q3 q4
 have H0 : NxP w st x now q 0 ⟨none, none⟩ W0.drew := ⟨q4.drew, q1, q2, q3, (hS.upS q4).drew, fun O h => (by cases h), fun N h => (by cases h), fun O N h => (by cases h)⟩
 have HRq := hid HRq
 have Hq := hid hq
 clear hq
 have HW0 := hid hW0
 clear q1 q2 q3 q4 hS hW0
 unfold reqA
 unfold srvC reqC at HW0 ⊢
 go_enter Tryz.func39, Tryz.ntmps39
 go_wp2_with fail
 rw [HW0.out]
 clear HW0
 refine rq 184 (nxV w.heap.size st x now) [6, 7] (NxP w st x now q) ⟨none, none⟩ H0 ?_ ?_
 · clear H0
   refine ⟨?_, ?_, ?_, ?_, ?_, ?_, ?_, ?_, trivial⟩
   · exact ok0 0 2 2 rfl fun _ => rfl
   · refine okQ 0 2 fun p γ a wx _ _ hp hk => ?_
     obtain ⟨u1, h1, rfl⟩ := hk.g 0 13 rfl rfl
     obtain ⟨hc0, hc1, hc2, hc3⟩ := Blk.c4 (hp.s)
     simp [go_sem, Oper.wp, execOp, Act.eval, h1, hc0, hc1, hc2, hc3]
     exact ⟨_, rfl, γ, fun _ _ _ h => h, rfl, hp⟩
   · exact ok0 0 2 2 rfl fun _ => rfl
   · refine okQ 0 2 fun p γ a wx _ _ hp hk => ?_
     obtain ⟨u1, h1, rfl⟩ := hk.g 2 15 rfl rfl
     have hc4 : wx.cell? ⟨w.heap.size, 4, none⟩ = some (.int .i64 now) := hp.s.cell 4
     simp [go_sem, Oper.wp, execOp, Act.eval, h1, hc4]
     exact ⟨_, rfl, γ, fun _ _ _ h => h, rfl, hp⟩
   · refine okQ 0 0 fun p γ a wx _ _ hp hk => ?_
     obtain rfl : p = 0 := by omega
     simp [go_sem, Oper.wp, execOp, Act.eval]
     exact ⟨_, rfl, ⟨some wx.heap.size, γ.N⟩, nxV_4 _, ⟨_, rfl, rfl⟩, hp.allocO⟩
   · refine okQ 0 0 fun p γ a wx _ _ hp hk => ?_
     obtain rfl : p = 0 := by omega
     simp [go_sem, Oper.wp, execOp, Act.eval]
     exact ⟨_, rfl, ⟨γ.O, some wx.heap.size⟩, nxV_5 _, ⟨_, rfl, rfl⟩, hp.allocN⟩
   · refine .inl ⟨0, rfl, fun γ a wx hp hk => wantWp_free rfl ?_⟩
     obtain ⟨u1, h1, r1⟩ := hk.g 4 7 rfl rfl
     obtain ⟨u2, h2, rfl⟩ := hk.g 1 14 rfl rfl
     obtain ⟨O, eO, r1⟩ := (show ∃ O, γ.O = some O ∧ u1 = .pointer (some ⟨O, 0, none⟩) from r1)
     subst r1
     have hB : Blk wx O 26 zSta := (hp.o O eO).2
     obtain ⟨z0, z1, z2, z3⟩ := Blk.z4 (hB)
     obtain ⟨c0, c1, c2, c3⟩ := Blk.c4 (hB)
     obtain ⟨hb4, hg4⟩ := Blk.S4 hB (.int .i64 st.rev) (.slice x.aj x.nj x.cj) (.slice x.an x.nn x.cn) (.slice x.al x.nl x.cl)
     have hfin := hp.setO eO hg4 hb4
     clear hB hp
     simp [go_sem, Oper.wp, execOp, Act.eval, h1, h2, c0, c1, c2, c3, z0, z1, z2, z3]
     exact ⟨.int .i64 0, γ, fun _ _ _ h => h, trivial, hfin⟩
   · refine .inl ⟨1, rfl, fun γ a wx hp hk => wantWp_free rfl ?_⟩
     obtain ⟨u1, h1, r1⟩ := hk.g 5 8 rfl rfl
     obtain ⟨u2, h2, rfl⟩ := hk.g 3 16 rfl rfl
     obtain ⟨N, eN, r1⟩ := (show ∃ N, γ.N = some N ∧ u1 = .pointer (some ⟨N, 0, none⟩) from r1)
     subst r1
     have hB : Blk wx N 3 #[.int .i64 0] := (hp.n N eN).2
     have z0 : wx.frozen? ⟨N, 0, none⟩ = false := hB.thaw 0
     have c0 : wx.cell? ⟨N, 0, none⟩ = some (.int .i64 0) := hB.cell 0
     have hfin := hp.setN eN (grow_set wx N 0 (.int .i64 now)) (Blk.eq (hB.set 0 (.int .i64 now)) rfl)
     clear hB hp
     simp [go_sem, Oper.wp, execOp, Act.eval, h1, h2, c0, z0]
     exact ⟨.int .i64 0, γ, fun _ _ _ h => h, trivial, hfin⟩
 intro γ act wx hd
 have hp := hd.ph
 obtain ⟨fv, rfl, hfv⟩ := hd.frame [13, 14, 15, 16, 7, 8] rfl
 obtain ⟨O, eO, f7⟩ := (show ∃ O, γ.O = some O ∧ fv 7 = .pointer (some ⟨O, 0, none⟩) from hfv 4 _ 7 rfl rfl)
 obtain ⟨N, eN, f8⟩ := (show ∃ N, γ.N = some N ∧ fv 8 = .pointer (some ⟨N, 0, none⟩) from hfv 5 _ 8 rfl rfl)
 have HN := hid (show NxAt w wx O N st x now now q st x from ⟨hp.below, hp.s, hp.q, hp.r, (hp.o O eO).2, (hp.n N eN).2, hp.at_, hp.at_, (hp.o O eO).1, (hp.n N eN).1, hp.ne O N eO eN⟩)
 clear hd hfv hp H0 eO eN
 simp only [foldl_cons, foldl_nil, setIfInBounds_toArray, set_cons_succ, set_cons_zero, f7, f8]
 clear f7 f8
 obtain ⟨c0, c1, c2, c3, c4, c5, c6, c7, c8, c9, c10, c11, c12, c13⟩ := Blk.c14 (HN.out.q)
 have HC := hid (show Calls Tryz.prog 123 #[.agg (reqL q)] wx (ErrPost 0 wx) from HRq.out wx)
 have hlq := HN.out.q.lt
 clear HRq
 go_wp2_with fail
 refine Calls.mono HC.out ?_
 rintro e w1 ⟨rfl, hb1⟩
 have HN := hid (HN.out.kept hb1)
 have hlq := HN.out.q.lt
 have hls := HN.out.s.lt
 have hlo := HN.out.o.lt
 have hln := HN.out.n.lt
 clear hb1 HC c0 c1 c2 c3 c4 c5 c6 c7 c8 c9 c10 c11 c12 c13
 have c0 : w1.cell? ⟨w.heap.size + 1, 0, none⟩ = some (.int .i64 1) := by rw [HN.out.q.cell 0, ← Hq.out]; rfl
 have c1 : w1.cell? ⟨w.heap.size + 1, 1, none⟩ = some (.string q.job.name) := HN.out.q.cell 1
 have c2 : w1.cell? ⟨w.heap.size + 1, 2, none⟩ = some (.int .i64 q.job.prio) := HN.out.q.cell 2
 have c3 : w1.cell? ⟨w.heap.size + 1, 3, none⟩ = some (.int .i64 q.job.need) := HN.out.q.cell 3
 have c4 : w1.cell? ⟨w.heap.size + 1, 4, none⟩ = some (.int .i64 q.job.tries) := HN.out.q.cell 4
 have c5 : w1.cell? ⟨w.heap.size + 1, 5, none⟩ = some (.string q.job.tag) := HN.out.q.cell 5
 have s1 : w1.cell? ⟨w.heap.size, 1, none⟩ = some (.slice x.aj x.nj x.cj) := HN.out.s.cell 1
 have HP := hid (show Calls Tryz.prog 60 #[.slice x.aj x.nj x.cj, .agg #[.string q.job.name, .int .i64 q.job.prio, .int .i64 q.job.need, .int .i64 q.job.tries, .string q.job.tag], .func (.func 61) #[] #[]] w1 _ from rput_job q.job st.jobs x.aj x.nj x.cj w1 HN.out.at_.j HN.out.at_.lj h1)
 go_wp2_with fail
 refine Calls.mono HP.out ?_
 rintro e w2 ⟨A, c, rfl, ho, hb2⟩
 obtain ⟨so, hso⟩ : ∃ so, stPutJ st q.job = so := ⟨_, rfl⟩
 obtain ⟨m, hm⟩ : ∃ m, (putK JobD.name st.jobs q.job).length = m := ⟨_, rfl⟩
 have hmb : m ≤ 1001 := by
  have h := putFrom_len JobD.name q.job st.jobs false
  have h2 := HN.out.at_.lj
  rw [← hm]
  unfold putK
  simp only [Bool.false_eq_true, if_false] at h
  omega
 have hN2 := HN.out.kept hb2
 rw [hm] at ho ⊢
 have H3 := hid (show NxAt w (w2.setCell ⟨O, 1, none⟩ (.slice A m c)) O N st x now now q so ⟨A, m, c, x.an, x.nn, x.cn, x.al, x.nl, x.cl⟩ from by
  rw [← hso]
  exact hN2.setO 1 _ rfl (hN2.ao.withJ c (own_slAt ho) hm (by omega) (fun z hz => by
   rcases putK_mem hz with rfl | hz
   · exact ⟨hok.j1, hok.j2⟩
   · exact hN2.at_.oj z hz)))
 have o1 : w2.cell? ⟨O, 1, none⟩ = some (.slice x.aj x.nj x.cj) := hN2.o.cell 1
 have z1 : w2.frozen? ⟨O, 1, none⟩ = false := hN2.o.thaw 1
 have hlo := hN2.o.lt
 obtain ⟨xo, hxo⟩ : ∃ xo : StA, ⟨A, m, c, x.an, x.nn, x.cn, x.al, x.nl, x.cl⟩ = xo := ⟨_, rfl⟩
 rw [hxo] at H3
 have Hso := hid hso
 clear hxo hso hm ho hb2 hN2 HP HN c0 c1 c2 c3 c4 c5 s1
 go_wp2_with fail
 obtain ⟨w3, hw3⟩ : ∃ w3, w2.setCell ⟨O, 1, none⟩ (.slice A m c) = w3 := ⟨_, rfl⟩
 rw [hw3] at H3 ⊢
 clear hw3
 obtain ⟨E, hE⟩ : ∃ E, checkE so = E := ⟨_, rfl⟩
 have HE := hid (show Value.int .i64 (checkE so) = Value.int .i64 E from by rw [hE])
 have HE2 := hid hE
 clear hE
 refine rq (Γ := Unit) 184 (fun _ => nxEV so xo now E) [3, 4] (fun p _ => nxE w O N st x now now q so xo p) () (show NxAt w (w3).drew O N st x now now q so xo from H3.out.drewN) ?_ ?_
 · clear H3
   refine ⟨?_, ?_, ?_, ?_, ?_, ?_, ?_, trivial⟩
   · refine okQ 0 1 fun p γ a wx _ _ hp hk => ?_
     have h1 := hk.k 7 rfl
     have hp := (show NxAt w wx O N st x now now q so xo from nxE_lt (by omega) hp)
     obtain ⟨hc0, hc1, hc2, hc3⟩ := Blk.c4 (hp.o)
     simp [go_sem, Oper.wp, execOp, Act.eval, h1, hc0, hc1, hc2, hc3]
     exact ⟨_, rfl, rfl, nxE_mk (by omega) hp⟩
   · refine okQ 0 2 fun p γ a wx _ _ hp hk => ?_
     have h1 := hk.k 8 rfl
     have hc0 : wx.cell? ⟨N, 0, none⟩ = some (.int .i64 now) := (nxE_n hp).cell 0
     simp [go_sem, Oper.wp, execOp, Act.eval, h1, hc0]
     exact ⟨_, rfl, rfl, hp⟩
   · refine okQ 0 0 fun p γ a wx _ _ hp hk => ?_
     have h1 := hk.k 7 rfl
     have hp := (show NxAt w wx O N st x now now q so xo from nxE_lt (by omega) hp)
     obtain ⟨hc0, hc1, hc2, hc3⟩ := Blk.c4 (hp.o)
     simp [go_sem, Oper.wp, execOp, Act.eval, h1, hc0, hc1, hc2, hc3]
     exact ⟨_, rfl, rfl, nxE_mk (by omega) hp⟩
   · refine .inl ⟨0, rfl, fun γ a wx hp hk => wantWp_free rfl ?_⟩
     obtain ⟨u1, h1, rfl⟩ := hk.g 2 182 rfl rfl
     simp [go_sem, Oper.wp, execOp, Act.eval, h1]
     have hp := (show NxAt w wx O N st x now now q so xo from hp)
     refine (rcheck_any so xo wx hp.ao).mono ?_
     rintro e w' ⟨rfl, hb⟩
     exact ⟨_, rfl, HE.out, hp.kept hb⟩
   · refine .inl ⟨1, rfl, fun γ a wx hp hk => wantWp_free rfl ?_⟩
     have h1 := hk.k 4 rfl
     obtain ⟨u2, h2, rfl⟩ := hk.g 0 180 rfl rfl
     have hp := (show NxAt w wx O N st x now now q so xo from hp)
     have hB := hp.r
     obtain ⟨z0, z1, z2, z3⟩ := Blk.z4 (hB)
     obtain ⟨c0, c1, c2, c3⟩ := Blk.c4 (hB)
     obtain ⟨hb4, hg4⟩ := Blk.S4 hB (.int .i64 so.rev) (.slice xo.aj xo.nj xo.cj) (.slice xo.an xo.nn xo.cn) (.slice xo.al xo.nl xo.cl)
     have hfin : nxE w O N st x now now q so xo 2 _ := ⟨wx, hp, hg4, hb4⟩
     clear hB hp
     simp [go_sem, Oper.wp, execOp, Act.eval, h1, h2, c0, c1, c2, c3, z0, z1, z2, z3]
     exact ⟨⟨.int .i64 0, trivial⟩, hfin⟩
   · exact ok1 2 2 1 181 rfl rfl (fun _ _ h => h) fun _ => rfl
   · exact ok1 2 2 3 183 rfl rfl (fun _ _ h => h) fun _ => rfl
 intro γ act wz hd
 obtain ⟨wm, hm, hg, hr⟩ := (show ∃ wm, NxAt w wm O N st x now now q so xo ∧ wm.grownBy wz (some (w.heap.size + 2)) ∧ Blk wz (w.heap.size + 2) 26 (stC so xo) from hd.ph)
 obtain ⟨fv, rfl, hfv⟩ := hd.frame [180, 181, 182, 183, 5, 6] rfl
 have f5 : fv 5 = .int .i64 now := hfv 5 _ 5 rfl rfl
 have f6 : fv 6 = .int .i64 E := hfv 6 _ 6 rfl rfl
 obtain ⟨y0, y1, y2, y3⟩ := Blk.c4 (hr)
 have Hend := hid (hm.end_ hg E)
 clear hd hfv hm hg hr H3
 simp only [foldl_cons, foldl_nil, setIfInBounds_toArray, set_cons_succ, set_cons_zero, f5, f6]
 clear f5 f6
 go_wp2
 refine bodyPost_ret (v := .tuple #[.agg (stC so xo), .int .i64 now, .int .i64 E]) (by simp [results, Tryz.results39, go_sem, stC, *]) rfl ?_
 rw [Hso.out, HE2.out]
 exact Hend.out
theorem rnext_2 (q : ReqD) (st : StateD) (x : StA) (now : Int) (w : World) (hS : StAt w w.heap.size st x) (h1 : x.nj ≤ 1000) (h2 : x.nn ≤ 1000) (h3 : x.nl ≤ 1000) (hok : ROk q) (HRq : ∀ W, Calls Tryz.prog 123 #[reqA q] W (ErrPost 0 W)) (hq : q.kind = 2) :
 Calls Tryz.prog 39 #[.agg (srvC st x now), reqA q] w (RNxPost (checkE (stPutN st q.node), stPutN st q.node, now) w) := by
 obtain ⟨q1, q2, q3, q4⟩ := three_blk w (srvC st x now) (reqC q) zSta (ta := 36) (tb := 44) (tc := 26)
 obtain ⟨W0, hW0⟩ : ∃ W0, ((w.alloc (.cells (srvC st x now) 36)).alloc (.cells (reqC q) 44)).alloc (.cells zSta 26) = W0 := ⟨_, rfl⟩
 rw [hW0] at q1 q2 q3 q4
 have H0 : NxP w st x now q 0 ⟨none, none⟩ W0.drew := ⟨q4.drew, q1, q2, q3, (hS.upS q4).drew, fun O h => (by cases h), fun N h => (by cases h), fun O N h => (by cases h)⟩
 have HRq := hid HRq
 have Hq := hid hq
 clear hq
 have HW0 := hid hW0
 clear q1 q2 q3 q4 hS hW0
 unfold reqA
 unfold srvC reqC at HW0 ⊢
 go_enter Tryz.func39, Tryz.ntmps39
 go_wp2_with fail
 rw [HW0.out]
 clear HW0
 refine rq 184 (nxV w.heap.size st x now) [6, 7] (NxP w st x now q) ⟨none, none⟩ H0 ?_ ?_
 · clear H0
   refine ⟨?_, ?_, ?_, ?_, ?_, ?_, ?_, ?_, trivial⟩
   · exact ok0 0 2 2 rfl fun _ => rfl
   · refine okQ 0 2 fun p γ a wx _ _ hp hk => ?_
     obtain ⟨u1, h1, rfl⟩ := hk.g 0 13 rfl rfl
     obtain ⟨hc0, hc1, hc2, hc3⟩ := Blk.c4 (hp.s)
     simp [go_sem, Oper.wp, execOp, Act.eval, h1, hc0, hc1, hc2, hc3]
     exact ⟨_, rfl, γ, fun _ _ _ h => h, rfl, hp⟩
   · exact ok0 0 2 2 rfl fun _ => rfl
   · refine okQ 0 2 fun p γ a wx _ _ hp hk => ?_
     obtain ⟨u1, h1, rfl⟩ := hk.g 2 15 rfl rfl
     have hc4 : wx.cell? ⟨w.heap.size, 4, none⟩ = some (.int .i64 now) := hp.s.cell 4
     simp [go_sem, Oper.wp, execOp, Act.eval, h1, hc4]
     exact ⟨_, rfl, γ, fun _ _ _ h => h, rfl, hp⟩
   · refine okQ 0 0 fun p γ a wx _ _ hp hk => ?_
     obtain rfl : p = 0 := by omega
     simp [go_sem, Oper.wp, execOp, Act.eval]
     exact ⟨_, rfl, ⟨some wx.heap.size, γ.N⟩, nxV_4 _, ⟨_, rfl, rfl⟩, hp.allocO⟩
   · refine okQ 0 0 fun p γ a wx _ _ hp hk => ?_
     obtain rfl : p = 0 := by omega
     simp [go_sem, Oper.wp, execOp, Act.eval]
     exact ⟨_, rfl, ⟨γ.O, some wx.heap.size⟩, nxV_5 _, ⟨_, rfl, rfl⟩, hp.allocN⟩
   · refine .inl ⟨0, rfl, fun γ a wx hp hk => wantWp_free rfl ?_⟩
     obtain ⟨u1, h1, r1⟩ := hk.g 4 7 rfl rfl
     obtain ⟨u2, h2, rfl⟩ := hk.g 1 14 rfl rfl
     obtain ⟨O, eO, r1⟩ := (show ∃ O, γ.O = some O ∧ u1 = .pointer (some ⟨O, 0, none⟩) from r1)
     subst r1
     have hB : Blk wx O 26 zSta := (hp.o O eO).2
     obtain ⟨z0, z1, z2, z3⟩ := Blk.z4 (hB)
     obtain ⟨c0, c1, c2, c3⟩ := Blk.c4 (hB)
     obtain ⟨hb4, hg4⟩ := Blk.S4 hB (.int .i64 st.rev) (.slice x.aj x.nj x.cj) (.slice x.an x.nn x.cn) (.slice x.al x.nl x.cl)
     have hfin := hp.setO eO hg4 hb4
     clear hB hp
     simp [go_sem, Oper.wp, execOp, Act.eval, h1, h2, c0, c1, c2, c3, z0, z1, z2, z3]
     exact ⟨.int .i64 0, γ, fun _ _ _ h => h, trivial, hfin⟩
   · refine .inl ⟨1, rfl, fun γ a wx hp hk => wantWp_free rfl ?_⟩
     obtain ⟨u1, h1, r1⟩ := hk.g 5 8 rfl rfl
     obtain ⟨u2, h2, rfl⟩ := hk.g 3 16 rfl rfl
     obtain ⟨N, eN, r1⟩ := (show ∃ N, γ.N = some N ∧ u1 = .pointer (some ⟨N, 0, none⟩) from r1)
     subst r1
     have hB : Blk wx N 3 #[.int .i64 0] := (hp.n N eN).2
     have z0 : wx.frozen? ⟨N, 0, none⟩ = false := hB.thaw 0
     have c0 : wx.cell? ⟨N, 0, none⟩ = some (.int .i64 0) := hB.cell 0
     have hfin := hp.setN eN (grow_set wx N 0 (.int .i64 now)) (Blk.eq (hB.set 0 (.int .i64 now)) rfl)
     clear hB hp
     simp [go_sem, Oper.wp, execOp, Act.eval, h1, h2, c0, z0]
     exact ⟨.int .i64 0, γ, fun _ _ _ h => h, trivial, hfin⟩
 intro γ act wx hd
 have hp := hd.ph
 obtain ⟨fv, rfl, hfv⟩ := hd.frame [13, 14, 15, 16, 7, 8] rfl
 obtain ⟨O, eO, f7⟩ := (show ∃ O, γ.O = some O ∧ fv 7 = .pointer (some ⟨O, 0, none⟩) from hfv 4 _ 7 rfl rfl)
 obtain ⟨N, eN, f8⟩ := (show ∃ N, γ.N = some N ∧ fv 8 = .pointer (some ⟨N, 0, none⟩) from hfv 5 _ 8 rfl rfl)
 have HN := hid (show NxAt w wx O N st x now now q st x from ⟨hp.below, hp.s, hp.q, hp.r, (hp.o O eO).2, (hp.n N eN).2, hp.at_, hp.at_, (hp.o O eO).1, (hp.n N eN).1, hp.ne O N eO eN⟩)
 clear hd hfv hp H0 eO eN
 simp only [foldl_cons, foldl_nil, setIfInBounds_toArray, set_cons_succ, set_cons_zero, f7, f8]
 clear f7 f8
 obtain ⟨c0, c1, c2, c3, c4, c5, c6, c7, c8, c9, c10, c11, c12, c13⟩ := Blk.c14 (HN.out.q)
 have HC := hid (show Calls Tryz.prog 123 #[.agg (reqL q)] wx (ErrPost 0 wx) from HRq.out wx)
 have hlq := HN.out.q.lt
 clear HRq
 go_wp2_with fail
 refine Calls.mono HC.out ?_
 rintro e w1 ⟨rfl, hb1⟩
 have HN := hid (HN.out.kept hb1)
 have hlq := HN.out.q.lt
 have hls := HN.out.s.lt
 have hlo := HN.out.o.lt
 have hln := HN.out.n.lt
 clear hb1 HC c0 c1 c2 c3 c4 c5 c6 c7 c8 c9 c10 c11 c12 c13
 have c0 : w1.cell? ⟨w.heap.size + 1, 0, none⟩ = some (.int .i64 2) := by rw [HN.out.q.cell 0, ← Hq.out]; rfl
 have c6 : w1.cell? ⟨w.heap.size + 1, 6, none⟩ = some (.string q.node.name) := HN.out.q.cell 6
 have c7 : w1.cell? ⟨w.heap.size + 1, 7, none⟩ = some (.int .i64 q.node.room) := HN.out.q.cell 7
 have c8 : w1.cell? ⟨w.heap.size + 1, 8, none⟩ = some (.string q.node.zone) := HN.out.q.cell 8
 have s2 : w1.cell? ⟨w.heap.size, 2, none⟩ = some (.slice x.an x.nn x.cn) := HN.out.s.cell 2
 have HP := hid (show Calls Tryz.prog 62 #[.slice x.an x.nn x.cn, .agg #[.string q.node.name, .int .i64 q.node.room, .string q.node.zone], .func (.func 63) #[] #[]] w1 _ from rput_node q.node st.nodes x.an x.nn x.cn w1 HN.out.at_.n HN.out.at_.ln h2)
 go_wp2_with fail
 refine Calls.mono HP.out ?_
 rintro e w2 ⟨A, c, rfl, ho, hb2⟩
 obtain ⟨so, hso⟩ : ∃ so, stPutN st q.node = so := ⟨_, rfl⟩
 obtain ⟨m, hm⟩ : ∃ m, (putK NodeD.name st.nodes q.node).length = m := ⟨_, rfl⟩
 have hmb : m ≤ 1001 := by
  have h := putFrom_len NodeD.name q.node st.nodes false
  have h2 := HN.out.at_.ln
  rw [← hm]
  unfold putK
  simp only [Bool.false_eq_true, if_false] at h
  omega
 have hN2 := HN.out.kept hb2
 rw [hm] at ho ⊢
 have H3 := hid (show NxAt w (w2.setCell ⟨O, 2, none⟩ (.slice A m c)) O N st x now now q so ⟨x.aj, x.nj, x.cj, A, m, c, x.al, x.nl, x.cl⟩ from by
  rw [← hso]
  exact hN2.setO 2 _ rfl (hN2.ao.withN c (own_slAt ho) hm (by omega) (fun z hz => by
   rcases putK_mem hz with rfl | hz
   · exact ⟨hok.n1, hok.n2⟩
   · exact hN2.at_.on_ z hz)))
 have o2 : w2.cell? ⟨O, 2, none⟩ = some (.slice x.an x.nn x.cn) := hN2.o.cell 2
 have z2 : w2.frozen? ⟨O, 2, none⟩ = false := hN2.o.thaw 2
 have hlo := hN2.o.lt
 obtain ⟨xo, hxo⟩ : ∃ xo : StA, ⟨x.aj, x.nj, x.cj, A, m, c, x.al, x.nl, x.cl⟩ = xo := ⟨_, rfl⟩
 rw [hxo] at H3
 have Hso := hid hso
 clear hxo hso hm ho hb2 hN2 HP HN c0 c6 c7 c8 s2
 go_wp2_with fail
 obtain ⟨w3, hw3⟩ : ∃ w3, w2.setCell ⟨O, 2, none⟩ (.slice A m c) = w3 := ⟨_, rfl⟩
 rw [hw3] at H3 ⊢
 clear hw3
 obtain ⟨E, hE⟩ : ∃ E, checkE so = E := ⟨_, rfl⟩
 have HE := hid (show Value.int .i64 (checkE so) = Value.int .i64 E from by rw [hE])
 have HE2 := hid hE
 clear hE
 refine rq (Γ := Unit) 184 (fun _ => nxEV so xo now E) [3, 4] (fun p _ => nxE w O N st x now now q so xo p) () (show NxAt w (w3).drew O N st x now now q so xo from H3.out.drewN) ?_ ?_
 · clear H3
   refine ⟨?_, ?_, ?_, ?_, ?_, ?_, ?_, trivial⟩
   · refine okQ 0 1 fun p γ a wx _ _ hp hk => ?_
     have h1 := hk.k 7 rfl
     have hp := (show NxAt w wx O N st x now now q so xo from nxE_lt (by omega) hp)
     obtain ⟨hc0, hc1, hc2, hc3⟩ := Blk.c4 (hp.o)
     simp [go_sem, Oper.wp, execOp, Act.eval, h1, hc0, hc1, hc2, hc3]
     exact ⟨_, rfl, rfl, nxE_mk (by omega) hp⟩
   · refine okQ 0 2 fun p γ a wx _ _ hp hk => ?_
     have h1 := hk.k 8 rfl
     have hc0 : wx.cell? ⟨N, 0, none⟩ = some (.int .i64 now) := (nxE_n hp).cell 0
     simp [go_sem, Oper.wp, execOp, Act.eval, h1, hc0]
     exact ⟨_, rfl, rfl, hp⟩
   · refine okQ 0 0 fun p γ a wx _ _ hp hk => ?_
     have h1 := hk.k 7 rfl
     have hp := (show NxAt w wx O N st x now now q so xo from nxE_lt (by omega) hp)
     obtain ⟨hc0, hc1, hc2, hc3⟩ := Blk.c4 (hp.o)
     simp [go_sem, Oper.wp, execOp, Act.eval, h1, hc0, hc1, hc2, hc3]
     exact ⟨_, rfl, rfl, nxE_mk (by omega) hp⟩
   · refine .inl ⟨0, rfl, fun γ a wx hp hk => wantWp_free rfl ?_⟩
     obtain ⟨u1, h1, rfl⟩ := hk.g 2 182 rfl rfl
     simp [go_sem, Oper.wp, execOp, Act.eval, h1]
     have hp := (show NxAt w wx O N st x now now q so xo from hp)
     refine (rcheck_any so xo wx hp.ao).mono ?_
     rintro e w' ⟨rfl, hb⟩
     exact ⟨_, rfl, HE.out, hp.kept hb⟩
   · refine .inl ⟨1, rfl, fun γ a wx hp hk => wantWp_free rfl ?_⟩
     have h1 := hk.k 4 rfl
     obtain ⟨u2, h2, rfl⟩ := hk.g 0 180 rfl rfl
     have hp := (show NxAt w wx O N st x now now q so xo from hp)
     have hB := hp.r
     obtain ⟨z0, z1, z2, z3⟩ := Blk.z4 (hB)
     obtain ⟨c0, c1, c2, c3⟩ := Blk.c4 (hB)
     obtain ⟨hb4, hg4⟩ := Blk.S4 hB (.int .i64 so.rev) (.slice xo.aj xo.nj xo.cj) (.slice xo.an xo.nn xo.cn) (.slice xo.al xo.nl xo.cl)
     have hfin : nxE w O N st x now now q so xo 2 _ := ⟨wx, hp, hg4, hb4⟩
     clear hB hp
     simp [go_sem, Oper.wp, execOp, Act.eval, h1, h2, c0, c1, c2, c3, z0, z1, z2, z3]
     exact ⟨⟨.int .i64 0, trivial⟩, hfin⟩
   · exact ok1 2 2 1 181 rfl rfl (fun _ _ h => h) fun _ => rfl
   · exact ok1 2 2 3 183 rfl rfl (fun _ _ h => h) fun _ => rfl
 intro γ act wz hd
 obtain ⟨wm, hm, hg, hr⟩ := (show ∃ wm, NxAt w wm O N st x now now q so xo ∧ wm.grownBy wz (some (w.heap.size + 2)) ∧ Blk wz (w.heap.size + 2) 26 (stC so xo) from hd.ph)
 obtain ⟨fv, rfl, hfv⟩ := hd.frame [180, 181, 182, 183, 5, 6] rfl
 have f5 : fv 5 = .int .i64 now := hfv 5 _ 5 rfl rfl
 have f6 : fv 6 = .int .i64 E := hfv 6 _ 6 rfl rfl
 obtain ⟨y0, y1, y2, y3⟩ := Blk.c4 (hr)
 have Hend := hid (hm.end_ hg E)
 clear hd hfv hm hg hr H3
 simp only [foldl_cons, foldl_nil, setIfInBounds_toArray, set_cons_succ, set_cons_zero, f5, f6]
 clear f5 f6
 go_wp2
 refine bodyPost_ret (v := .tuple #[.agg (stC so xo), .int .i64 now, .int .i64 E]) (by simp [results, Tryz.results39, go_sem, stC, *]) rfl ?_
 rw [Hso.out, HE2.out]
 exact Hend.out
end Go.Proofs.YtjgnnobccecpeaaGreatDoor
