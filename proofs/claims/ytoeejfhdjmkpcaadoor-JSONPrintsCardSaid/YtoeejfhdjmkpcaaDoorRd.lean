/- The walks of ReadText and TextRead. The walks of a Reader. The walks of a Reader's rows: a job, a node, a lease. -/
import Derived.Test.YtoeejfhdjmkpcaaDoorTabs
import Derived.Test.YtoeejfhdjmkpcaaDoorUtf
import Derived.Test.YtoeejfhdjmkpcaaDoorReads
import Derived.Test.YtoeejfhdjmkpcaaDoorBase
set_option linter.unusedVariables false
set_option linter.unusedSimpArgs false
namespace Go.Proofs.YtoeejfhdjmkpcaaDoor
open Go.RowKit
open Go.Lib (validD)
def TrdPost (s : ByteArray) (w : World) (e : Ending) (w' : World) : Prop := e = .returned (.tuple #[.string (txtR s).1, .int .i64 ((txtR s).2.1 : Int), .int .i64 ((txtR s).2.2 : Int)]) ∧ Below w.heap.size w w'
theorem TrdPost.mk' {s a : ByteArray} {n e : Nat} {w w' : World} (h : txtR s = (a, n, e)) (hb : Below w.heap.size w w') : TrdPost s w (.returned (.tuple #[.string a, .int .i64 (n : Int), .int .i64 (e : Int)])) w' := ⟨by rw [h], hb⟩
end Go.Proofs.YtoeejfhdjmkpcaaDoor
namespace Go.Proofs.YtoeejfhdjmkpcaaDoor
open Go.RowKit
def RxMax : Nat := 9223372036854775807
theorem grow_refl (w : World) (g : Nat) : w.grownBy w (some g) := ⟨rfl, rfl, rfl, Nat.le_refl _, fun _ _ _ => rfl⟩
theorem grow_trans {w w' w'' : World} {g : Nat} (h : w.grownBy w' (some g)) (h' : w'.grownBy w'' (some g)) : w.grownBy w'' (some g) :=
  ⟨h'.os.trans h.os, h'.tape.trans h.tape, h'.output.trans h.output, Nat.le_trans h.size h'.size, fun k hk hne => (h'.block k (Nat.lt_of_lt_of_le hk h.size) hne).trans (h.block k hk hne)⟩
theorem grow_below {w w' : World} (g : Nat) (h : Below w.heap.size w w') : w.grownBy w' (some g) := ⟨h.os, h.tape, h.output, h.size, fun k hk _ => h.block k hk⟩
theorem grow_blk {w w' : World} {g k : Nat} {t : TypeId} {cs : Array Value} (h : w.grownBy w' (some g)) (hk : Blk w k t cs) (hne : k ≠ g) : Blk w' k t cs :=
  (h.block k hk.lt (by simp; exact hne)).trans hk
theorem grow_set (w : World) (g i : Nat) (v : Value) : w.grownBy (w.setCell ⟨g, i, none⟩ v) (some g) := bes_set (grow_refl w g) i v
theorem rxval_le {σ : RR Unit} {a : Nat} (h : RxVal (σ.bind fun _ s => numP s) (fun n => n = 0) a) : a ≤ 4611686018427387904 := by
  cases σ with
  | bad x => rw [RR.bind_bad] at h; have h : a = 0 := h; omega
  | ok u s =>
    rw [RR.bind_ok] at h
    cases hp : numP s with
    | bad x => rw [hp] at h; have h : a = 0 := h; omega
    | ok b r => rw [hp] at h; have h : a = b := h; have := numP_le hp; omega
end Go.Proofs.YtoeejfhdjmkpcaaDoor
namespace Go.Proofs.YtoeejfhdjmkpcaaDoor
open Go.RowKit
theorem Tabs.grow {w w' : World} {b : Nat} (h : Tabs w) (h3 : ren.g 3 ≠ b) (h4 : ren.g 4 ≠ b) (hg : w.grownBy w' (some b)) : Tabs w' := by
  have cell : ∀ {a : Addr} {v : Value}, a.block ≠ b → w.cell? a = some v → w'.cell? a = some v := fun {a v} hne hc => by
    have hlt : a.block < w.heap.size := by
      rcases Nat.lt_or_ge a.block w.heap.size with h' | h'
      · exact h'
      · simp [World.cell?, Array.getElem?_eq_none h'] at hc
    have := hg.block a.block hlt (by simp; exact hne)
    rw [← hc]
    unfold World.cell?
    rw [this]
  exact ⟨fun c hc => cell h3 (h.1 c hc), fun i hi => ⟨cell h4 (h.2 i hi).1, cell h4 (h.2 i hi).2⟩⟩
theorem Tabs.lts {w : World} (h : Tabs w) : ren.g 3 < w.heap.size ∧ ren.g 4 < w.heap.size := by
  have lt : ∀ {a : Addr} {v : Value}, w.cell? a = some v → a.block < w.heap.size := fun {a v} hc => by
    rcases Nat.lt_or_ge a.block w.heap.size with h' | h'
    · exact h'
    · simp [World.cell?, Array.getElem?_eq_none h'] at hc
  exact ⟨lt (h.1 0 (by decide)), lt (h.2 0 (by decide)).1⟩
theorem st_good {α : Type} {N : Nat} {σ : RR Unit} {p : ByteArray → RR α} (h : σ.Good N) (hp : ∀ s, s.size ≤ N → (p s).Good N) : (σ.bind fun _ s => p s).st.Good N :=
  (h.bind fun _ r hr => hp r hr).st
/-- Another block turned that the call had made. -/
theorem grow_other {w w' w'' : World} {g b : Nat} (h : w.grownBy w' (some g)) (hg : w'.grownBy w'' (some b)) (hb : w.heap.size ≤ b) : w.grownBy w'' (some g) :=
  ⟨hg.os.trans h.os, hg.tape.trans h.tape, hg.output.trans h.output, Nat.le_trans h.size hg.size, fun k hk hne => (hg.block k (Nat.lt_of_lt_of_le hk h.size) (by simp; omega)).trans (h.block k hk hne)⟩
theorem join_job_0 {σ : RR Unit} {v : Int} (h1 : ¬ 1 < v) (h2 : ¬ 2 < v) {name : ByteArray} {prio : Nat} {need : Nat} (e0 : RxVal (σ.bind fun _ s => textP s) (fun x => x = ⟨#[]⟩) name) (e1 : RxVal ((σ.bind fun _ s => textP s).st.bind fun _ s => numP s) (fun x => x = 0) prio) (e2 : RxVal (((σ.bind fun _ s => textP s).st.bind fun _ s => numP s).st.bind fun _ s => numP s) (fun x => x = 0) need) :
    RxVal (σ.bind fun _ s => jobP v s) (fun _ => True) (⟨name, zagZ prio, need, 0, ⟨#[]⟩⟩ : JobD) ∧ (σ.bind fun _ s => jobP v s).st = (((σ.bind fun _ s => textP s).st.bind fun _ s => numP s).st.bind fun _ s => numP s).st := by
  cases σ with
  | bad x => exact ⟨trivial, rfl⟩
  | ok u s =>
    unfold jobP
    simp only [if_neg h1]; simp only [if_neg h2]
    simp only [RR.bind_ok] at *
    rcases q0 : textP s with ⟨b0, r0⟩ | x
    rotate_left
    · simp only [q0, RR.st, RR.bind_bad, RR.bind_ok] at *; first | exact ⟨trivial, rfl⟩ | exact ⟨trivial, trivial⟩
    simp only [q0, RR.st, RR.bind_ok] at *
    have t0 : name = b0 := e0
    subst t0
    rcases q1 : numP r0 with ⟨b1, r1⟩ | x
    rotate_left
    · simp only [q1, RR.st, RR.bind_bad, RR.bind_ok] at *; first | exact ⟨trivial, rfl⟩ | exact ⟨trivial, trivial⟩
    simp only [q1, RR.st, RR.bind_ok] at *
    have t1 : prio = b1 := e1
    subst t1
    rcases q2 : numP r1 with ⟨b2, r2⟩ | x
    rotate_left
    · simp only [q2, RR.st, RR.bind_bad, RR.bind_ok] at *; first | exact ⟨trivial, rfl⟩ | exact ⟨trivial, trivial⟩
    simp only [q2, RR.st, RR.bind_ok] at *
    have t2 : need = b2 := e2
    subst t2
    first | exact ⟨rfl, rfl⟩ | exact ⟨rfl, trivial⟩
theorem join_job_1 {σ : RR Unit} {v : Int} (h1 : 1 < v) (h2 : ¬ 2 < v) {name : ByteArray} {prio : Nat} {need : Nat} {tries : Nat} (e0 : RxVal (σ.bind fun _ s => textP s) (fun x => x = ⟨#[]⟩) name) (e1 : RxVal ((σ.bind fun _ s => textP s).st.bind fun _ s => numP s) (fun x => x = 0) prio) (e2 : RxVal (((σ.bind fun _ s => textP s).st.bind fun _ s => numP s).st.bind fun _ s => numP s) (fun x => x = 0) need) (e3 : RxVal ((((σ.bind fun _ s => textP s).st.bind fun _ s => numP s).st.bind fun _ s => numP s).st.bind fun _ s => numP s) (fun x => x = 0) tries) :
    RxVal (σ.bind fun _ s => jobP v s) (fun _ => True) (⟨name, zagZ prio, need, tries, ⟨#[]⟩⟩ : JobD) ∧ (σ.bind fun _ s => jobP v s).st = ((((σ.bind fun _ s => textP s).st.bind fun _ s => numP s).st.bind fun _ s => numP s).st.bind fun _ s => numP s).st := by
  cases σ with
  | bad x => exact ⟨trivial, rfl⟩
  | ok u s =>
    unfold jobP
    simp only [if_pos h1]; simp only [if_neg h2]
    simp only [RR.bind_ok] at *
    rcases q0 : textP s with ⟨b0, r0⟩ | x
    rotate_left
    · simp only [q0, RR.st, RR.bind_bad, RR.bind_ok] at *; first | exact ⟨trivial, rfl⟩ | exact ⟨trivial, trivial⟩
    simp only [q0, RR.st, RR.bind_ok] at *
    have t0 : name = b0 := e0
    subst t0
    rcases q1 : numP r0 with ⟨b1, r1⟩ | x
    rotate_left
    · simp only [q1, RR.st, RR.bind_bad, RR.bind_ok] at *; first | exact ⟨trivial, rfl⟩ | exact ⟨trivial, trivial⟩
    simp only [q1, RR.st, RR.bind_ok] at *
    have t1 : prio = b1 := e1
    subst t1
    rcases q2 : numP r1 with ⟨b2, r2⟩ | x
    rotate_left
    · simp only [q2, RR.st, RR.bind_bad, RR.bind_ok] at *; first | exact ⟨trivial, rfl⟩ | exact ⟨trivial, trivial⟩
    simp only [q2, RR.st, RR.bind_ok] at *
    have t2 : need = b2 := e2
    subst t2
    rcases q3 : numP r2 with ⟨b3, r3⟩ | x
    rotate_left
    · simp only [q3, RR.st, RR.bind_bad, RR.bind_ok] at *; first | exact ⟨trivial, rfl⟩ | exact ⟨trivial, trivial⟩
    simp only [q3, RR.st, RR.bind_ok] at *
    have t3 : tries = b3 := e3
    subst t3
    first | exact ⟨rfl, rfl⟩ | exact ⟨rfl, trivial⟩
theorem join_job_2 {σ : RR Unit} {v : Int} (h1 : 1 < v) (h2 : 2 < v) {name : ByteArray} {prio : Nat} {need : Nat} {tries : Nat} {tag : ByteArray} (e0 : RxVal (σ.bind fun _ s => textP s) (fun x => x = ⟨#[]⟩) name) (e1 : RxVal ((σ.bind fun _ s => textP s).st.bind fun _ s => numP s) (fun x => x = 0) prio) (e2 : RxVal (((σ.bind fun _ s => textP s).st.bind fun _ s => numP s).st.bind fun _ s => numP s) (fun x => x = 0) need) (e3 : RxVal ((((σ.bind fun _ s => textP s).st.bind fun _ s => numP s).st.bind fun _ s => numP s).st.bind fun _ s => numP s) (fun x => x = 0) tries) (e4 : RxVal (((((σ.bind fun _ s => textP s).st.bind fun _ s => numP s).st.bind fun _ s => numP s).st.bind fun _ s => numP s).st.bind fun _ s => textP s) (fun x => x = ⟨#[]⟩) tag) :
    RxVal (σ.bind fun _ s => jobP v s) (fun _ => True) (⟨name, zagZ prio, need, tries, tag⟩ : JobD) ∧ (σ.bind fun _ s => jobP v s).st = (((((σ.bind fun _ s => textP s).st.bind fun _ s => numP s).st.bind fun _ s => numP s).st.bind fun _ s => numP s).st.bind fun _ s => textP s).st := by
  cases σ with
  | bad x => exact ⟨trivial, rfl⟩
  | ok u s =>
    unfold jobP
    simp only [if_pos h1]; simp only [if_pos h2]
    simp only [RR.bind_ok] at *
    rcases q0 : textP s with ⟨b0, r0⟩ | x
    rotate_left
    · simp only [q0, RR.st, RR.bind_bad, RR.bind_ok] at *; first | exact ⟨trivial, rfl⟩ | exact ⟨trivial, trivial⟩
    simp only [q0, RR.st, RR.bind_ok] at *
    have t0 : name = b0 := e0
    subst t0
    rcases q1 : numP r0 with ⟨b1, r1⟩ | x
    rotate_left
    · simp only [q1, RR.st, RR.bind_bad, RR.bind_ok] at *; first | exact ⟨trivial, rfl⟩ | exact ⟨trivial, trivial⟩
    simp only [q1, RR.st, RR.bind_ok] at *
    have t1 : prio = b1 := e1
    subst t1
    rcases q2 : numP r1 with ⟨b2, r2⟩ | x
    rotate_left
    · simp only [q2, RR.st, RR.bind_bad, RR.bind_ok] at *; first | exact ⟨trivial, rfl⟩ | exact ⟨trivial, trivial⟩
    simp only [q2, RR.st, RR.bind_ok] at *
    have t2 : need = b2 := e2
    subst t2
    rcases q3 : numP r2 with ⟨b3, r3⟩ | x
    rotate_left
    · simp only [q3, RR.st, RR.bind_bad, RR.bind_ok] at *; first | exact ⟨trivial, rfl⟩ | exact ⟨trivial, trivial⟩
    simp only [q3, RR.st, RR.bind_ok] at *
    have t3 : tries = b3 := e3
    subst t3
    rcases q4 : textP r3 with ⟨b4, r4⟩ | x
    rotate_left
    · simp only [q4, RR.st, RR.bind_bad, RR.bind_ok] at *; first | exact ⟨trivial, rfl⟩ | exact ⟨trivial, trivial⟩
    simp only [q4, RR.st, RR.bind_ok] at *
    have t4 : tag = b4 := e4
    subst t4
    first | exact ⟨rfl, rfl⟩ | exact ⟨rfl, trivial⟩
theorem join_node_0 {σ : RR Unit} {v : Int} (h1 : ¬ 1 < v) {name : ByteArray} {room : Nat} (e0 : RxVal (σ.bind fun _ s => textP s) (fun x => x = ⟨#[]⟩) name) (e1 : RxVal ((σ.bind fun _ s => textP s).st.bind fun _ s => numP s) (fun x => x = 0) room) :
    RxVal (σ.bind fun _ s => nodeP v s) (fun _ => True) (⟨name, room, ⟨#[]⟩⟩ : NodeD) ∧ (σ.bind fun _ s => nodeP v s).st = ((σ.bind fun _ s => textP s).st.bind fun _ s => numP s).st := by
  cases σ with
  | bad x => exact ⟨trivial, rfl⟩
  | ok u s =>
    unfold nodeP
    simp only [if_neg h1]
    simp only [RR.bind_ok] at *
    rcases q0 : textP s with ⟨b0, r0⟩ | x
    rotate_left
    · simp only [q0, RR.st, RR.bind_bad, RR.bind_ok] at *; first | exact ⟨trivial, rfl⟩ | exact ⟨trivial, trivial⟩
    simp only [q0, RR.st, RR.bind_ok] at *
    have t0 : name = b0 := e0
    subst t0
    rcases q1 : numP r0 with ⟨b1, r1⟩ | x
    rotate_left
    · simp only [q1, RR.st, RR.bind_bad, RR.bind_ok] at *; first | exact ⟨trivial, rfl⟩ | exact ⟨trivial, trivial⟩
    simp only [q1, RR.st, RR.bind_ok] at *
    have t1 : room = b1 := e1
    subst t1
    first | exact ⟨rfl, rfl⟩ | exact ⟨rfl, trivial⟩
theorem join_node_1 {σ : RR Unit} {v : Int} (h1 : 1 < v) {name : ByteArray} {room : Nat} {zone : ByteArray} (e0 : RxVal (σ.bind fun _ s => textP s) (fun x => x = ⟨#[]⟩) name) (e1 : RxVal ((σ.bind fun _ s => textP s).st.bind fun _ s => numP s) (fun x => x = 0) room) (e2 : RxVal (((σ.bind fun _ s => textP s).st.bind fun _ s => numP s).st.bind fun _ s => textP s) (fun x => x = ⟨#[]⟩) zone) :
    RxVal (σ.bind fun _ s => nodeP v s) (fun _ => True) (⟨name, room, zone⟩ : NodeD) ∧ (σ.bind fun _ s => nodeP v s).st = (((σ.bind fun _ s => textP s).st.bind fun _ s => numP s).st.bind fun _ s => textP s).st := by
  cases σ with
  | bad x => exact ⟨trivial, rfl⟩
  | ok u s =>
    unfold nodeP
    simp only [if_pos h1]
    simp only [RR.bind_ok] at *
    rcases q0 : textP s with ⟨b0, r0⟩ | x
    rotate_left
    · simp only [q0, RR.st, RR.bind_bad, RR.bind_ok] at *; first | exact ⟨trivial, rfl⟩ | exact ⟨trivial, trivial⟩
    simp only [q0, RR.st, RR.bind_ok] at *
    have t0 : name = b0 := e0
    subst t0
    rcases q1 : numP r0 with ⟨b1, r1⟩ | x
    rotate_left
    · simp only [q1, RR.st, RR.bind_bad, RR.bind_ok] at *; first | exact ⟨trivial, rfl⟩ | exact ⟨trivial, trivial⟩
    simp only [q1, RR.st, RR.bind_ok] at *
    have t1 : room = b1 := e1
    subst t1
    rcases q2 : textP r1 with ⟨b2, r2⟩ | x
    rotate_left
    · simp only [q2, RR.st, RR.bind_bad, RR.bind_ok] at *; first | exact ⟨trivial, rfl⟩ | exact ⟨trivial, trivial⟩
    simp only [q2, RR.st, RR.bind_ok] at *
    have t2 : zone = b2 := e2
    subst t2
    first | exact ⟨rfl, rfl⟩ | exact ⟨rfl, trivial⟩
theorem join_lease_9 {σ : RR Unit} {job : ByteArray} {node : ByteArray} {till : Nat} (e0 : RxVal (σ.bind fun _ s => textP s) (fun x => x = ⟨#[]⟩) job) (e1 : RxVal ((σ.bind fun _ s => textP s).st.bind fun _ s => textP s) (fun x => x = ⟨#[]⟩) node) (e2 : RxVal (((σ.bind fun _ s => textP s).st.bind fun _ s => textP s).st.bind fun _ s => numP s) (fun x => x = 0) till) :
    RxVal (σ.bind fun _ s => leaseP s) (fun _ => True) (⟨job, node, till⟩ : LeaseD) ∧ (σ.bind fun _ s => leaseP s).st = (((σ.bind fun _ s => textP s).st.bind fun _ s => textP s).st.bind fun _ s => numP s).st := by
  cases σ with
  | bad x => exact ⟨trivial, rfl⟩
  | ok u s =>
    unfold leaseP
    simp only [RR.bind_ok] at *
    rcases q0 : textP s with ⟨b0, r0⟩ | x
    rotate_left
    · simp only [q0, RR.st, RR.bind_bad, RR.bind_ok] at *; first | exact ⟨trivial, rfl⟩ | exact ⟨trivial, trivial⟩
    simp only [q0, RR.st, RR.bind_ok] at *
    have t0 : job = b0 := e0
    subst t0
    rcases q1 : textP r0 with ⟨b1, r1⟩ | x
    rotate_left
    · simp only [q1, RR.st, RR.bind_bad, RR.bind_ok] at *; first | exact ⟨trivial, rfl⟩ | exact ⟨trivial, trivial⟩
    simp only [q1, RR.st, RR.bind_ok] at *
    have t1 : node = b1 := e1
    subst t1
    rcases q2 : numP r1 with ⟨b2, r2⟩ | x
    rotate_left
    · simp only [q2, RR.st, RR.bind_bad, RR.bind_ok] at *; first | exact ⟨trivial, rfl⟩ | exact ⟨trivial, trivial⟩
    simp only [q2, RR.st, RR.bind_ok] at *
    have t2 : till = b2 := e2
    subst t2
    first | exact ⟨rfl, rfl⟩ | exact ⟨rfl, trivial⟩
end Go.Proofs.YtoeejfhdjmkpcaaDoor
