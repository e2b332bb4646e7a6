/- The walk of the reference's rowsBytes. -/
import Derived.Test.YtbbagnfmoecdfaaGreatDoorRBytes
import Derived.Test.YtbbagnfmoecdfaaGreatDoorWPut
set_option linter.unusedVariables false
set_option linter.unusedSimpArgs false
namespace Go.Proofs.YtbbagnfmoecdfaaGreatDoor
open Go.RowKit
/-- The rows so far are in the text. -/
def RBInv {α : Type} (enc : α → List UInt8) (xs : List α) (n : Nat) (P : List UInt8) (w : World) (s i : Value) (wr : World) : Prop :=
  ∃ (k : Nat) (S : ByteArray), k ≤ n ∧ i = .int .i64 k ∧ s = .string S ∧ S = bs (P ++ (xs.take k).flatMap enc) ∧ Below w.heap.size w wr
theorem take_len {α : Type} {enc : α → List UInt8} (h : ∀ x, (enc x).length ≤ 85) {xs : List α} {n : Nat} (hn : xs.length = n) (k : Nat) : ((xs.take k).flatMap enc).length ≤ 85 * n := by
  have h1 := flat_len h (xs.take k)
  have h2 : (xs.take k).length ≤ n := by rw [List.length_take]; omega
  omega
def rowsL (jobs : List JobD) (nodes : List NodeD) (leases : List LeaseD) (v : Int) : List UInt8 := putL (fun x => jobL x v) jobs ++ putL (fun x => nodeL x v) nodes ++ putL leaseL leases
set_option maxRecDepth 100000 in
set_option maxHeartbeats 4000000 in
theorem rrows_any (jobs : List JobD) (nodes : List NodeD) (leases : List LeaseD) (aj : Option Addr) (nj cj : Nat) (an : Option Addr) (nn cn : Nat) (al : Option Addr) (nl cl : Nat) (v : Int) (w : World)
    (hj : SlAt w w.heap.size 5 aj nj (rowsV jobV jobs)) (lj : jobs.length = nj) (bj : nj ≤ 1000) (wj : ∀ x ∈ jobs, JobW x)
    (hn : SlAt w w.heap.size 3 an nn (rowsV nodeV nodes)) (ln : nodes.length = nn) (bn : nn ≤ 1000) (wn : ∀ x ∈ nodes, NodeW x)
    (hl : SlAt w w.heap.size 3 al nl (rowsV leaseV leases)) (ll : leases.length = nl) (bl : nl ≤ 1000) (wl : ∀ x ∈ leases, LeaseW x)
    : Calls Tryz.prog 226 #[.slice aj nj cj, .slice an nn cn, .slice al nl cl, .int .i64 v] w (BsPost (rowsL jobs nodes leases v) w) := by
  have Hj := Lib.hid hj
  have Lj := Lib.hid lj
  have Wj := Lib.hid wj
  have Hn := Lib.hid hn
  have Ln := Lib.hid ln
  have Wn := Lib.hid wn
  have Hl := Lib.hid hl
  have Ll := Lib.hid ll
  have Wl := Lib.hid wl
  have Hfin := Lib.hid (show rowsL jobs nodes leases v = numL nj ++ (jobs.take nj).flatMap (fun x => jobL x v) ++ numL nn ++ (nodes.take nn).flatMap (fun x => nodeL x v) ++ numL nl ++ (leases.take nl).flatMap leaseL from by unfold rowsL putL; rw [← lj, ← ln, ← ll, List.take_length, List.take_length, List.take_length]; simp only [List.append_assoc])
  have Hfj := Lib.hid (take_len (enc := fun x => jobL x v) (fun x => jobL_len x v) lj)
  have Hfn := Lib.hid (take_len (enc := fun x => nodeL x v) (fun x => nodeL_len x v) ln)
  have Hfl := Lib.hid (take_len (enc := leaseL) leaseL_len ll)
  have Hqj := Lib.hid (numL_len nj)
  have HNj := Lib.hid (fun W => rnum_any (nj : Int) W (by omega))
  have Hqn := Lib.hid (numL_len nn)
  have HNn := Lib.hid (fun W => rnum_any (nn : Int) W (by omega))
  have Hql := Lib.hid (numL_len nl)
  have HNl := Lib.hid (fun W => rnum_any (nl : Int) W (by omega))
  clear hj lj wj hn ln wn hl ll wl
  go_enter Tryz.func226, Tryz.ntmps226
  go_wp2_with fail
  refine Calls.mono (HNj.out _) ?_
  rintro e v0 ⟨rfl, hb0⟩
  rw [show ((nj : Int)).toNat = nj from by omega]
  have Hv0 := Lib.hid hb0
  clear hb0
  have hT : (bs (numL nj)).size ≤ 17 := by rw [bs_size]; exact Hqj.out
  generalize hTT : bs (numL nj) = T0 at hT
  have HT0 := Lib.hid hTT
  clear hTT
  go_wp2
  go_loopw [9, 11, 21] (fun s _ i wr => RBInv (fun x => jobL x v) jobs nj (numL nj) w s i wr) (fun _ _ i _ => nj - (intOf i).toNat)
  case atStart => exact ⟨0, _, Nat.zero_le _, rfl, rfl, by rw [← HT0.out]; simp, Hv0.out⟩
  case round =>
    obtain ⟨k, S, hk, rfl, rfl, hS, hb⟩ := hrel
    have hSz : S.size ≤ 300000 := by rw [hS, bs_size]; simp only [List.length_append]; have q1 := Hqj.out; have q2 := Hfj.out k; omega
    have HS := Lib.hid hS
    have Hb := Lib.hid hb
    have hsz := hb.size
    clear hS
    by_cases hlt : k < nj
    · obtain ⟨x, hf⟩ : ∃ x, jobs[k]? = some x := ⟨_, List.getElem?_eq_getElem (by rw [Lj.out]; exact hlt)⟩
      obtain ⟨b, off, rfl, hbB, hc⟩ := (Hj.out.below hb).rec_ jobV_len Lj.out hf
      have hso := Lib.hid (Wj.out x (List.mem_of_getElem? hf))
      have Hst := Lib.hid (flat_step (fun x => jobL x v) hf)
      have hT : (bs ((fun x => jobL x v) x)).size ≤ 85 := by rw [bs_size]; exact (fun x => jobL_len x v) x
      generalize hTT : bs ((fun x => jobL x v) x) = T at hT
      have HTT := Lib.hid hTT
      obtain ⟨name, prio, need, tries, tag⟩ := x
      have c0 : wr.cell? ⟨b, off + k * 5, none⟩ = some (.string name) := hc 0 _ rfl
      have c1 : wr.cell? ⟨b, off + k * 5 + 1, none⟩ = some (.int .i64 prio) := hc 1 _ rfl
      have c2 : wr.cell? ⟨b, off + k * 5 + 2, none⟩ = some (.int .i64 need) := hc 2 _ rfl
      have c3 : wr.cell? ⟨b, off + k * 5 + 3, none⟩ = some (.int .i64 tries) := hc 3 _ rfl
      have c4 : wr.cell? ⟨b, off + k * 5 + 4, none⟩ = some (.string tag) := hc 4 _ rfl
      have hlb : b < wr.heap.size := by omega
      have Hba := Lib.hid (Hb.out.alloc Hb.out.size (.cells #[.string name, .int .i64 prio, .int .i64 need, .int .i64 tries, .string tag] 41))
      clear hc hf hb hTT
      go_wp2_with fail
      refine Calls.mono (rjob_any ⟨name, prio, need, tries, tag⟩ v _ hso.out) ?_
      rintro e w2 ⟨rfl, hb2⟩
      have htt := HTT.out
      rw [htt]
      have Hb2 := Lib.hid (Hba.out.trans (hb2.mono Hba.out.size))
      clear hb2 htt
      go_wp2
      go_roundw
      case rel => exact ⟨k + 1, S ++ T, by omega, by go_num, rfl, by rw [HS.out, ← HTT.out, bs_append, Hst.out, List.append_assoc], Hb2.out⟩
      case measure => simp [intOf]; omega
    · obtain rfl : nj = k := by omega
      have Hs := HS
      go_wp2_with fail
      refine Calls.mono (HNn.out _) ?_
      rintro e v1 ⟨rfl, hb1⟩
      rw [show ((nn : Int)).toNat = nn from by omega]
      have Hv1 := Lib.hid (Hb.out.trans (hb1.mono Hb.out.size))
      clear hb1
      have hT : (bs (numL nn)).size ≤ 17 := by rw [bs_size]; exact Hqn.out
      generalize hTT : bs (numL nn) = T1 at hT
      have HT1 := Lib.hid hTT
      clear hTT
      go_wp2
      go_loopw [9, 13, 38] (fun s _ i wr => RBInv (fun x => nodeL x v) nodes nn (numL nj ++ (jobs.take nj).flatMap (fun x => jobL x v) ++ numL nn) w s i wr) (fun _ _ i _ => nn - (intOf i).toNat)
      case atStart => exact ⟨0, _, Nat.zero_le _, rfl, rfl, by rw [← HT1.out, Hs.out, bs_append]; simp, Hv1.out⟩
      case round =>
        clear hb Hb Hs HS hSz hlt
        obtain ⟨k, S, hk, rfl, rfl, hS, hb⟩ := hrel
        have hSz : S.size ≤ 300000 := by rw [hS, bs_size]; simp only [List.length_append]; have q1 := Hqj.out; have q2 := Hfj.out nj; have q3 := Hqn.out; have q4 := Hfn.out k; omega
        have HS := Lib.hid hS
        have Hb := Lib.hid hb
        have hsz := hb.size
        clear hS
        by_cases hlt : k < nn
        · obtain ⟨x, hf⟩ : ∃ x, nodes[k]? = some x := ⟨_, List.getElem?_eq_getElem (by rw [Ln.out]; exact hlt)⟩
          obtain ⟨b, off, rfl, hbB, hc⟩ := (Hn.out.below hb).rec_ nodeV_len Ln.out hf
          have hso := Lib.hid (Wn.out x (List.mem_of_getElem? hf))
          have Hst := Lib.hid (flat_step (fun x => nodeL x v) hf)
          have hT : (bs ((fun x => nodeL x v) x)).size ≤ 85 := by rw [bs_size]; exact (fun x => nodeL_len x v) x
          generalize hTT : bs ((fun x => nodeL x v) x) = T at hT
          have HTT := Lib.hid hTT
          obtain ⟨name, room, zone⟩ := x
          have c0 : wr.cell? ⟨b, off + k * 3, none⟩ = some (.string name) := hc 0 _ rfl
          have c1 : wr.cell? ⟨b, off + k * 3 + 1, none⟩ = some (.int .i64 room) := hc 1 _ rfl
          have c2 : wr.cell? ⟨b, off + k * 3 + 2, none⟩ = some (.string zone) := hc 2 _ rfl
          have hlb : b < wr.heap.size := by omega
          have Hba := Lib.hid (Hb.out.alloc Hb.out.size (.cells #[.string name, .int .i64 room, .string zone] 43))
          clear hc hf hb hTT
          go_wp2_with fail
          refine Calls.mono (rnode_any ⟨name, room, zone⟩ v _ hso.out) ?_
          rintro e w2 ⟨rfl, hb2⟩
          have htt := HTT.out
          rw [htt]
          have Hb2 := Lib.hid (Hba.out.trans (hb2.mono Hba.out.size))
          clear hb2 htt
          go_wp2
          go_roundw
          case rel => exact ⟨k + 1, S ++ T, by omega, by go_num, rfl, by rw [HS.out, ← HTT.out, bs_append, Hst.out, List.append_assoc], Hb2.out⟩
          case measure => simp [intOf]; omega
        · obtain rfl : nn = k := by omega
          have Hs := HS
          go_wp2_with fail
          refine Calls.mono (HNl.out _) ?_
          rintro e v2 ⟨rfl, hb2⟩
          rw [show ((nl : Int)).toNat = nl from by omega]
          have Hv2 := Lib.hid (Hb.out.trans (hb2.mono Hb.out.size))
          clear hb2
          have hT : (bs (numL nl)).size ≤ 17 := by rw [bs_size]; exact Hql.out
          generalize hTT : bs (numL nl) = T2 at hT
          have HT2 := Lib.hid hTT
          clear hTT
          go_wp2
          go_loopw [9, 15, 55] (fun s _ i wr => RBInv leaseL leases nl (numL nj ++ (jobs.take nj).flatMap (fun x => jobL x v) ++ numL nn ++ (nodes.take nn).flatMap (fun x => nodeL x v) ++ numL nl) w s i wr) (fun _ _ i _ => nl - (intOf i).toNat)
          case atStart => exact ⟨0, _, Nat.zero_le _, rfl, rfl, by rw [← HT2.out, Hs.out, bs_append]; simp, Hv2.out⟩
          case round =>
            clear hb Hb Hs HS hSz hlt
            obtain ⟨k, S, hk, rfl, rfl, hS, hb⟩ := hrel
            have hSz : S.size ≤ 300000 := by rw [hS, bs_size]; simp only [List.length_append]; have q1 := Hqj.out; have q2 := Hfj.out nj; have q3 := Hqn.out; have q4 := Hfn.out nn; have q5 := Hql.out; have q6 := Hfl.out k; omega
            have HS := Lib.hid hS
            have Hb := Lib.hid hb
            have hsz := hb.size
            clear hS
            by_cases hlt : k < nl
            · obtain ⟨x, hf⟩ : ∃ x, leases[k]? = some x := ⟨_, List.getElem?_eq_getElem (by rw [Ll.out]; exact hlt)⟩
              obtain ⟨b, off, rfl, hbB, hc⟩ := (Hl.out.below hb).rec_ leaseV_len Ll.out hf
              have hso := Lib.hid (Wl.out x (List.mem_of_getElem? hf))
              have Hst := Lib.hid (flat_step leaseL hf)
              have hT : (bs (leaseL x)).size ≤ 85 := by rw [bs_size]; exact leaseL_len x
              generalize hTT : bs (leaseL x) = T at hT
              have HTT := Lib.hid hTT
              obtain ⟨job, node, till⟩ := x
              have c0 : wr.cell? ⟨b, off + k * 3, none⟩ = some (.string job) := hc 0 _ rfl
              have c1 : wr.cell? ⟨b, off + k * 3 + 1, none⟩ = some (.string node) := hc 1 _ rfl
              have c2 : wr.cell? ⟨b, off + k * 3 + 2, none⟩ = some (.int .i64 till) := hc 2 _ rfl
              have hlb : b < wr.heap.size := by omega
              have Hba := Lib.hid (Hb.out.alloc Hb.out.size (.cells #[.string job, .string node, .int .i64 till] 45))
              clear hc hf hb hTT
              go_wp2_with fail
              refine Calls.mono (rlease_any ⟨job, node, till⟩ _ hso.out) ?_
              rintro e w2 ⟨rfl, hb2⟩
              have htt := HTT.out
              rw [htt]
              have Hb2 := Lib.hid (Hba.out.trans (hb2.mono Hba.out.size))
              clear hb2 htt
              go_wp2
              go_roundw
              case rel => exact ⟨k + 1, S ++ T, by omega, by go_num, rfl, by rw [HS.out, ← HTT.out, bs_append, Hst.out, List.append_assoc], Hb2.out⟩
              case measure => simp [intOf]; omega
            · obtain rfl : nl = k := by omega
              go_wp2
              go_ret
              exact ⟨ret_str (by rw [Hfin.out]; exact HS.out), Hb.out⟩
end Go.Proofs.YtbbagnfmoecdfaaGreatDoor
