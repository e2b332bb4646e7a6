/- Of the proof of a statement: Blk, Pk, PlRdF, PlTextR, Zig, Put, PlQuote. -/
import Derived.Lib.QuietBelow
import Derived.Lib.ValidLaws
import Derived.Test.YtcpgnjmaampglaaGreatDoorRows
import Derived.Test.YtcpgnjmaampglaaGreatDoorWPlChk
set_option linter.unusedVariables false
set_option linter.unusedSimpArgs false
set_option maxRecDepth 100000
set_option maxHeartbeats 8000000
/- Blocks that are known whole; worlds that keep all blocks but one. -/
namespace Go.Proofs.YtcpgnjmaampglaaGreatDoor
open Go.Lib (hid)
open Go.RowKit
open Go.Lib (validD)
def Blk (w:World) (g:Nat) (t:TypeId) (cs:Array Value):Prop:=w.heap[g]? = some (.cells cs t (0,0))
theorem Blk.below {w w':World} {g B:Nat} {t:TypeId} {cs:Array Value} (h:Blk w g t cs) (hb:Below B w w') (hg:g<B):Blk w' g t cs:=(hb.block g hg).trans h
theorem Blk.lt {w:World} {g:Nat} {t:TypeId} {cs:Array Value} (h:Blk w g t cs):g<w.heap.size:=by
 rcases Nat.lt_or_ge g w.heap.size with h1 | h1
 · exact h1
 · unfold Blk at h; rw [Array.getElem?_eq_none h1] at h; cases h
theorem Blk.cell {w:World} {g:Nat} {t:TypeId} {cs:Array Value} (h:Blk w g t cs) (i:Nat):w.cell? ⟨g,i,none⟩=cs[i]?:=cell_of_row w g i cs t (0,0) h
theorem Blk.thaw {w:World} {g:Nat} {t:TypeId} {cs:Array Value} (h:Blk w g t cs) (i:Nat):w.frozen? ⟨g,i,none⟩=false:=by unfold Blk at h; simp [World.frozen?,h]
theorem Blk.set {w:World} {g:Nat} {t:TypeId} {cs:Array Value} (h:Blk w g t cs) (i:Nat) (v:Value):Blk (w.setCell ⟨g,i,none⟩ v) g t (cs.setIfInBounds i v):=by
 unfold Blk at h ⊢
 simp [World.setCell,Array.getElem?_modify,h]
theorem Blk.alloc {w:World} {g:Nat} {t:TypeId} {cs:Array Value} (h:Blk w g t cs) (o:Obj):Blk (w.alloc o) g t cs:=h.below ((Below.refl w.heap.size w).alloc (Nat.le_refl _) o) h.lt
theorem Blk.eq {w:World} {g:Nat} {t:TypeId} {cs cs':Array Value} (h:Blk w g t cs) (e:cs=cs'):Blk w g t cs':=e ▸ h
section
variable {w a b:World} {g:Nat}
theorem eX (h:w.grownBy a (some g)) (hb:Below a.heap.size a b):w.grownBy b (some g):=
 ⟨hb.os.trans h.os,hb.tape.trans h.tape,hb.output.trans h.output,Nat.le_trans h.size hb.size,fun k hk hne=>(hb.block k (Nat.lt_of_lt_of_le hk h.size)).trans (h.block k hk hne)⟩
theorem aO (h:w.grownBy a (some g)) (i:Nat) (v:Value):w.grownBy (a.setCell ⟨g,i,none⟩ v) (some g):=
 ⟨h.os,h.tape,h.output,by have:=h.size; simp [World.setCell]; omega,fun k hk hne=>(Below.heap_setCell a ⟨g,i,none⟩ v k (fun e=>hne (by rw [e]))).trans (h.block k hk hne)⟩
theorem iN {v v':Value} (h:w.grownBy a (some g)) (hg:dE a b v v') (hv:∀ k,v.ownBlock=some k→w.heap.size≤k):w.grownBy b (some g):=
 ⟨hg.grown.os.trans h.os,hg.grown.tape.trans h.tape,hg.grown.output.trans h.output,Nat.le_trans h.size hg.grown.size,fun k hk hne=>
  (hg.grown.block k (Nat.lt_of_lt_of_le hk h.size) (fun e=>by have:=hv k e.symm; omega)).trans (h.block k hk hne)⟩
theorem Blk.grew {v v':Value} {t:TypeId} {cs:Array Value} (h:Blk a g t cs) (hg:dE a b v v') (hv:∀ k,v.ownBlock=some k→g<k):Blk b g t cs:=
 (hg.grown.block g h.lt (fun e=>by have:=hv g e.symm; omega)).trans h
end
section
variable {w:World} {g:Nat} {t:TypeId} {l r:List Value} {a0 a1 a2 a3 a4 a5 a6 a7 a8 a9 b0 b1 b2 b3:Value}
theorem Blk.g0 (w:World) (g:Nat):w.grownBy w (some g):=⟨rfl,rfl,rfl,Nat.le_refl _,fun _ _ _=>rfl⟩
theorem Blk.ci (h:Blk w g t (List.toArray l)) (i:Nat):w.cell? ⟨g,i,none⟩=l[i]?:=by rw [h.cell i]; simp
theorem Blk.c2 (h:Blk w g t (List.toArray (a0 :: a1 :: r))):w.cell? ⟨g,0,none⟩=some a0∧w.cell? ⟨g,1,none⟩=some a1:=⟨h.ci 0,h.ci 1⟩
theorem Blk.c4 (h:Blk w g t (List.toArray (a0 :: a1 :: a2 :: a3 :: r))):w.cell? ⟨g,0,none⟩=some a0∧w.cell? ⟨g,1,none⟩=some a1∧w.cell? ⟨g,2,none⟩=some a2∧w.cell? ⟨g,3,none⟩=some a3:=⟨h.ci 0,h.ci 1,h.ci 2,h.ci 3⟩
theorem Blk.c5 (h:Blk w g t (List.toArray (a0 :: a1 :: a2 :: a3 :: a4 :: r))):w.cell? ⟨g,0,none⟩=some a0∧w.cell? ⟨g,1,none⟩=some a1∧w.cell? ⟨g,2,none⟩=some a2∧w.cell? ⟨g,3,none⟩=some a3∧w.cell? ⟨g,4,none⟩=some a4:=⟨h.ci 0,h.ci 1,h.ci 2,h.ci 3,h.ci 4⟩
theorem Blk.c8 (h:Blk w g t (List.toArray (a0 :: a1 :: a2 :: a3 :: a4 :: a5 :: a6 :: a7 :: r))):w.cell? ⟨g,0,none⟩=some a0∧w.cell? ⟨g,1,none⟩=some a1∧w.cell? ⟨g,2,none⟩=some a2∧w.cell? ⟨g,3,none⟩=some a3∧w.cell? ⟨g,4,none⟩=some a4∧w.cell? ⟨g,5,none⟩=some a5∧w.cell? ⟨g,6,none⟩=some a6∧w.cell? ⟨g,7,none⟩=some a7:=⟨h.ci 0,h.ci 1,h.ci 2,h.ci 3,h.ci 4,h.ci 5,h.ci 6,h.ci 7⟩
theorem Blk.c14 (h:Blk w g t (List.toArray (a0 :: a1 :: a2 :: a3 :: a4 :: a5 :: a6 :: a7 :: a8 :: a9 :: b0 :: b1 :: b2 :: b3 :: r))):w.cell? ⟨g,0,none⟩=some a0∧w.cell? ⟨g,1,none⟩=some a1∧w.cell? ⟨g,2,none⟩=some a2∧w.cell? ⟨g,3,none⟩=some a3∧w.cell? ⟨g,4,none⟩=some a4∧w.cell? ⟨g,5,none⟩=some a5∧w.cell? ⟨g,6,none⟩=some a6∧w.cell? ⟨g,7,none⟩=some a7 ∧
 w.cell? ⟨g,8,none⟩=some a8∧w.cell? ⟨g,9,none⟩=some a9∧w.cell? ⟨g,10,none⟩=some b0∧w.cell? ⟨g,11,none⟩=some b1∧w.cell? ⟨g,12,none⟩=some b2∧w.cell? ⟨g,13,none⟩=some b3:=⟨h.ci 0,h.ci 1,h.ci 2,h.ci 3,h.ci 4,h.ci 5,h.ci 6,h.ci 7,h.ci 8,h.ci 9,h.ci 10,h.ci 11,h.ci 12,h.ci 13⟩
theorem Blk.z2 (h:Blk w g t (List.toArray l)):w.frozen? ⟨g,0,none⟩=false∧w.frozen? ⟨g,1,none⟩=false:=⟨h.thaw 0,h.thaw 1⟩
theorem Blk.z4 (h:Blk w g t (List.toArray l)):w.frozen? ⟨g,0,none⟩=false∧w.frozen? ⟨g,1,none⟩=false∧w.frozen? ⟨g,2,none⟩=false∧w.frozen? ⟨g,3,none⟩=false:=⟨h.thaw 0,h.thaw 1,h.thaw 2,h.thaw 3⟩
theorem Blk.z8 (h:Blk w g t (List.toArray l)):w.frozen? ⟨g,0,none⟩=false∧w.frozen? ⟨g,1,none⟩=false∧w.frozen? ⟨g,2,none⟩=false∧w.frozen? ⟨g,3,none⟩=false∧w.frozen? ⟨g,4,none⟩=false∧w.frozen? ⟨g,5,none⟩=false∧w.frozen? ⟨g,6,none⟩=false∧w.frozen? ⟨g,7,none⟩=false:=⟨h.thaw 0,h.thaw 1,h.thaw 2,h.thaw 3,h.thaw 4,h.thaw 5,h.thaw 6,h.thaw 7⟩
theorem Blk.z14 (h:Blk w g t (List.toArray l)):w.frozen? ⟨g,0,none⟩=false∧w.frozen? ⟨g,1,none⟩=false∧w.frozen? ⟨g,2,none⟩=false∧w.frozen? ⟨g,3,none⟩=false∧w.frozen? ⟨g,4,none⟩=false∧w.frozen? ⟨g,5,none⟩=false∧w.frozen? ⟨g,6,none⟩=false∧w.frozen? ⟨g,7,none⟩=false∧w.frozen? ⟨g,8,none⟩=false∧w.frozen? ⟨g,9,none⟩=false∧w.frozen? ⟨g,10,none⟩=false∧w.frozen? ⟨g,11,none⟩=false∧w.frozen? ⟨g,12,none⟩=false∧w.frozen? ⟨g,13,none⟩=false:=⟨h.thaw 0,h.thaw 1,h.thaw 2,h.thaw 3,h.thaw 4,h.thaw 5,h.thaw 6,h.thaw 7,h.thaw 8,h.thaw 9,h.thaw 10,h.thaw 11,h.thaw 12,h.thaw 13⟩
theorem Blk.r4 (h:Blk w g t (List.toArray (a0 :: a1 :: a2 :: a3 :: r))):(∀ d os,(Sort.grow (redrawn w d) os).cell? ⟨g,0,none⟩=some a0)∧(∀ d os,(Sort.grow (redrawn w d) os).cell? ⟨g,1,none⟩=some a1)∧(∀ d os,(Sort.grow (redrawn w d) os).cell? ⟨g,2,none⟩=some a2)∧∀ d os,(Sort.grow (redrawn w d) os).cell? ⟨g,3,none⟩=some a3:=
 ⟨fun d os=>cell_regrown (h.ci 0) d os,fun d os=>cell_regrown (h.ci 1) d os,fun d os=>cell_regrown (h.ci 2) d os,fun d os=>cell_regrown (h.ci 3) d os⟩
theorem Blk.r5 (h:Blk w g t (List.toArray (a0 :: a1 :: a2 :: a3 :: a4 :: r))):(∀ d os,(Sort.grow (redrawn w d) os).cell? ⟨g,0,none⟩=some a0)∧(∀ d os,(Sort.grow (redrawn w d) os).cell? ⟨g,1,none⟩=some a1)∧(∀ d os,(Sort.grow (redrawn w d) os).cell? ⟨g,2,none⟩=some a2)∧(∀ d os,(Sort.grow (redrawn w d) os).cell? ⟨g,3,none⟩=some a3)∧∀ d os,(Sort.grow (redrawn w d) os).cell? ⟨g,4,none⟩=some a4:=
 ⟨fun d os=>cell_regrown (h.ci 0) d os,fun d os=>cell_regrown (h.ci 1) d os,fun d os=>cell_regrown (h.ci 2) d os,fun d os=>cell_regrown (h.ci 3) d os,fun d os=>cell_regrown (h.ci 4) d os⟩
theorem Blk.S2 (h:Blk w g t (List.toArray (a0 :: a1 :: r))) (v0 v1:Value):Blk ((w.setCell ⟨g,0,none⟩ v0).setCell ⟨g,1,none⟩ v1) g t (List.toArray (v0 :: v1 :: r))∧w.grownBy ((w.setCell ⟨g,0,none⟩ v0).setCell ⟨g,1,none⟩ v1) (some g):=
 ⟨Blk.eq ((h.set 0 v0).set 1 v1) (by simp),aO (aO (Blk.g0 w g) 0 v0) 1 v1⟩
theorem Blk.S4 (h:Blk w g t (List.toArray (a0 :: a1 :: a2 :: a3 :: r))) (v0 v1 v2 v3:Value):Blk ((((w.setCell ⟨g,0,none⟩ v0).setCell ⟨g,1,none⟩ v1).setCell ⟨g,2,none⟩ v2).setCell ⟨g,3,none⟩ v3) g t (List.toArray (v0 :: v1 :: v2 :: v3 :: r))∧w.grownBy ((((w.setCell ⟨g,0,none⟩ v0).setCell ⟨g,1,none⟩ v1).setCell ⟨g,2,none⟩ v2).setCell ⟨g,3,none⟩ v3) (some g):=
 ⟨Blk.eq ((((h.set 0 v0).set 1 v1).set 2 v2).set 3 v3) (by simp),aO (aO (aO (aO (Blk.g0 w g) 0 v0) 1 v1) 2 v2) 3 v3⟩
theorem Blk.S8 (h:Blk w g t (List.toArray (a0 :: a1 :: a2 :: a3 :: a4 :: a5 :: a6 :: a7 :: r))) (v0 v1 v2 v3 v4 v5 v6 v7:Value):Blk ((((((((w.setCell ⟨g,0,none⟩ v0).setCell ⟨g,1,none⟩ v1).setCell ⟨g,2,none⟩ v2).setCell ⟨g,3,none⟩ v3).setCell ⟨g,4,none⟩ v4).setCell ⟨g,5,none⟩ v5).setCell ⟨g,6,none⟩ v6).setCell ⟨g,7,none⟩ v7) g t (List.toArray (v0 :: v1 :: v2 :: v3 :: v4 :: v5 :: v6 :: v7 :: r))∧w.grownBy ((((((((w.setCell ⟨g,0,none⟩ v0).setCell ⟨g,1,none⟩ v1).setCell ⟨g,2,none⟩ v2).setCell ⟨g,3,none⟩ v3).setCell ⟨g,4,none⟩ v4).setCell ⟨g,5,none⟩ v5).setCell ⟨g,6,none⟩ v6).setCell ⟨g,7,none⟩ v7) (some g):=by
 obtain⟨h1,g1⟩:=h.S4 v0 v1 v2 v3
 exact⟨Blk.eq ((((h1.set 4 v4).set 5 v5).set 6 v6).set 7 v7) (by simp),aO (aO (aO (aO g1 4 v4) 5 v5) 6 v6) 7 v7⟩
theorem rc3 {b o:Nat} (h:∀ j u,(a0 :: a1 :: a2 :: r)[j]? = some u→w.cell? ⟨b,o+j,none⟩=some u):w.cell? ⟨b,o,none⟩=some a0∧w.cell? ⟨b,o+1,none⟩=some a1∧w.cell? ⟨b,o+2,none⟩=some a2:=⟨h 0 _ rfl,h 1 _ rfl,h 2 _ rfl⟩
theorem rc5 {b o:Nat} (h:∀ j u,(a0 :: a1 :: a2 :: a3 :: a4 :: r)[j]? = some u→w.cell? ⟨b,o+j,none⟩=some u):w.cell? ⟨b,o,none⟩=some a0∧w.cell? ⟨b,o+1,none⟩=some a1∧w.cell? ⟨b,o+2,none⟩=some a2∧w.cell? ⟨b,o+3,none⟩=some a3∧w.cell? ⟨b,o+4,none⟩=some a4:=⟨h 0 _ rfl,h 1 _ rfl,h 2 _ rfl,h 3 _ rfl,h 4 _ rfl⟩
theorem rc14 {b o:Nat} (h:∀ j u,(a0 :: a1 :: a2 :: a3 :: a4 :: a5 :: a6 :: a7 :: a8 :: a9 :: b0 :: b1 :: b2 :: b3 :: r)[j]? = some u→w.cell? ⟨b,o+j,none⟩=some u):w.cell? ⟨b,o,none⟩=some a0∧w.cell? ⟨b,o+1,none⟩=some a1∧w.cell? ⟨b,o+2,none⟩=some a2∧w.cell? ⟨b,o+3,none⟩=some a3∧w.cell? ⟨b,o+4,none⟩=some a4∧w.cell? ⟨b,o+5,none⟩=some a5∧w.cell? ⟨b,o+6,none⟩=some a6∧w.cell? ⟨b,o+7,none⟩=some a7 ∧
 w.cell? ⟨b,o+8,none⟩=some a8∧w.cell? ⟨b,o+9,none⟩=some a9∧w.cell? ⟨b,o+10,none⟩=some b0∧w.cell? ⟨b,o+11,none⟩=some b1∧w.cell? ⟨b,o+12,none⟩=some b2∧w.cell? ⟨b,o+13,none⟩=some b3:=⟨h 0 _ rfl,h 1 _ rfl,h 2 _ rfl,h 3 _ rfl,h 4 _ rfl,h 5 _ rfl,h 6 _ rfl,h 7 _ rfl,h 8 _ rfl,h 9 _ rfl,h 10 _ rfl,h 11 _ rfl,h 12 _ rfl,h 13 _ rfl⟩
end
abbrev nQ:Array Value:=#[.int .i64 0,.int .i64 0,.slice none 0 0,.slice none 0 0,.slice none 0 0,.slice none 0 0,.slice none 0 0,.slice none 0 0]
abbrev iT:Array Value:=#[.int .i64 0,.slice none 0 0,.slice none 0 0,.slice none 0 0]
theorem BN (s:ByteArray):∀ (f k acc:Nat),f+k=10→k≤s.size→acc<128 ^ k→∀ a n e,rdB s f k acc=(a,n,e)→a<18446744073709551616∧n≤10∧e≤4∧(e=0→1≤n∧n≤s.size)
 | 0,k,acc,_,_,_,a,n,e,h=>by
  simp only [rdB,Prod.mk.injEq] at h
  omega
 | f+1,k,acc,hf,hk,ha,a,n,e,h=>by
  rw [rdB] at h
  by_cases hs:k<s.size
  · rw [dif_pos hs] at h
    have hc:s[k].toNat<256:=s[k].toNat_lt
    by_cases hb:(k=9∧1<s[k].toNat)∨(0<k∧s[k].toNat=0)
    · rw [if_pos hb] at h
      simp only [Prod.mk.injEq] at h
      omega
    · rw [if_neg hb] at h
      obtain⟨_,h2,h3⟩:=Id (k:=k) (acc:=acc) (c:=s[k].toNat) (by omega) hc (by omega) ha
      by_cases h1:s[k].toNat<128
      · rw [if_pos h1] at h
        simp only [Prod.mk.injEq] at h
        obtain⟨rfl,rfl,rfl⟩:=h
        exact⟨h3,by omega,by omega,fun _=>⟨by omega,by omega⟩⟩
      · rw [if_neg h1] at h
        exact BN s f (k+1) _ (by omega) (by omega) h2 a n e h
  · rw [dif_neg hs] at h
    simp only [Prod.mk.injEq] at h
    omega
theorem jG {s:ByteArray} {a n e:Nat} (h:rdNum s=(a,n,e)):a<18446744073709551616∧n≤10∧e≤4∧(e=0→1≤n∧n≤s.size):=
 BN s 10 0 0 rfl (Nat.zero_le _) (by decide) a n e h
def mh (s:ByteArray):ByteArray × Nat × Nat:=
 match rdNum s with
 | (n,k,e)=>
  if e=0 then
   if 16<n then (⟨#[]⟩,0,2)
   else if s.size<k+n then (⟨#[]⟩,0,3)
   else if validD (s.extract k (k+n)).data.toList=true then (s.extract k (k+n),k+n,0)
   else (⟨#[]⟩,0,4)
  else (⟨#[]⟩,0,e)
variable {s:ByteArray} {n k e:Nat}
theorem Dv (h:rdNum s=(n,k,e)) (he:e≠0):mh s=(⟨#[]⟩,0,e):=by unfold mh; rw [h]; simp only; rw [if_neg he]
theorem yI (h:rdNum s=(n,k,0)) (hn:16<n):mh s=(⟨#[]⟩,0,2):=by unfold mh; rw [h]; simp only; rw [if_pos trivial,if_pos hn]
theorem yJ (h:rdNum s=(n,k,0)) (hn:¬ 16<n) (hl:s.size<k+n):mh s=(⟨#[]⟩,0,3):=by unfold mh; rw [h]; simp only; rw [if_pos trivial,if_neg hn,if_pos hl]
theorem Co (h:rdNum s=(n,k,0)) (hn:¬ 16<n) (hl:¬ s.size<k+n) (hv:validD (s.extract k (k+n)).data.toList=true):mh s=(s.extract k (k+n),k+n,0):=by unfold mh; rw [h]; simp only; rw [if_pos trivial,if_neg hn,if_neg hl,if_pos hv]
theorem Bh (h:rdNum s=(n,k,0)) (hn:¬ 16<n) (hl:¬ s.size<k+n) (hv:validD (s.extract k (k+n)).data.toList=false):mh s=(⟨#[]⟩,0,4):=by unfold mh; rw [h]; simp only; rw [if_pos trivial,if_neg hn,if_neg hl,if_neg (by rw [hv]; simp)]
theorem N0 (n:Int) (h : -9223372036854775808≤n) (h':n≤9223372036854775807) (w:World) :
 Calls Tryz.prog 170 #[.int .i64 n] w fun e w'=>e = .returned (.int .u64 (pq n))∧w=w':=by
 have hx:=hid (N1 n h h')
 go_enter Tryz.func170,Tryz.ntmps170
 go_wp2
 go_ret
 exact⟨bU hx.out,rfl⟩
theorem N2 (n:Int) (h:0≤n) (h':n<18446744073709551616) (w:World) :
 Calls Tryz.prog 133 #[.int .u64 n] w fun e w'=>e = .returned (.int .i64 (lO n))∧w=w':=by
 have hx:=hid (N3 n h h')
 go_enter Tryz.func133,Tryz.ntmps133
 go_wp2
 go_ret
 exact⟨bU hx.out,rfl⟩
def Iw (base:Nat) (A:Option Addr) (m c:Nat) (l:List UInt8) (w:World) (e:Ending) (w':World):Prop:=
 ∃ A' m' c',e = .returned (.slice A' m' c')∧w'.ownsRow base 5 1 (.slice A' m' c') m' (aF l)∧dE w w' (.slice A m c) (.slice A' m' c')
def Qh (base:Nat) (A:Option Addr) (m c:Nat) (l:List UInt8) (w:World) (v i:Value) (wr:World):Prop:=
 ∃ (A':Option Addr) (m' c':Nat) (k:Int) (l':List UInt8),v = .slice A' m' c'∧i = .int .u64 k∧0≤k∧k<18446744073709551616∧l=l' ++ bg k.toNat∧wr.ownsRow base 5 1 (.slice A' m' c') m' (aF l')∧dE w wr (.slice A m c) (.slice A' m' c')
theorem CP (base:Nat) (A:Option Addr) (m c:Nat) (l:List UInt8) (n:Int) (w:World) (h0:0≤n) (h1:n<18446744073709551616) (hown:w.ownsRow base 5 1 (.slice A m c) m (aF l)) (hm:m≤140737488355000) (hb:base≤w.heap.size) :
 Calls Tryz.prog 122 #[.slice A m c,.int .u64 n] w (Iw base A m c (l ++ bg n.toNat) w):=by
 go_enter Tryz.func122,Tryz.ntmps122
 go_wp2
 go_loopw [0,1] (fun v i wr=>Qh base A m c (l ++ bg n.toNat) w v i wr) (fun _ i _=>(intOf i).toNat)
 case atStart=>exact⟨A,m,c,n,l,rfl,rfl,h0,h1,rfl,hown,dE.refl _ _⟩
 case round=>
  obtain⟨A',m',c',k,l',rfl,rfl,hk0,hk,hl,ho,hg⟩:=hrel
  have hlen:m'≤m+11:=by
   have e1:=congrArg List.length hl
   have e2:l'.length=m':=by have:=ho.1; simpa [aF] using this
   have e3:l.length=m:=by have:=hown.1; simpa [aF] using this
   have:=dP n.toNat
   have:=dP k.toNat
   simp at e1; omega
  have Hl:=hid hl
  have Hm:=hid (show m'+1≤140737488355328 from by omega)
  have hbr:base≤wr.heap.size:=Nat.le_trans hb hg.grown.size
  clear hl hown hm hlen h0 h1
  by_cases hlt:128≤k
  · have hbt:=hid (LX k (by omega) (by omega))
    have hst:=hid (show bg k.toNat=UInt8.ofNat (k.toNat % 128+128) :: bg (k / 128).toNat from by
     rw [JI (by omega) (by omega),show k.toNat / 128=(k / 128).toNat from by omega])
    go_wp2_with (at_builtin; refine gC rfl _ _ rfl base _ _ _ _ rfl ho _ (UInt8.ofNat (k.toNat % 128+128)) hbt.out rfl Hm.out hbr ?_; intro A2 c2 w2 ho2 hg2)
    go_roundw
    case rel=>exact⟨A2,m'+1,c2,k / 128,l' ++ [UInt8.ofNat (k.toNat % 128+128)],rfl,rfl,by omega,by omega,by rw [Hl.out,hst.out]; simp,ho2,hg.trans hg2⟩
    case measure=>simp [intOf]; omega
  · have hbt:=hid (show k=(((UInt8.ofNat k.toNat).toNat:Nat):Int) from by rw [UInt8.toNat_ofNat']; omega)
    have hst:=hid (show bg k.toNat=[UInt8.ofNat k.toNat] from sK (by omega))
    go_wp2_with (at_builtin; refine gC rfl _ _ rfl base _ _ _ _ rfl ho _ (UInt8.ofNat k.toNat) hbt.out rfl Hm.out hbr ?_; intro A2 c2 w2 ho2 hg2)
    go_ret
    exact⟨A2,m'+1,c2,rfl,by rw [Hl.out,hst.out]; exact ho2,hg.trans hg2⟩
def N4 (n:Nat) (w:World) (e:Ending) (w':World):Prop:=e = .returned (.string ⟨(bg n).toArray⟩)∧Below w.heap.size w w'
theorem yL (n:Int) (w:World) (h0:0≤n) (h1:n<18446744073709551616) :
 Calls Tryz.prog 73 #[.int .u64 n] w (N4 n.toNat w):=by
 go_enter Tryz.func73,Tryz.ntmps73
 go_wp2_with fail
 refine Calls.mono (CP w.heap.size none 0 0 [] n w h0 h1 (World.ownsRow_nil _ _ _ _) (by omega) (Nat.le_refl _)) ?_
 rintro e w' ⟨A',m',c',rfl,ho,hg⟩
 have hb:Below w.heap.size w w':=hg.below (Nat.le_refl _) (fun g h=>by simp [Value.ownBlock] at h)
 have hrun:=cN Tryz.underlying118 Tryz.underlying5 Tryz.underlying9 ho
 clear ho hg
 go_wp2
 go_ret
 exact⟨rfl,hb⟩
def zW (n:Nat):UInt8:=UInt8.ofNat (if n<10 then 48+n else 87+n)
def gI (c:UInt8):List UInt8:=if c=34∨c=92 then [92,c] else if c<32 then [92,117,48,48,zW (c.toNat / 16),zW (c.toNat % 16)] else [c]
def lZ (l:List UInt8):List UInt8:=34 :: l.flatMap gI
def aV (l:List UInt8):List UInt8:=lZ l ++ [34]
theorem EA (l:List UInt8) (c:UInt8):lZ (l ++ [c])=lZ l ++ gI c:=by simp [lZ]
theorem Gu (c:UInt8):(gI c).length≤6:=by unfold gI; split <;> (try split) <;> simp
theorem tB:∀ l:List UInt8,(lZ l).length≤6*l.length+1
 | []=>by simp [lZ]
 | c :: l=>by
  have h1:=tB l
  have h2:=Gu c
  simp only [lZ,List.length_cons,List.flatMap_cons,List.length_append] at *
  omega
theorem zX {c:UInt8} (h:c.toNat=34∨c.toNat=92):gI c=[92,c]:=by
 unfold gI
 rw [if_pos]
 rcases h with h | h
 · exact .inl (UInt8.toNat_inj.1 h)
 · exact .inr (UInt8.toNat_inj.1 h)
theorem zY {c:UInt8} (h:c.toNat<32):gI c=[92,117,48,48,zW (c.toNat / 16),zW (c.toNat % 16)]:=by
 unfold gI
 rw [if_neg,if_pos (UInt8.lt_iff_toNat_lt.2 h)]
 rintro (rfl | rfl) <;> exact absurd h (by decide)
theorem uE {c:UInt8} (h1:c.toNat≠34) (h2:c.toNat≠92) (h3:¬ c.toNat<32):gI c=[c]:=by
 unfold gI
 rw [if_neg,if_neg (fun h=>h3 (UInt8.lt_iff_toNat_lt.1 h))]
 rintro (rfl | rfl)
 · exact h1 rfl
 · exact h2 rfl
def Gv:ByteArray:=⟨#[48,49,50,51,52,53,54,55,56,57,97,98,99,100,101,102]⟩
theorem N5:∀ n:Fin 16,(Gv.data.toList[n.val]?).map (·.toNat)=some (zW n.val).toNat:=by decide +kernel
theorem Gw (c:Nat) (hc:c<256):bits .and .u8 (c:Int) 15=((c % 16:Nat):Int):=by
 rw [show (15:Int)=((15:Nat):Int) from rfl,u8_and_nat c 15 hc (by omega),nat_mask4]
end Go.Proofs.YtcpgnjmaampglaaGreatDoor
