/- Of the proof of a statement: HasFL, Wri, Rq. -/
import Derived.Deep.RegionWith
import Derived.Lib.AppendStr
import Derived.Lib.QuietBelow
import Derived.Test.YtbllgmociapjeaaGreatDoorVLease
set_option linter.unusedVariables false
set_option linter.unusedSimpArgs false
set_option maxRecDepth 100000
set_option maxHeartbeats 8000000
/- The walks of slices.IndexFunc and ContainsFunc at rows of records, for any function value that answers a predicate. -/
namespace Go.Proofs.YtbllgmociapjeaaGreatDoor
open Go.Lib (hid)
open Go.RowKit
def kQ {α:Type} (p:α→Bool) (F:FuncId) (caps:Array Value) (enc:α→List Value) (xs:List α) (w:World):Prop:=
 ∀ W,Below w.heap.size w W→∀ x ∈ xs,Calls Tryz.prog F (#[.agg (enc x).toArray] ++ caps) W fun e W'=>e = .returned (.bool (p x))∧Below W.heap.size W W'
def xR {α:Type} (p:α→Bool) (xs:List α) (n:Nat) (w:World) (i:Value) (wr:World):Prop:=∃ k:Nat,k≤n∧i = .int .i64 k∧(xs.take k).any p=false∧Below w.heap.size w wr
def sK {α:Type} (p:α→Bool) (xs:List α) (w:World) (e:Ending) (w':World):Prop:=
 ∃ i:Int,e = .returned (.int .i64 i)∧Below w.heap.size w w'∧((i = -1∧xs.any p=false)∨(0≤i∧xs.any p=true))
theorem o9 {α:Type} {p:α→Bool} {xs:List α} {k:Nat} {x:α} (h:xs[k]? = some x) (hp:p x=true):xs.any p=true:=List.any_eq_true.2 ⟨x,List.mem_of_getElem? h,hp⟩
theorem mQ {α:Type} {p:α→Bool} {xs:List α} {k:Nat} {x:α} (h:xs[k]? = some x) (ht:(xs.take k).any p=false) (hp:p x=false):(xs.take (k+1)).any p=false:=by
 rw [List.take_add_one,h,List.any_append,ht]; simp [hp]
theorem pq {α:Type} {p:α→Bool} {xs:List α} {k:Nat} (ht:(xs.take k).any p=false) (hk:xs.length≤k):xs.any p=false:=by rwa [List.take_of_length_le hk] at ht
theorem E7 (p:ak→Bool) (F:FuncId) (caps:Array Value) (xs:List ak) (A:Option Addr) (n c:Nat) (w:World) (hent:∀ args w,(callFunc F args).run Tryz.prog w = .ok (.enter F args) w) (hx:aU w w.heap.size 3 A n (au av xs)) (hl:xs.length=n) (hn:n≤9223372036854775807) (hp:kQ p F caps av xs w) :
 Calls Tryz.prog 230 #[.slice A n c,.func (.func F) #[] caps] w (sK p xs w):=by
 have Hl:=hid hl
 have Hp:=hid hp
 clear hl hp
 go_enter Tryz.func230,Tryz.ntmps230
 go_wp2
 go_loopw [4,5,8,16] (fun _ _ i _ wr=>xR p xs n w i wr) (fun _ _ i _ _=>n - (intOf i).toNat)
 case atStart=>exact⟨0,Nat.zero_le _,rfl,by simp,Below.refl _ _⟩
 case round=>
  obtain⟨k,hk,rfl,hnone,hb⟩:=hrel
  have dz:=hid hnone
  have Hb:=hid hb
  have hsz:=hb.size
  clear hnone
  by_cases hlt:k<n
  · obtain⟨x,hf⟩:∃ x,xs[k]? = some x:=⟨_,List.getElem?_eq_getElem (by rw [Hl.out]; exact hlt)⟩
    obtain⟨b,off,rfl,hbB,hc⟩:=(hx.below hb).dB aG Hl.out hf
    have Hf:=hid hf
    have hcon:=hid (Hp.out wr hb x (List.mem_of_getElem? hf))
    obtain⟨t,ht⟩:∃ t,p x=t:=⟨_,rfl⟩
    rw [ht] at hcon
    have Ht:=hid ht
    obtain⟨job,node,till⟩:=x
    obtain⟨c0,c1,c2⟩:=rc3 hc
    have hcon:=hid (show Calls Tryz.prog F (#[.agg #[.string job,.string node,.int .i64 till]] ++ caps) wr fun e W'=>e = .returned (.bool t)∧Below wr.heap.size wr W' from hcon.out)
    clear hc hf hx hb ht
    have hlb:b<wr.heap.size:=by omega
    go_wp2_with fail
    refine Calls.mono hcon.out ?_
    rintro e w2 ⟨rfl,hb2⟩
    have Hb2:=hid (Hb.out.trans (hb2.mono Hb.out.size))
    clear hcon hb2
    cases t
    · have fin:=hid (mQ Hf.out dz.out Ht.out)
      go_wp2
      go_roundw
      case rel=>exact⟨k+1,by omega,by go_num,fin.out,Hb2.out⟩
      case measure=>simp [intOf]; omega
    · have fin:=hid (o9 Hf.out Ht.out)
      go_wp2
      go_ret
      exact⟨_,rfl,Hb2.out,.inr ⟨by omega,fin.out⟩⟩
  · have fin:=hid (pq dz.out (by rw [Hl.out]; omega))
    clear hx
    go_wp2
    go_ret
    exact⟨_,rfl,Hb.out,.inl ⟨rfl,fin.out⟩⟩
theorem BH (p:ak→Bool) (F:FuncId) (caps:Array Value) (xs:List ak) (A:Option Addr) (n c:Nat) (w:World) (hent:∀ args w,(callFunc F args).run Tryz.prog w = .ok (.enter F args) w) (hx:aU w w.heap.size 3 A n (au av xs)) (hl:xs.length=n) (hn:n≤9223372036854775807) (hp:kQ p F caps av xs w) :
 Calls Tryz.prog 207 #[.slice A n c,.func (.func F) #[] caps] w fun e w'=>e = .returned (.bool (xs.any p))∧Below w.heap.size w w':=by
 have hC:=hid (E7 p F caps xs A n c w hent hx hl hn hp)
 clear hx hl hn hp hent
 go_enter Tryz.func207,Tryz.ntmps207
 go_wp2_with fail
 refine Calls.mono hC.out ?_
 rintro e w2 ⟨i,rfl,hb2,hcase⟩
 rcases hcase with ⟨rfl,hn⟩ | ⟨hi,hn⟩
 · go_wp2
   go_ret
   exact⟨cY hn.symm,hb2⟩
 · have d0:decide (0≤i)=true:=decide_eq_true hi
   go_wp2
   go_ret
   exact⟨cY hn.symm,hb2⟩
end Go.Proofs.YtbllgmociapjeaaGreatDoor
/- The walks of a Writer: numbers and texts. -/
namespace Go.Proofs.YtbllgmociapjeaaGreatDoor
open Go.Lib (hid)
open Go.RowKit
structure cD (base g:Nat) (w w':World):Prop where
 os:w'.os=w.os
 tape:w'.tape=w.tape
 output:w'.output=w.output
 size:w.heap.size≤w'.heap.size
 block:∀ k,k<w.heap.size→k≠g→(k<base∨∀ cs fz,w.heap[k]? ≠ some (.cells cs 5 fz))→w'.heap[k]? = w.heap[k]?
section
variable {base g:Nat} {w w' w'':World}
theorem cD.refl (w:World):cD base g w w:=⟨rfl,rfl,rfl,Nat.le_refl _,fun _ _ _ _=>rfl⟩
theorem cD.trans (h:cD base g w w') (h':cD base g w' w''):cD base g w w'':=
 ⟨h'.os.trans h.os,h'.tape.trans h.tape,h'.output.trans h.output,Nat.le_trans h.size h'.size,fun k hk hne hc=>by
  have e:=h.block k hk hne hc
  refine (h'.block k (Nat.lt_of_lt_of_le hk h.size) hne ?_).trans e
  rcases hc with hc | hc
  · exact .inl hc
  · exact .inr (fun cs fz he=>hc cs fz (e.symm.trans he))⟩
theorem cD.drew (w:World):cD base g w w.drew:=⟨rfl,rfl,rfl,Nat.le_refl _,fun _ _ _ _=>rfl⟩
theorem cD.of_below (hb:Below w.heap.size w w'):cD base g w w':=⟨hb.os,hb.tape,hb.output,hb.size,fun k hk _ _=>hb.block k hk⟩
theorem cD.below (h:cD base g w w') (hB:base≤g) (hs:base≤w.heap.size):Below base w w':=
 ⟨h.os,h.tape,h.output,h.size,fun k hk=>h.block k (Nat.lt_of_lt_of_le hk hs) (by omega) (.inl hk)⟩
theorem cD.blk {k:Nat} {t:TypeId} {cs:Array Value} (h:cD base g w w') (hk:Blk w k t cs) (ht:t ≠ 5) (hne:k≠g):Blk w' k t cs:=
 (h.block k hk.lt hne (.inr (fun cs' fz he=>by
  unfold Blk at hk
  rw [hk] at he
  simp only [Option.some.injEq,Obj.cells.injEq] at he
  exact ht he.2.1))).trans hk
theorem tB {v:Value} {n:Nat} {xs:List Value} (ho:w.ownsRow base 5 1 v n xs) {k:Nat} (hk:v.ownBlock=some k):base≤k∧∃ cs,w.heap[k]? = some (.cells cs 5 (0,0)):=by
 rcases ho.2 with ⟨rfl,_⟩ | ⟨q,cap,cur,rfl,hb,hg,_⟩
 · simp [Value.ownBlock] at hk
 · simp [Value.ownBlock] at hk
   subst hk
   exact⟨hb,_,hg⟩
theorem cD.kr {v:Value} {n:Nat} {xs:List Value} (ho:w.ownsRow base 5 1 v n xs) (hg:w.grownBy w' v.ownBlock):cD base g w w':=
 ⟨hg.os,hg.tape,hg.output,hg.size,fun k hk _ hc=>hg.block k hk (fun e=>by
  obtain⟨h1,cs,h2⟩:=tB ho e.symm
  rcases hc with hc | hc
  · omega
  · exact hc _ _ h2)⟩
theorem cD.set (w:World) (i:Nat) (u:Value):cD base g w (w.setCell ⟨g,i,none⟩ u):=
 ⟨rfl,rfl,rfl,by simp [World.setCell],fun k _ hne _=>Below.heap_setCell w ⟨g,i,none⟩ u k hne⟩
end
def oL (w:World) (base g:Nat) (l:List UInt8):Prop:=base≤g∧∃ A m c,Blk w g 128 #[.slice A m c]∧w.ownsRow base 5 1 (.slice A m c) m (bf l)
theorem E8 {w:World} {base:Nat} {v:Value} {n:Nat} {xs:List Value} (ho:w.ownsRow base 5 1 v n xs):∃ A c,v = .slice A n c:=by
 rcases ho.2 with ⟨rfl,h⟩ | ⟨q,cap,cur,rfl,_⟩
 · subst h; exact⟨_,_,rfl⟩
 · exact⟨_,_,rfl⟩
theorem own_below {w w':World} {base:Nat} {v:Value} {n:Nat} {xs:List Value} (ho:w.ownsRow base 5 1 v n xs) (hb:Below w.heap.size w w'):w'.ownsRow base 5 1 v n xs:=by
 rcases ho with ⟨h1,h | ⟨q,cap,cur,hv,hq,hg,r⟩⟩
 · exact⟨h1,.inl h⟩
 · have hlt:q<w.heap.size:=(Array.getElem?_eq_some_iff.1 hg).1
   exact⟨h1,.inr ⟨q,cap,cur,hv,hq,(hb.block q hlt).trans hg,r⟩⟩
theorem oL.below {w w':World} {base g:Nat} {l:List UInt8} (h:oL w base g l) (hb:Below w.heap.size w w'):oL w' base g l:=by
 obtain⟨h1,A,m,c,h2,h3⟩:=h
 exact⟨h1,A,m,c,h2.below hb h2.lt,own_below h3 hb⟩
theorem oL.lt {w:World} {base g:Nat} {l:List UInt8} (h:oL w base g l):g<w.heap.size:=by
 obtain⟨_,A,m,c,h2,_⟩:=h
 exact h2.lt
theorem oP {w:World} {base:Nat} {A:Option Addr} {m c:Nat} {l:List UInt8} (h:w.ownsRow base 5 1 (.slice A m c) m (bf l)):l.length=m:=by
 have:=h.1
 rw [eu,Nat.mul_one] at this
 exact this
def Il (base g:Nat) (l:List UInt8) (w:World) (e:Ending) (w':World):Prop:=e = .returned (.tuple #[])∧oL w' base g l∧cD base g w w'
theorem JT {w:World} {base:Nat} {v:Value} {n:Nat} {xs:List Value} {a:Addr} (ho:w.ownsRow base 5 1 v n xs) (ha:v.ownBlock≠some a.block) (u:Value):(w.setCell a u).ownsRow base 5 1 v n xs:=by
 rcases ho with ⟨h1,h | ⟨q,cap,cur,hv,hq,hg,r⟩⟩
 · exact⟨h1,.inl h⟩
 · refine⟨h1,.inr ⟨q,cap,cur,hv,hq,?_,r⟩⟩
   rw [Below.heap_setCell w a u q (fun e=>ha (by rw [hv]; simp [Value.ownBlock,e]))]
   exact hg
theorem oL.put {w w1:World} {base g:Nat} {A A':Option Addr} {m c m' c':Nat} {l l':List UInt8} (hbg:base≤g) (hB:Blk w g 128 #[.slice A m c]) (ho:w.ownsRow base 5 1 (.slice A m c) m (bf l))
 (ho':w1.ownsRow base 5 1 (.slice A' m' c') m' (bf l')) (hg:w.grownBy w1 (Value.slice A m c).ownBlock) :
 Blk w1 g 128 #[.slice A m c]∧oL (w1.setCell ⟨g,0,none⟩ (.slice A' m' c')) base g l'∧cD base g w (w1.setCell ⟨g,0,none⟩ (.slice A' m' c')):=by
 have hne:some g≠(Value.slice A m c).ownBlock:=fun e=>by
  obtain⟨_,cs,h2⟩:=tB ho e.symm
  unfold Blk at hB
  rw [hB] at h2
  simp only [Option.some.injEq,Obj.cells.injEq] at h2
  exact absurd h2.2.1 (by decide)
 have hB1:Blk w1 g 128 #[.slice A m c]:=(hg.block g hB.lt hne).trans hB
 refine⟨hB1,⟨hbg,A',m',c',Blk.eq (hB1.set 0 _) (by simp),JT ho' (fun e=>?_) _⟩,(cD.kr ho hg).trans (cD.set w1 0 _)⟩
 obtain⟨_,cs,h2⟩:=tB ho' e
 unfold Blk at hB1
 rw [hB1] at h2
 simp only [Option.some.injEq,Obj.cells.injEq] at h2
 exact absurd h2.2.1 (by decide)
theorem wS (base g:Nat) (l:List UInt8) (n:Int) (w:World) (h0:0≤n) (h1:n≤9223372036854775807) (h:oL w base g l) (hl:l.length≤100000000) :
 Calls Tryz.prog 55 #[.pointer (some ⟨g,0,none⟩),.int .i64 n] w (Il base g (l ++ aO n.toNat) w):=by
 obtain⟨hbg,A,m,c,hB,ho⟩:=h
 have hm:=oP ho
 have y0:w.cell? ⟨g,0,none⟩=some (.slice A m c):=hB.cell 0
 have hgl:=hB.lt
 have hcon:=hid (zw base A m c l n w h0 (by omega) ho (by omega) (by omega))
 have HB:=hid hB
 have HO:=hid ho
 clear hB ho hm
 go_enter Tryz.func55,Tryz.ntmps55
 go_wp2_with fail
 refine Calls.mono hcon.out ?_
 rintro e w1 ⟨A',m',c',rfl,ho',hg'⟩
 obtain⟨hB1,hfin,hkeep⟩:=oL.put hbg HB.out HO.out ho' hg'.grown
 have z0:w1.cell? ⟨g,0,none⟩=some (.slice A m c):=hB1.cell 0
 have zt:w1.frozen? ⟨g,0,none⟩=false:=hB1.thaw 0
 have aP:=hid (And.intro hfin hkeep)
 clear hcon ho' hg' hfin hkeep hB1 y0
 go_wp2
 go_end0
 exact⟨rfl,aP.out.1,aP.out.2⟩
theorem E9 (base g:Nat) (l:List UInt8) (s:ByteArray) (w:World) (hs:s.size≤9223372036854775807) (hT:Tabs w) (h:oL w base g l) (hl:l.length≤100000000) (hbw:base≤w.heap.size) :
 Calls Tryz.prog 183 #[.pointer (some ⟨g,0,none⟩),.string s] w (Il base g (l ++ (rN s).1.data.toList) w):=by
 have hcon:=hid (GT s w hs hT)
 have H:=hid h
 clear h hT
 go_enter Tryz.func183,Tryz.ntmps183
 go_wp2_with fail
 refine Calls.mono hcon.out ?_
 rintro e w0 ⟨rfl,hb0⟩
 obtain⟨hbg,A,m,c,hB,ho⟩:=H.out.below hb0
 have hts:(rN s).1.size≤17:=by
  unfold rN
  split
  · show (0:Nat)≤17; omega
  · split
    · rw [ByteArray.size_append]; show 1+s.size≤17; omega
    · show (0:Nat)≤17; omega
 generalize htt:(rN s).1=t at hts ⊢
 have Htt:=hid htt
 clear htt
 generalize (rN s).2=E
 have hm:=oP ho
 have y0:w0.cell? ⟨g,0,none⟩=some (.slice A m c):=hB.cell 0
 have hgl:=hB.lt
 have HB:=hid hB
 have HO:=hid ho
 have hb0s:=hb0.size
 have Hb0:=hid hb0
 have hmm:m≤100000000:=by omega
 clear hcon hB ho hb0
 have hbw0:base≤w0.heap.size:=by omega
 obtain⟨i0,hi,hz0,hz1,hz2⟩:=info_parts Tryz.infoU8
 have e1:bf l ++ Lib.strCells t=bf (l ++ t.data.toList):=by rw [fG]; rfl
 go_wp2_with (at_builtin; refine Lib.wpList_append_own_string _ rfl _ _ _ _ rfl base 5 i0 Tryz.underlying84 Tryz.underlying9 hi hz0 hz1 hz2 _ m _ rfl HO.out t rfl (by unfold maxLen; omega) (by omega) hbw0 ?_; intro v' w1 ho' hg' _; obtain⟨A',c',rfl⟩:=E8 ho'; rw [e1] at ho'; have hput:=oL.put hbg HB.out HO.out ho' hg'; have z0:w1.cell? ⟨g,0,none⟩=some (.slice A m c):=hput.1.cell 0; have zt:w1.frozen? ⟨g,0,none⟩=false:=hput.1.thaw 0)
 all_goals (go_end0; exact⟨rfl,by rw [Htt.out]; exact hput.2.1,(cD.of_below Hb0.out).trans hput.2.2⟩)
theorem Bd (base g:Nat) (l:List UInt8) (n:Int) (w:World) (h0 : -9223372036854775808≤n) (h1:n≤9223372036854775807) (h:oL w base g l) (hl:l.length≤100000000) (hbw:base≤w.heap.size) :
 Calls Tryz.prog 218 #[.pointer (some ⟨g,0,none⟩),.int .i64 n] w (Il base g (l ++ aO (mT n).toNat) w):=by
 obtain⟨hbg,A,m,c,hB,ho⟩:=h
 have hm:=oP ho
 have y0:w.cell? ⟨g,0,none⟩=some (.slice A m c):=hB.cell 0
 have hgl:=hB.lt
 have hz0:0≤mT n∧mT n<18446744073709551616:=by unfold mT; split <;> omega
 generalize hzz:mT n=z at hz0 ⊢
 have hZ:∀ W,Calls Tryz.prog 242 #[.int .i64 n] W fun e w'=>e = .returned (.int .u64 z)∧W=w':=fun W=>by rw [← hzz]; exact Jm n h0 h1 W
 have hcon:=hid (zw base A m c l z w.drew hz0.1 hz0.2 ho (by omega) hbw)
 have HZ:=hid hZ
 have HB:=hid hB
 have HO:=hid ho
 clear hB ho hm hZ hzz
 go_enter Tryz.func218,Tryz.ntmps218
 go_wp2_with fail
 go_region_with (first
  | (go_at_call 242; refine (HZ.out _).mono ?_; rintro e w' ⟨rfl,rfl⟩)
  | (go_at_call 87; refine (hcon.out).mono ?_; rintro e w1 ⟨A',m',c',rfl,ho',hg'⟩; have hput:=oL.put (w:=w.drew) hbg HB.out HO.out ho' hg'.grown; have z0:w1.cell? ⟨g,0,none⟩=some (.slice A m c):=hput.1.cell 0; have zt:w1.frozen? ⟨g,0,none⟩=false:=hput.1.thaw 0))
 all_goals (go_end0; exact⟨rfl,hput.2.1,(cD.drew w).trans hput.2.2⟩)
end Go.Proofs.YtbllgmociapjeaaGreatDoor
/- Replies: what both sides write. -/
namespace Go.Proofs.YtbllgmociapjeaaGreatDoor
open Go.Lib (hid)
open Go.RowKit
def mh (c r:Int):Bool:=ranged c 0 10 && ranged r 0 1099511627776
def pU (c r:Int):List UInt8:=aO c.toNat ++ aO r.toNat
def gK (c r:Int):ByteArray × Int:=if mh c r=true then (⟨(pU c r).toArray⟩,0) else (⟨#[]⟩,1)
theorem Fa {c r:Int} (h:mh c r=false):gK c r=(⟨#[]⟩,1):=by unfold gK; rw [if_neg (by rw [h]; decide)]
theorem CV {c r:Int} (h:mh c r=true):gK c r=(⟨(pU c r).toArray⟩,0):=by unfold gK; rw [if_pos h]
theorem Be {c r:Int}:mh c r=true↔(0≤c∧c≤10)∧(0≤r∧r≤1099511627776):=by unfold mh; rw [Bool.and_eq_true,aL,aL]
theorem Bf (n:Int) (w:World):Calls Tryz.prog 209 #[.int .i64 n] w fun e w'=>e = .returned (.bool (ranged n 0 1099511627776))∧w=w':=by
 cases h:ranged n 0 1099511627776
 · have h':=gT.1 h
   by_cases h1:n<0
   · have d1:decide (0≤n)=false:=decide_eq_false (by omega)
     clear h h'
     go_enter Tryz.func209,Tryz.ntmps209
     go_wp2
     go_ret
     exact⟨rfl,rfl⟩
   · have d1:decide (0≤n)=true:=decide_eq_true (by omega)
     have d2:decide (n≤1099511627776)=false:=decide_eq_false (by omega)
     clear h h'
     go_enter Tryz.func209,Tryz.ntmps209
     go_wp2
     go_ret
     exact⟨rfl,rfl⟩
 · have h':=aL.1 h
   have d1:decide (0≤n)=true:=decide_eq_true h'.1
   have d2:decide (n≤1099511627776)=true:=decide_eq_true h'.2
   clear h h'
   go_enter Tryz.func209,Tryz.ntmps209
   go_wp2
   go_ret
   exact⟨rfl,rfl⟩
theorem tY (c r:Int) (w:World):Calls Tryz.prog 171 #[.agg #[.int .i64 c,.int .i64 r]] w fun e w'=>e = .returned (.bool (mh c r))∧Below w.heap.size w w':=by
 have hb:=(Below.refl w.heap.size w).alloc (Nat.le_refl _) (.cells #[.int .i64 c,.int .i64 r] 111)
 have Hb:=hid hb
 clear hb
 unfold mh
 cases h:ranged c 0 10
 · have h':=gT.1 h
   by_cases h1:c<0
   · have d1:decide (0≤c)=false:=decide_eq_false (by omega)
     clear h h'
     go_enter Tryz.func171,Tryz.ntmps171
     go_wp2
     go_ret
     exact⟨rfl,Hb.out⟩
   · have d1:decide (0≤c)=true:=decide_eq_true (by omega)
     have d2:decide (c≤10)=false:=decide_eq_false (by omega)
     clear h h'
     go_enter Tryz.func171,Tryz.ntmps171
     go_wp2
     go_ret
     exact⟨rfl,Hb.out⟩
 · have h':=aL.1 h
   have d1:decide (0≤c)=true:=decide_eq_true h'.1
   have d2:decide (c≤10)=true:=decide_eq_true h'.2
   clear h h'
   go_enter Tryz.func171,Tryz.ntmps171
   go_wp2_with fail
   refine Calls.mono (Bf r _) ?_
   rintro e w1 ⟨rfl,rfl⟩
   go_wp2
   go_ret
   exact⟨rfl,Hb.out⟩
def Im (c r:Int) (w:World) (e:Ending) (w':World):Prop:=e = .returned (.tuple #[.string (gK c r).1,.int .i64 (gK c r).2])∧Below w.heap.size w w'
theorem Dw (c r:Int) (w:World):Calls Tryz.prog 99 #[.agg #[.int .i64 c,.int .i64 r]] w (Im c r w):=by
 have hb:=(Below.refl w.heap.size w).alloc (Nat.le_refl _) (.cells #[.int .i64 c,.int .i64 r] 111)
 have hB:Blk (w.alloc (.cells #[.int .i64 c,.int .i64 r] 111)) w.heap.size 111 #[.int .i64 c,.int .i64 r]:=heap_alloc_new w _
 have Hb:=hid hb
 have HB:=hid hB
 clear hb hB
 unfold Im
 cases h:mh c r
 · rw [Fa h]
   have Hok:=hid h
   clear h
   go_enter Tryz.func99,Tryz.ntmps99
   go_wp2_with fail
   refine Calls.mono (tY c r _) ?_
   rintro e w1 ⟨rfl,hb1⟩
   rw [Hok.out]
   go_wp2
   exact bodyPost_ret (v:=.tuple #[.string ⟨#[]⟩,.int .i64 1]) (by simp [results,Tryz.results99,go_sem]) rfl ⟨rfl,Hb.out.trans (hb1.mono Hb.out.size)⟩
 · rw [CV h]
   have hr:=Be.1 h
   have Hok:=hid h
   clear h
   go_enter Tryz.func99,Tryz.ntmps99
   go_wp2_with fail
   refine Calls.mono (tY c r _) ?_
   rintro e w1 ⟨rfl,hb1⟩
   rw [Hok.out]
   have HB1:=hid (HB.out.below hb1 HB.out.lt)
   have Hb1:=hid (Hb.out.trans (hb1.mono Hb.out.size))
   have hbl:=HB1.out.lt
   clear hb1 HB Hb
   have hA:=(Below.refl w1.heap.size w1).alloc (Nat.le_refl _) (.cells #[.slice none 0 0] 128)
   have hW:oL (w1.alloc (.cells #[.slice none 0 0] 128)) w1.heap.size w1.heap.size []:=⟨Nat.le_refl _,none,0,0,heap_alloc_new w1 _,World.ownsRow_nil _ _ _ _⟩
   have HC:=hid (wS w1.heap.size w1.heap.size [] c _ hr.1.1 (by omega) hW (by simp))
   have HB2:=hid (HB1.out.below hA hbl)
   have HA:=hid hA
   have c0:w1.cell? ⟨w.heap.size,0,none⟩=some (.int .i64 c):=HB1.out.cell 0
   clear hA hW
   go_wp2_with fail
   refine Calls.mono HC.out ?_
   rintro e w2 ⟨rfl,hw2,hk2⟩
   have hsz:=HA.out.size
   have hk3:=hk2.below (Nat.le_refl _) hsz
   have hB3:Blk w2 w.heap.size 111 #[.int .i64 c,.int .i64 r]:=(hk3.block w.heap.size hbl).trans HB2.out
   have c1:w2.cell? ⟨w.heap.size,1,none⟩=some (.int .i64 r):=hB3.cell 1
   have HC2:=hid (wS w1.heap.size w1.heap.size _ r w2 hr.2.1 (by omega) hw2 (by have:=cH c.toNat; simp; omega))
   have HK:=hid (Hb1.out.trans ((HA.out.trans hk3).mono Hb1.out.size))
   have hs2:=Nat.le_trans hsz hk3.size
   clear hw2 hk2 hk3 hB3 HC HB2 HA hsz c0
   go_wp2_with fail
   refine Calls.mono HC2.out ?_
   rintro e w3 ⟨rfl,hw3,hk3⟩
   have HK3:=hid (HK.out.trans ((hk3.below (Nat.le_refl _) hs2).mono Hb1.out.size))
   rw [show [] ++ aO c.toNat ++ aO r.toNat=pU c r by simp [pU]] at hw3
   obtain⟨_,AA,m,cc,hBW,ho⟩:=hw3
   have z0:w3.cell? ⟨w1.heap.size,0,none⟩=some (.slice AA m cc):=hBW.cell 0
   have hrun:=eU Tryz.underlying84 Tryz.underlying5 Tryz.underlying9 ho
   clear hk3 hBW ho HC2 HK c1
   go_wp2
   exact bodyPost_ret (v:=.tuple #[.string ⟨(pU c r).toArray⟩,.int .i64 0]) (by simp [results,Tryz.results99,go_sem]) rfl ⟨rfl,HK3.out⟩
end Go.Proofs.YtbllgmociapjeaaGreatDoor
