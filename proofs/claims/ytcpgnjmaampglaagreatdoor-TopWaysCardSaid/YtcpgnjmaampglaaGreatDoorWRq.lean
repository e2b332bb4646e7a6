/- Of the proof of a statement: Wri, Rq, QuoteA. -/
import Derived.Deep.RegionWith
import Derived.Lib.AppendStr
import Derived.Lib.QuietBelow
import Derived.Deep.RegionLaw
import Derived.Test.YtcpgnjmaampglaaGreatDoorWCopyK
set_option linter.unusedVariables false
set_option linter.unusedSimpArgs false
set_option maxRecDepth 100000
set_option maxHeartbeats 8000000
/- The walks of a Writer: numbers and texts. -/
namespace Go.Proofs.YtcpgnjmaampglaaGreatDoor
open Go.Lib (hid)
open Go.RowKit
structure cM (base g:Nat) (w w':World):Prop where
 os:w'.os=w.os
 tape:w'.tape=w.tape
 output:w'.output=w.output
 size:w.heap.size≤w'.heap.size
 block:∀ k,k<w.heap.size→k≠g→(k<base∨∀ cs fz,w.heap[k]? ≠ some (.cells cs 5 fz))→w'.heap[k]? = w.heap[k]?
section
variable {base g:Nat} {w w' w'':World}
theorem cM.refl (w:World):cM base g w w:=⟨rfl,rfl,rfl,Nat.le_refl _,fun _ _ _ _=>rfl⟩
theorem cM.trans (h:cM base g w w') (h':cM base g w' w''):cM base g w w'':=
 ⟨h'.os.trans h.os,h'.tape.trans h.tape,h'.output.trans h.output,Nat.le_trans h.size h'.size,fun k hk hne hc=>by
  have e:=h.block k hk hne hc
  refine (h'.block k (Nat.lt_of_lt_of_le hk h.size) hne ?_).trans e
  rcases hc with hc | hc
  · exact .inl hc
  · exact .inr (fun cs fz he=>hc cs fz (e.symm.trans he))⟩
theorem cM.drew (w:World):cM base g w w.drew:=⟨rfl,rfl,rfl,Nat.le_refl _,fun _ _ _ _=>rfl⟩
theorem cM.of_below (hb:Below w.heap.size w w'):cM base g w w':=⟨hb.os,hb.tape,hb.output,hb.size,fun k hk _ _=>hb.block k hk⟩
theorem cM.below (h:cM base g w w') (hB:base≤g) (hs:base≤w.heap.size):Below base w w':=
 ⟨h.os,h.tape,h.output,h.size,fun k hk=>h.block k (Nat.lt_of_lt_of_le hk hs) (by omega) (.inl hk)⟩
theorem cM.blk {k:Nat} {t:TypeId} {cs:Array Value} (h:cM base g w w') (hk:Blk w k t cs) (ht:t ≠ 5) (hne:k≠g):Blk w' k t cs:=
 (h.block k hk.lt hne (.inr (fun cs' fz he=>by
  unfold Blk at hk
  rw [hk] at he
  simp only [Option.some.injEq,Obj.cells.injEq] at he
  exact ht he.2.1))).trans hk
theorem wL {v:Value} {n:Nat} {xs:List Value} (ho:w.ownsRow base 5 1 v n xs) {k:Nat} (hk:v.ownBlock=some k):base≤k∧∃ cs,w.heap[k]? = some (.cells cs 5 (0,0)):=by
 rcases ho.2 with ⟨rfl,_⟩ | ⟨q,cap,cur,rfl,hb,hg,_⟩
 · simp [Value.ownBlock] at hk
 · simp [Value.ownBlock] at hk
   subst hk
   exact⟨hb,_,hg⟩
theorem cM.lF {v:Value} {n:Nat} {xs:List Value} (ho:w.ownsRow base 5 1 v n xs) (hg:w.grownBy w' v.ownBlock):cM base g w w':=
 ⟨hg.os,hg.tape,hg.output,hg.size,fun k hk _ hc=>hg.block k hk (fun e=>by
  obtain⟨h1,cs,h2⟩:=wL ho e.symm
  rcases hc with hc | hc
  · omega
  · exact hc _ _ h2)⟩
theorem cM.set (w:World) (i:Nat) (u:Value):cM base g w (w.setCell ⟨g,i,none⟩ u):=
 ⟨rfl,rfl,rfl,by simp [World.setCell],fun k _ hne _=>Below.heap_setCell w ⟨g,i,none⟩ u k hne⟩
end
def q8 (w:World) (base g:Nat) (l:List UInt8):Prop:=base≤g∧∃ A m c,Blk w g 134 #[.slice A m c]∧w.ownsRow base 5 1 (.slice A m c) m (aF l)
theorem Kd {w:World} {base:Nat} {v:Value} {n:Nat} {xs:List Value} (ho:w.ownsRow base 5 1 v n xs):∃ A c,v = .slice A n c:=by
 rcases ho.2 with ⟨rfl,h⟩ | ⟨q,cap,cur,rfl,_⟩
 · subst h; exact⟨_,_,rfl⟩
 · exact⟨_,_,rfl⟩
theorem own_below {w w':World} {base:Nat} {v:Value} {n:Nat} {xs:List Value} (ho:w.ownsRow base 5 1 v n xs) (hb:Below w.heap.size w w'):w'.ownsRow base 5 1 v n xs:=by
 rcases ho with ⟨h1,h | ⟨q,cap,cur,hv,hq,hg,r⟩⟩
 · exact⟨h1,.inl h⟩
 · have hlt:q<w.heap.size:=(Array.getElem?_eq_some_iff.1 hg).1
   exact⟨h1,.inr ⟨q,cap,cur,hv,hq,(hb.block q hlt).trans hg,r⟩⟩
theorem q8.below {w w':World} {base g:Nat} {l:List UInt8} (h:q8 w base g l) (hb:Below w.heap.size w w'):q8 w' base g l:=by
 obtain⟨h1,A,m,c,h2,h3⟩:=h
 exact⟨h1,A,m,c,h2.below hb h2.lt,own_below h3 hb⟩
theorem q8.lt {w:World} {base g:Nat} {l:List UInt8} (h:q8 w base g l):g<w.heap.size:=by
 obtain⟨_,A,m,c,h2,_⟩:=h
 exact h2.lt
theorem rG {w:World} {base:Nat} {A:Option Addr} {m c:Nat} {l:List UInt8} (h:w.ownsRow base 5 1 (.slice A m c) m (aF l)):l.length=m:=by
 have:=h.1
 rw [bK,Nat.mul_one] at this
 exact this
def Mu (base g:Nat) (l:List UInt8) (w:World) (e:Ending) (w':World):Prop:=e = .returned (.tuple #[])∧q8 w' base g l∧cM base g w w'
theorem Oz {w:World} {base:Nat} {v:Value} {n:Nat} {xs:List Value} {a:Addr} (ho:w.ownsRow base 5 1 v n xs) (ha:v.ownBlock≠some a.block) (u:Value):(w.setCell a u).ownsRow base 5 1 v n xs:=by
 rcases ho with ⟨h1,h | ⟨q,cap,cur,hv,hq,hg,r⟩⟩
 · exact⟨h1,.inl h⟩
 · refine⟨h1,.inr ⟨q,cap,cur,hv,hq,?_,r⟩⟩
   rw [Below.heap_setCell w a u q (fun e=>ha (by rw [hv]; simp [Value.ownBlock,e]))]
   exact hg
theorem q8.put {w w1:World} {base g:Nat} {A A':Option Addr} {m c m' c':Nat} {l l':List UInt8} (hbg:base≤g) (hB:Blk w g 134 #[.slice A m c]) (ho:w.ownsRow base 5 1 (.slice A m c) m (aF l))
 (ho':w1.ownsRow base 5 1 (.slice A' m' c') m' (aF l')) (hg:w.grownBy w1 (Value.slice A m c).ownBlock) :
 Blk w1 g 134 #[.slice A m c]∧q8 (w1.setCell ⟨g,0,none⟩ (.slice A' m' c')) base g l'∧cM base g w (w1.setCell ⟨g,0,none⟩ (.slice A' m' c')):=by
 have hne:some g≠(Value.slice A m c).ownBlock:=fun e=>by
  obtain⟨_,cs,h2⟩:=wL ho e.symm
  unfold Blk at hB
  rw [hB] at h2
  simp only [Option.some.injEq,Obj.cells.injEq] at h2
  exact absurd h2.2.1 (by decide)
 have hB1:Blk w1 g 134 #[.slice A m c]:=(hg.block g hB.lt hne).trans hB
 refine⟨hB1,⟨hbg,A',m',c',Blk.eq (hB1.set 0 _) (by simp),Oz ho' (fun e=>?_) _⟩,(cM.lF ho hg).trans (cM.set w1 0 _)⟩
 obtain⟨_,cs,h2⟩:=wL ho' e
 unfold Blk at hB1
 rw [hB1] at h2
 simp only [Option.some.injEq,Obj.cells.injEq] at h2
 exact absurd h2.2.1 (by decide)
theorem Ac (base g:Nat) (l:List UInt8) (n:Int) (w:World) (h0:0≤n) (h1:n≤9223372036854775807) (h:q8 w base g l) (hl:l.length≤100000000) :
 Calls Tryz.prog 62 #[.pointer (some ⟨g,0,none⟩),.int .i64 n] w (Mu base g (l ++ bg n.toNat) w):=by
 obtain⟨hbg,A,m,c,hB,ho⟩:=h
 have hm:=rG ho
 have y0:w.cell? ⟨g,0,none⟩=some (.slice A m c):=hB.cell 0
 have hgl:=hB.lt
 have hcon:=hid (CP base A m c l n w h0 (by omega) ho (by omega) (by omega))
 have HB:=hid hB
 have HO:=hid ho
 clear hB ho hm
 go_enter Tryz.func62,Tryz.ntmps62
 go_wp2_with fail
 refine Calls.mono hcon.out ?_
 rintro e w1 ⟨A',m',c',rfl,ho',hg'⟩
 obtain⟨hB1,hfin,hkeep⟩:=q8.put hbg HB.out HO.out ho' hg'.grown
 have z0:w1.cell? ⟨g,0,none⟩=some (.slice A m c):=hB1.cell 0
 have zt:w1.frozen? ⟨g,0,none⟩=false:=hB1.thaw 0
 have cX:=hid (And.intro hfin hkeep)
 clear hcon ho' hg' hfin hkeep hB1 y0
 go_wp2
 go_end0
 exact⟨rfl,cX.out.1,cX.out.2⟩
theorem JP (base g:Nat) (l:List UInt8) (s:ByteArray) (w:World) (hs:s.size≤9223372036854775807) (hT:Tabs w) (h:q8 w base g l) (hl:l.length≤100000000) (hbw:base≤w.heap.size) :
 Calls Tryz.prog 123 #[.pointer (some ⟨g,0,none⟩),.string s] w (Mu base g (l ++ (tQ s).1.data.toList) w):=by
 have hcon:=hid (KM s w hs hT)
 have H:=hid h
 clear h hT
 go_enter Tryz.func123,Tryz.ntmps123
 go_wp2_with fail
 refine Calls.mono hcon.out ?_
 rintro e w0 ⟨rfl,hb0⟩
 obtain⟨hbg,A,m,c,hB,ho⟩:=H.out.below hb0
 have hts:(tQ s).1.size≤17:=by
  unfold tQ
  split
  · show (0:Nat)≤17; omega
  · split
    · rw [ByteArray.size_append]; show 1+s.size≤17; omega
    · show (0:Nat)≤17; omega
 generalize htt:(tQ s).1=t at hts ⊢
 have Htt:=hid htt
 clear htt
 generalize (tQ s).2=E
 have hm:=rG ho
 have y0:w0.cell? ⟨g,0,none⟩=some (.slice A m c):=hB.cell 0
 have hgl:=hB.lt
 have HB:=hid hB
 have HO:=hid ho
 have hb0s:=hb0.size
 have Hb0:=hid hb0
 have hmm:m≤100000000:=by omega
 clear hcon hB ho hb0
 have hbw0:base≤w0.heap.size:=by omega
 obtain⟨i0,hi,hz0,hz1,hz2⟩:=info_parts Tryz.infoU8
 have e1:aF l ++ Lib.strCells t=aF (l ++ t.data.toList):=by rw [cV]; rfl
 go_wp2_with (at_builtin; refine Lib.wpList_append_own_string _ rfl _ _ _ _ rfl base 5 i0 Tryz.underlying118 Tryz.underlying9 hi hz0 hz1 hz2 _ m _ rfl HO.out t rfl (by unfold maxLen; omega) (by omega) hbw0 ?_; intro v' w1 ho' hg' _; obtain⟨A',c',rfl⟩:=Kd ho'; rw [e1] at ho'; have hput:=q8.put hbg HB.out HO.out ho' hg'; have z0:w1.cell? ⟨g,0,none⟩=some (.slice A m c):=hput.1.cell 0; have zt:w1.frozen? ⟨g,0,none⟩=false:=hput.1.thaw 0)
 all_goals (go_end0; exact⟨rfl,by rw [Htt.out]; exact hput.2.1,(cM.of_below Hb0.out).trans hput.2.2⟩)
theorem EH (base g:Nat) (l:List UInt8) (n:Int) (w:World) (h0 : -9223372036854775808≤n) (h1:n≤9223372036854775807) (h:q8 w base g l) (hl:l.length≤100000000) (hbw:base≤w.heap.size) :
 Calls Tryz.prog 124 #[.pointer (some ⟨g,0,none⟩),.int .i64 n] w (Mu base g (l ++ bg (pq n).toNat) w):=by
 obtain⟨hbg,A,m,c,hB,ho⟩:=h
 have hm:=rG ho
 have y0:w.cell? ⟨g,0,none⟩=some (.slice A m c):=hB.cell 0
 have hgl:=hB.lt
 have hz0:0≤pq n∧pq n<18446744073709551616:=by unfold pq; split <;> omega
 generalize hzz:pq n=z at hz0 ⊢
 have hZ:∀ W,Calls Tryz.prog 170 #[.int .i64 n] W fun e w'=>e = .returned (.int .u64 z)∧W=w':=fun W=>by rw [← hzz]; exact N0 n h0 h1 W
 have hcon:=hid (CP base A m c l z w.drew hz0.1 hz0.2 ho (by omega) hbw)
 have HZ:=hid hZ
 have HB:=hid hB
 have HO:=hid ho
 clear hB ho hm hZ hzz
 go_enter Tryz.func124,Tryz.ntmps124
 go_wp2_with fail
 go_region_with (first
  | (go_at_call 170; refine (HZ.out _).mono ?_; rintro e w' ⟨rfl,rfl⟩)
  | (go_at_call 122; refine (hcon.out).mono ?_; rintro e w1 ⟨A',m',c',rfl,ho',hg'⟩; have hput:=q8.put (w:=w.drew) hbg HB.out HO.out ho' hg'.grown; have z0:w1.cell? ⟨g,0,none⟩=some (.slice A m c):=hput.1.cell 0; have zt:w1.frozen? ⟨g,0,none⟩=false:=hput.1.thaw 0))
 all_goals (go_end0; exact⟨rfl,hput.2.1,(cM.drew w).trans hput.2.2⟩)
def nM (c r:Int):Bool:=ranged c 0 10 && ranged r 0 1099511627776
def tF (c r:Int):List UInt8:=bg c.toNat ++ bg r.toNat
def jX (c r:Int):ByteArray × Int:=if nM c r=true then (⟨(tF c r).toArray⟩,0) else (⟨#[]⟩,1)
theorem Ke {c r:Int} (h:nM c r=false):jX c r=(⟨#[]⟩,1):=by unfold jX; rw [if_neg (by rw [h]; decide)]
theorem GS {c r:Int} (h:nM c r=true):jX c r=(⟨(tF c r).toArray⟩,0):=by unfold jX; rw [if_pos h]
theorem EZ {c r:Int}:nM c r=true↔(0≤c∧c≤10)∧(0≤r∧r≤1099511627776):=by unfold nM; rw [Bool.and_eq_true,aZ,aZ]
theorem E3 (n:Int) (w:World):Calls Tryz.prog 257 #[.int .i64 n] w fun e w'=>e = .returned (.bool (ranged n 0 1099511627776))∧w=w':=by
 cases h:ranged n 0 1099511627776
 · have h':=mW.1 h
   by_cases h1:n<0
   · have d1:decide (0≤n)=false:=decide_eq_false (by omega)
     clear h h'
     go_enter Tryz.func257,Tryz.ntmps257
     go_wp2
     go_ret
     exact⟨rfl,rfl⟩
   · have d1:decide (0≤n)=true:=decide_eq_true (by omega)
     have d2:decide (n≤1099511627776)=false:=decide_eq_false (by omega)
     clear h h'
     go_enter Tryz.func257,Tryz.ntmps257
     go_wp2
     go_ret
     exact⟨rfl,rfl⟩
 · have h':=aZ.1 h
   have d1:decide (0≤n)=true:=decide_eq_true h'.1
   have d2:decide (n≤1099511627776)=true:=decide_eq_true h'.2
   clear h h'
   go_enter Tryz.func257,Tryz.ntmps257
   go_wp2
   go_ret
   exact⟨rfl,rfl⟩
theorem xK (c r:Int) (w:World):Calls Tryz.prog 207 #[.agg #[.int .i64 c,.int .i64 r]] w fun e w'=>e = .returned (.bool (nM c r))∧Below w.heap.size w w':=by
 have hb:=(Below.refl w.heap.size w).alloc (Nat.le_refl _) (.cells #[.int .i64 c,.int .i64 r] 224)
 have Hb:=hid hb
 clear hb
 unfold nM
 cases h:ranged c 0 10
 · have h':=mW.1 h
   by_cases h1:c<0
   · have d1:decide (0≤c)=false:=decide_eq_false (by omega)
     clear h h'
     go_enter Tryz.func207,Tryz.ntmps207
     go_wp2
     go_ret
     exact⟨rfl,Hb.out⟩
   · have d1:decide (0≤c)=true:=decide_eq_true (by omega)
     have d2:decide (c≤10)=false:=decide_eq_false (by omega)
     clear h h'
     go_enter Tryz.func207,Tryz.ntmps207
     go_wp2
     go_ret
     exact⟨rfl,Hb.out⟩
 · have h':=aZ.1 h
   have d1:decide (0≤c)=true:=decide_eq_true h'.1
   have d2:decide (c≤10)=true:=decide_eq_true h'.2
   clear h h'
   go_enter Tryz.func207,Tryz.ntmps207
   go_wp2_with fail
   refine Calls.mono (E3 r _) ?_
   rintro e w1 ⟨rfl,rfl⟩
   go_wp2
   go_ret
   exact⟨rfl,Hb.out⟩
def Mv (c r:Int) (w:World) (e:Ending) (w':World):Prop:=e = .returned (.tuple #[.string (jX c r).1,.int .i64 (jX c r).2])∧Below w.heap.size w w'
theorem Kf (c r:Int) (w:World):Calls Tryz.prog 166 #[.agg #[.int .i64 c,.int .i64 r]] w (Mv c r w):=by
 have hb:=(Below.refl w.heap.size w).alloc (Nat.le_refl _) (.cells #[.int .i64 c,.int .i64 r] 224)
 have hB:Blk (w.alloc (.cells #[.int .i64 c,.int .i64 r] 224)) w.heap.size 224 #[.int .i64 c,.int .i64 r]:=heap_alloc_new w _
 have Hb:=hid hb
 have HB:=hid hB
 clear hb hB
 unfold Mv
 cases h:nM c r
 · rw [Ke h]
   have Hok:=hid h
   clear h
   go_enter Tryz.func166,Tryz.ntmps166
   go_wp2_with fail
   refine Calls.mono (xK c r _) ?_
   rintro e w1 ⟨rfl,hb1⟩
   rw [Hok.out]
   go_wp2
   exact bodyPost_ret (v:=.tuple #[.string ⟨#[]⟩,.int .i64 1]) (by simp [results,Tryz.results166,go_sem]) rfl ⟨rfl,Hb.out.trans (hb1.mono Hb.out.size)⟩
 · rw [GS h]
   have hr:=EZ.1 h
   have Hok:=hid h
   clear h
   go_enter Tryz.func166,Tryz.ntmps166
   go_wp2_with fail
   refine Calls.mono (xK c r _) ?_
   rintro e w1 ⟨rfl,hb1⟩
   rw [Hok.out]
   have HB1:=hid (HB.out.below hb1 HB.out.lt)
   have Hb1:=hid (Hb.out.trans (hb1.mono Hb.out.size))
   have hbl:=HB1.out.lt
   clear hb1 HB Hb
   have hA:=(Below.refl w1.heap.size w1).alloc (Nat.le_refl _) (.cells #[.slice none 0 0] 134)
   have hW:q8 (w1.alloc (.cells #[.slice none 0 0] 134)) w1.heap.size w1.heap.size []:=⟨Nat.le_refl _,none,0,0,heap_alloc_new w1 _,World.ownsRow_nil _ _ _ _⟩
   have HC:=hid (Ac w1.heap.size w1.heap.size [] c _ hr.1.1 (by omega) hW (by simp))
   have HB2:=hid (HB1.out.below hA hbl)
   have HA:=hid hA
   have c0:w1.cell? ⟨w.heap.size,0,none⟩=some (.int .i64 c):=HB1.out.cell 0
   clear hA hW
   go_wp2_with fail
   refine Calls.mono HC.out ?_
   rintro e w2 ⟨rfl,hw2,hk2⟩
   have hsz:=HA.out.size
   have hk3:=hk2.below (Nat.le_refl _) hsz
   have hB3:Blk w2 w.heap.size 224 #[.int .i64 c,.int .i64 r]:=(hk3.block w.heap.size hbl).trans HB2.out
   have c1:w2.cell? ⟨w.heap.size,1,none⟩=some (.int .i64 r):=hB3.cell 1
   have HC2:=hid (Ac w1.heap.size w1.heap.size _ r w2 hr.2.1 (by omega) hw2 (by have:=dP c.toNat; simp; omega))
   have HK:=hid (Hb1.out.trans ((HA.out.trans hk3).mono Hb1.out.size))
   have hs2:=Nat.le_trans hsz hk3.size
   clear hw2 hk2 hk3 hB3 HC HB2 HA hsz c0
   go_wp2_with fail
   refine Calls.mono HC2.out ?_
   rintro e w3 ⟨rfl,hw3,hk3⟩
   have HK3:=hid (HK.out.trans ((hk3.below (Nat.le_refl _) hs2).mono Hb1.out.size))
   rw [show [] ++ bg c.toNat ++ bg r.toNat=tF c r by simp [tF]] at hw3
   obtain⟨_,AA,m,cc,hBW,ho⟩:=hw3
   have z0:w3.cell? ⟨w1.heap.size,0,none⟩=some (.slice AA m cc):=hBW.cell 0
   have hrun:=cN Tryz.underlying118 Tryz.underlying5 Tryz.underlying9 ho
   clear hk3 hBW ho HC2 HK c1
   go_wp2
   exact bodyPost_ret (v:=.tuple #[.string ⟨(tF c r).toArray⟩,.int .i64 0]) (by simp [results,Tryz.results166,go_sem]) rfl ⟨rfl,HK3.out⟩
theorem IK (n:Int) (h0:0≤n) (h1:n<16) (W:World):(Instr.index 9 (.string ⟨#[48,49,50,51,52,53,54,55,56,57,97,98,99,100,101,102]⟩) (.int .u8 n)).run Tryz.prog W = .ok (.int .u8 ((zW n.toNat).toNat:Int)) W:=by
 have hsz:Gv.size=16:=rfl
 have hlt:n.toNat<Gv.size:=by omega
 have e:=run_index_string (P:=Tryz.prog) W 9 Gv .u8 n Tryz.underlying9
 rw [dif_pos ⟨h0,by omega⟩] at e
 refine e.trans ?_
 have h2:=N5 ⟨n.toNat,by omega⟩
 have h3:Gv.data.toList[n.toNat]? = some (Gv[n.toNat]'hlt):=by rw [List.getElem?_eq_getElem (by simpa using hlt)]; rfl
 simp only at h2
 rw [h3] at h2
 injection h2 with h2
 have h4:(Gv[n.toNat]'hlt).toNat=(zW n.toNat).toNat:=h2
 rw [h4]
def QInv (base:Nat) (A:Option Addr) (m c:Nat) (l:List UInt8) (s:ByteArray) (w:World) (v i:Value) (wr:World):Prop:=
 ∃ (A':Option Addr) (m' c' k:Nat),v = .slice A' m' c'∧i = .int .i64 k∧k≤s.size∧wr.ownsRow base 5 1 (.slice A' m' c') m' (aF (l ++ lZ (s.data.toList.take k)))∧dE w wr (.slice A m c) (.slice A' m' c')
theorem wo (base:Nat) (A:Option Addr) (m c:Nat) (l:List UInt8) (s:ByteArray) (w:World) (hown:w.ownsRow base 5 1 (.slice A m c) m (aF l)) (hm:m+6*s.size+8≤140737488355328) (hb:base≤w.heap.size) :
 Calls Tryz.prog 128 #[.slice A m c,.string s] w (Iw base A m c (l ++ aV s.data.toList) w):=by
 have hs:s.size≤140737488355328:=by omega
 have hl:l.length=m:=by have:=hown.1; simpa [aF] using this
 have Hl:=hid hl
 have Hm:=hid hm
 have Ho:=hid hown
 clear hm hl hown
 go_enter Tryz.func128,Tryz.ntmps128
 go_wp2_with (at_builtin; refine gC rfl _ _ rfl base _ _ _ _ rfl Ho.out _ 34 rfl rfl (by have:=Hm.out; omega) hb ?_; intro A1 c1 w1 ho1 hg1)
 go_loopw [0,5,6,12,22,33] (fun v _ _ i _ _ wr=>QInv base A m c l s w v i wr) (fun _ _ _ i _ _ _=>s.size - (intOf i).toNat)
 case atStart=>exact⟨A1,m+1,c1,0,rfl,rfl,by omega,by simpa [lZ] using ho1,hg1⟩
 case round=>
  clear ho1 hg1
  obtain⟨A',m',c',k,rfl,rfl,hk,ho,hg⟩:=hrel
  have hlen:m'≤m+6*s.size+1:=by
   have e2:=ho.1
   have e3:=tB (s.data.toList.take k)
   simp only [bK,List.length_append,List.length_take] at e2 e3
   have:=Hl.out
   omega
  have Hm':=hid (show m'+6≤140737488355328 from by have:=Hm.out; omega)
  have hbr:base≤wr.heap.size:=Nat.le_trans hb hg.grown.size
  clear hlen
  by_cases hsz:k<s.size
  · obtain⟨c,hc⟩:∃ c:UInt8,s[k]=c:=⟨_,rfl⟩
    have hc2:c.toNat<256:=c.toNat_lt
    have Hi:=l9 hsz (congrArg UInt8.toNat hc)
    have Hst:=hid (show lZ (s.data.toList.take (k+1))=lZ (s.data.toList.take k) ++ gI c from by rw [oG hsz,hc,EA])
    clear hc
    by_cases h34:c.toNat=34∨c.toNat=92
    · have Hesc:=hid (zX h34)
      rcases Nat.lt_or_ge c.toNat 35 with h | h
      · have e1:((c.toNat:Int) == 34)=true:=by rw [beq_iff_eq]; omega
        clear h34 h
        go_wp2_with (at_builtin; refine pT rfl _ _ rfl base _ _ _ _ rfl ho _ 2 (by decide) [92,c] rfl rfl rfl (by have:=Hm'.out; omega) hbr ?_; intro A2 c2 w2 ho2 hg2)
        go_roundw
        case rel=>exact⟨A2,m'+2,c2,k+1,rfl,by go_num,by omega,by rw [Hst.out,Hesc.out,← List.append_assoc]; exact ho2,hg.trans hg2⟩
        case measure=>simp [intOf]; omega
      · have e1:((c.toNat:Int) == 34)=false:=by rw [beq_eq_false_iff_ne]; omega
        have e2:((c.toNat:Int) == 92)=true:=by rw [beq_iff_eq]; omega
        clear h34 h
        go_wp2_with (at_builtin; refine pT rfl _ _ rfl base _ _ _ _ rfl ho _ 2 (by decide) [92,c] rfl rfl rfl (by have:=Hm'.out; omega) hbr ?_; intro A2 c2 w2 ho2 hg2)
        go_roundw
        case rel=>exact⟨A2,m'+2,c2,k+1,rfl,by go_num,by omega,by rw [Hst.out,Hesc.out,← List.append_assoc]; exact ho2,hg.trans hg2⟩
        case measure=>simp [intOf]; omega
    · have e1:((c.toNat:Int) == 34)=false:=by rw [beq_eq_false_iff_ne]; omega
      have e2:((c.toNat:Int) == 92)=false:=by rw [beq_eq_false_iff_ne]; omega
      by_cases h32:c.toNat<32
      · have Hlow:=hid (zY h32)
        have hx1:=IK ((c.toNat:Int) / 16) (by omega) (by omega)
        have hx2:=IK (bits .and .u8 (c.toNat:Int) 15) (by rw [Gw _ hc2]; omega) (by rw [Gw _ hc2]; omega)
        have Hlo:=hid (show (bits .and .u8 (c.toNat:Int) 15).toNat=c.toNat % 16 from by rw [Gw _ hc2]; omega)
        have Hhi:=hid (show ((c.toNat:Int) / 16).toNat=c.toNat / 16 from by omega)
        clear h34
        go_wp2
        go_region_law (refine Gx rfl _ _ rfl base _ _ _ _ rfl ho _ 6 _ [92,117,48,48,zW ((c.toNat:Int) / 16).toNat,zW (bits .and .u8 (c.toNat:Int) 15).toNat] rfl (by decide) rfl rfl Hm'.out hbr ?_; intro A2 c2 w2 ho2 hg2)
        all_goals go_wp2
        all_goals exact⟨⟨A2,m'+6,c2,k+1,rfl,by go_num,by omega,by rw [Hst.out,Hlow.out,← Hlo.out,← Hhi.out,← List.append_assoc]; exact ho2,hg.trans hg2⟩,by simp only [intOf]; omega⟩
      · have Hpl:=hid (uE (c:=c) (by omega) (by omega) h32)
        clear h34
        go_wp2_with (at_builtin; refine gC rfl _ _ rfl base _ _ _ _ rfl ho _ c rfl rfl (by have:=Hm'.out; omega) hbr ?_; intro A2 c2 w2 ho2 hg2)
        go_roundw
        case rel=>exact⟨A2,m'+1,c2,k+1,rfl,by go_num,by omega,by rw [Hst.out,Hpl.out,← List.append_assoc]; exact ho2,hg.trans hg2⟩
        case measure=>simp [intOf]; omega
  · have tX:=hid (show s.data.toList.take k=s.data.toList from List.take_of_length_le (by simp; omega))
    go_wp2_with (at_builtin; refine gC rfl _ _ rfl base _ _ _ _ rfl ho _ 34 rfl rfl (by have:=Hm'.out; omega) hbr ?_; intro A2 c2 w2 ho2 hg2)
    go_ret
    exact⟨A2,m'+1,c2,rfl,by rw [tX.out,List.append_assoc] at ho2; exact ho2,hg.trans hg2⟩
end Go.Proofs.YtcpgnjmaampglaaGreatDoor
