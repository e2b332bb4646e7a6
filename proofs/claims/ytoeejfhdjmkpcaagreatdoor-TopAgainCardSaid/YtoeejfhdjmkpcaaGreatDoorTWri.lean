/- Of the proof of a statement: Wri, SlEq. -/
import Derived.Deep.RegionWith
import Derived.Lib.AppendStr
import Derived.Test.YtoeejfhdjmkpcaaGreatDoorTEqRows
set_option linter.unusedVariables false
set_option linter.unusedSimpArgs false
set_option maxRecDepth 100000
set_option maxHeartbeats 8000000
/- The walks of a Writer: numbers and texts. -/
namespace Go.Proofs.YtoeejfhdjmkpcaaGreatDoor
open Go.Lib (hid)
open Go.RowKit
structure cR (base g:Nat) (w w':World):Prop where
 os:w'.os=w.os
 tape:w'.tape=w.tape
 output:w'.output=w.output
 size:w.heap.size≤w'.heap.size
 block:∀ k,k<w.heap.size→k≠g→(k<base∨∀ cs fz,w.heap[k]? ≠ some (.cells cs 5 fz))→w'.heap[k]? = w.heap[k]?
section
variable {base g:Nat} {w w' w'':World}
theorem cR.refl (w:World):cR base g w w:=⟨rfl,rfl,rfl,Nat.le_refl _,fun _ _ _ _=>rfl⟩
theorem cR.trans (h:cR base g w w') (h':cR base g w' w''):cR base g w w'':=
 ⟨h'.os.trans h.os,h'.tape.trans h.tape,h'.output.trans h.output,Nat.le_trans h.size h'.size,fun k hk hne hc=>by
  have e:=h.block k hk hne hc
  refine (h'.block k (Nat.lt_of_lt_of_le hk h.size) hne ?_).trans e
  rcases hc with hc | hc
  · exact .inl hc
  · exact .inr (fun cs fz he=>hc cs fz (e.symm.trans he))⟩
theorem cR.drew (w:World):cR base g w w.drew:=⟨rfl,rfl,rfl,Nat.le_refl _,fun _ _ _ _=>rfl⟩
theorem cR.of_below (hb:Below w.heap.size w w'):cR base g w w':=⟨hb.os,hb.tape,hb.output,hb.size,fun k hk _ _=>hb.block k hk⟩
theorem cR.below (h:cR base g w w') (hB:base≤g) (hs:base≤w.heap.size):Below base w w':=
 ⟨h.os,h.tape,h.output,h.size,fun k hk=>h.block k (Nat.lt_of_lt_of_le hk hs) (by omega) (.inl hk)⟩
theorem cR.blk {k:Nat} {t:TypeId} {cs:Array Value} (h:cR base g w w') (hk:Blk w k t cs) (ht:t ≠ 5) (hne:k≠g):Blk w' k t cs:=
 (h.block k hk.lt hne (.inr (fun cs' fz he=>by
  unfold Blk at hk
  rw [hk] at he
  simp only [Option.some.injEq,Obj.cells.injEq] at he
  exact ht he.2.1))).trans hk
theorem rL {v:Value} {n:Nat} {xs:List Value} (ho:w.ownsRow base 5 1 v n xs) {k:Nat} (hk:v.ownBlock=some k):base≤k∧∃ cs,w.heap[k]? = some (.cells cs 5 (0,0)):=by
 rcases ho.2 with ⟨rfl,_⟩ | ⟨q,cap,cur,rfl,hb,hg,_⟩
 · simp [Value.ownBlock] at hk
 · simp [Value.ownBlock] at hk
   subst hk
   exact⟨hb,_,hg⟩
theorem cR.jC {v:Value} {n:Nat} {xs:List Value} (ho:w.ownsRow base 5 1 v n xs) (hg:w.grownBy w' v.ownBlock):cR base g w w':=
 ⟨hg.os,hg.tape,hg.output,hg.size,fun k hk _ hc=>hg.block k hk (fun e=>by
  obtain⟨h1,cs,h2⟩:=rL ho e.symm
  rcases hc with hc | hc
  · omega
  · exact hc _ _ h2)⟩
theorem cR.set (w:World) (i:Nat) (u:Value):cR base g w (w.setCell ⟨g,i,none⟩ u):=
 ⟨rfl,rfl,rfl,by simp [World.setCell],fun k _ hne _=>Below.heap_setCell w ⟨g,i,none⟩ u k hne⟩
end
def nA (w:World) (base g:Nat) (l:List UInt8):Prop:=base≤g∧∃ A m c,Blk w g 131 #[.slice A m c]∧w.ownsRow base 5 1 (.slice A m c) m (bf l)
theorem Da {w:World} {base:Nat} {v:Value} {n:Nat} {xs:List Value} (ho:w.ownsRow base 5 1 v n xs):∃ A c,v = .slice A n c:=by
 rcases ho.2 with ⟨rfl,h⟩ | ⟨q,cap,cur,rfl,_⟩
 · subst h; exact⟨_,_,rfl⟩
 · exact⟨_,_,rfl⟩
theorem own_below {w w':World} {base:Nat} {v:Value} {n:Nat} {xs:List Value} (ho:w.ownsRow base 5 1 v n xs) (hb:Below w.heap.size w w'):w'.ownsRow base 5 1 v n xs:=by
 rcases ho with ⟨h1,h | ⟨q,cap,cur,hv,hq,hg,r⟩⟩
 · exact⟨h1,.inl h⟩
 · have hlt:q<w.heap.size:=(Array.getElem?_eq_some_iff.1 hg).1
   exact⟨h1,.inr ⟨q,cap,cur,hv,hq,(hb.block q hlt).trans hg,r⟩⟩
theorem nA.below {w w':World} {base g:Nat} {l:List UInt8} (h:nA w base g l) (hb:Below w.heap.size w w'):nA w' base g l:=by
 obtain⟨h1,A,m,c,h2,h3⟩:=h
 exact⟨h1,A,m,c,h2.below hb h2.lt,own_below h3 hb⟩
theorem nA.lt {w:World} {base g:Nat} {l:List UInt8} (h:nA w base g l):g<w.heap.size:=by
 obtain⟨_,A,m,c,h2,_⟩:=h
 exact h2.lt
theorem nV {w:World} {base:Nat} {A:Option Addr} {m c:Nat} {l:List UInt8} (h:w.ownsRow base 5 1 (.slice A m c) m (bf l)):l.length=m:=by
 have:=h.1
 rw [dN,Nat.mul_one] at this
 exact this
def Ft (base g:Nat) (l:List UInt8) (w:World) (e:Ending) (w':World):Prop:=e = .returned (.tuple #[])∧nA w' base g l∧cR base g w w'
theorem GR {w:World} {base:Nat} {v:Value} {n:Nat} {xs:List Value} {a:Addr} (ho:w.ownsRow base 5 1 v n xs) (ha:v.ownBlock≠some a.block) (u:Value):(w.setCell a u).ownsRow base 5 1 v n xs:=by
 rcases ho with ⟨h1,h | ⟨q,cap,cur,hv,hq,hg,r⟩⟩
 · exact⟨h1,.inl h⟩
 · refine⟨h1,.inr ⟨q,cap,cur,hv,hq,?_,r⟩⟩
   rw [Below.heap_setCell w a u q (fun e=>ha (by rw [hv]; simp [Value.ownBlock,e]))]
   exact hg
theorem nA.put {w w1:World} {base g:Nat} {A A':Option Addr} {m c m' c':Nat} {l l':List UInt8} (hbg:base≤g) (hB:Blk w g 131 #[.slice A m c]) (ho:w.ownsRow base 5 1 (.slice A m c) m (bf l))
 (ho':w1.ownsRow base 5 1 (.slice A' m' c') m' (bf l')) (hg:w.grownBy w1 (Value.slice A m c).ownBlock) :
 Blk w1 g 131 #[.slice A m c]∧nA (w1.setCell ⟨g,0,none⟩ (.slice A' m' c')) base g l'∧cR base g w (w1.setCell ⟨g,0,none⟩ (.slice A' m' c')):=by
 have hne:some g≠(Value.slice A m c).ownBlock:=fun e=>by
  obtain⟨_,cs,h2⟩:=rL ho e.symm
  unfold Blk at hB
  rw [hB] at h2
  simp only [Option.some.injEq,Obj.cells.injEq] at h2
  exact absurd h2.2.1 (by decide)
 have hB1:Blk w1 g 131 #[.slice A m c]:=(hg.block g hB.lt hne).trans hB
 refine⟨hB1,⟨hbg,A',m',c',Blk.eq (hB1.set 0 _) (by simp),GR ho' (fun e=>?_) _⟩,(cR.jC ho hg).trans (cR.set w1 0 _)⟩
 obtain⟨_,cs,h2⟩:=rL ho' e
 unfold Blk at hB1
 rw [hB1] at h2
 simp only [Option.some.injEq,Obj.cells.injEq] at h2
 exact absurd h2.2.1 (by decide)
theorem uq (base g:Nat) (l:List UInt8) (n:Int) (w:World) (h0:0≤n) (h1:n≤9223372036854775807) (h:nA w base g l) (hl:l.length≤100000000) :
 Calls Tryz.prog 59 #[.pointer (some ⟨g,0,none⟩),.int .i64 n] w (Ft base g (l ++ bI n.toNat) w):=by
 obtain⟨hbg,A,m,c,hB,ho⟩:=h
 have hm:=nV ho
 have y0:w.cell? ⟨g,0,none⟩=some (.slice A m c):=hB.cell 0
 have hgl:=hB.lt
 have hcon:=hid (xF base A m c l n w h0 (by omega) ho (by omega) (by omega))
 have HB:=hid hB
 have HO:=hid ho
 clear hB ho hm
 go_enter Tryz.func59,Tryz.ntmps59
 go_wp2_with fail
 refine Calls.mono hcon.out ?_
 rintro e w1 ⟨A',m',c',rfl,ho',hg'⟩
 obtain⟨hB1,hfin,hkeep⟩:=nA.put hbg HB.out HO.out ho' hg'.grown
 have z0:w1.cell? ⟨g,0,none⟩=some (.slice A m c):=hB1.cell 0
 have zt:w1.frozen? ⟨g,0,none⟩=false:=hB1.thaw 0
 have aR:=hid (And.intro hfin hkeep)
 clear hcon ho' hg' hfin hkeep hB1 y0
 go_wp2
 go_end0
 exact⟨rfl,aR.out.1,aR.out.2⟩
theorem C6 (base g:Nat) (l:List UInt8) (s:ByteArray) (w:World) (hs:s.size≤9223372036854775807) (hT:Tabs w) (h:nA w base g l) (hl:l.length≤100000000) (hbw:base≤w.heap.size) :
 Calls Tryz.prog 69 #[.pointer (some ⟨g,0,none⟩),.string s] w (Ft base g (l ++ (p8 s).1.data.toList) w):=by
 have hcon:=hid (Ew s w hs hT)
 have H:=hid h
 clear h hT
 go_enter Tryz.func69,Tryz.ntmps69
 go_wp2_with fail
 refine Calls.mono hcon.out ?_
 rintro e w0 ⟨rfl,hb0⟩
 obtain⟨hbg,A,m,c,hB,ho⟩:=H.out.below hb0
 have hts:(p8 s).1.size≤17:=by
  unfold p8
  split
  · show (0:Nat)≤17; omega
  · split
    · rw [ByteArray.size_append]; show 1+s.size≤17; omega
    · show (0:Nat)≤17; omega
 generalize htt:(p8 s).1=t at hts ⊢
 have Htt:=hid htt
 clear htt
 generalize (p8 s).2=E
 have hm:=nV ho
 have y0:w0.cell? ⟨g,0,none⟩=some (.slice A m c):=hB.cell 0
 have hgl:=hB.lt
 have HB:=hid hB
 have HO:=hid ho
 have hb0s:=hb0.size
 have Hb0:=hid hb0
 have hmm:m≤100000000:=by omega
 clear hcon hB ho hb0
 have hbw0:base≤w0.heap.size:=by omega
 obtain⟨i0,hi,hz0,hz1,hz2⟩:=info_parts Tryz.infoU8
 have e1:bf l ++ Lib.strCells t=bf (l ++ t.data.toList):=by rw [eV]; rfl
 go_wp2_with (at_builtin; refine Lib.wpList_append_own_string _ rfl _ _ _ _ rfl base 5 i0 Tryz.underlying129 Tryz.underlying9 hi hz0 hz1 hz2 _ m _ rfl HO.out t rfl (by unfold maxLen; omega) (by omega) hbw0 ?_; intro v' w1 ho' hg' _; obtain⟨A',c',rfl⟩:=Da ho'; rw [e1] at ho'; have hput:=nA.put hbg HB.out HO.out ho' hg'; have z0:w1.cell? ⟨g,0,none⟩=some (.slice A m c):=hput.1.cell 0; have zt:w1.frozen? ⟨g,0,none⟩=false:=hput.1.thaw 0)
 all_goals (go_end0; exact⟨rfl,by rw [Htt.out]; exact hput.2.1,(cR.of_below Hb0.out).trans hput.2.2⟩)
theorem zQ (base g:Nat) (l:List UInt8) (n:Int) (w:World) (h0 : -9223372036854775808≤n) (h1:n≤9223372036854775807) (h:nA w base g l) (hl:l.length≤100000000) (hbw:base≤w.heap.size) :
 Calls Tryz.prog 165 #[.pointer (some ⟨g,0,none⟩),.int .i64 n] w (Ft base g (l ++ bI (lV n).toNat) w):=by
 obtain⟨hbg,A,m,c,hB,ho⟩:=h
 have hm:=nV ho
 have y0:w.cell? ⟨g,0,none⟩=some (.slice A m c):=hB.cell 0
 have hgl:=hB.lt
 have hz0:0≤lV n∧lV n<18446744073709551616:=by unfold lV; split <;> omega
 generalize hzz:lV n=z at hz0 ⊢
 have hZ:∀ W,Calls Tryz.prog 261 #[.int .i64 n] W fun e w'=>e = .returned (.int .u64 z)∧W=w':=fun W=>by rw [← hzz]; exact Gs n h0 h1 W
 have hcon:=hid (xF base A m c l z w.drew hz0.1 hz0.2 ho (by omega) hbw)
 have HZ:=hid hZ
 have HB:=hid hB
 have HO:=hid ho
 clear hB ho hm hZ hzz
 go_enter Tryz.func165,Tryz.ntmps165
 go_wp2_with fail
 go_region_with (first
  | (go_at_call 261; refine (HZ.out _).mono ?_; rintro e w' ⟨rfl,rfl⟩)
  | (go_at_call 164; refine (hcon.out).mono ?_; rintro e w1 ⟨A',m',c',rfl,ho',hg'⟩; have hput:=nA.put (w:=w.drew) hbg HB.out HO.out ho' hg'.grown; have z0:w1.cell? ⟨g,0,none⟩=some (.slice A m c):=hput.1.cell 0; have zt:w1.frozen? ⟨g,0,none⟩=false:=hput.1.thaw 0))
 all_goals (go_end0; exact⟨rfl,hput.2.1,(cR.drew w).trans hput.2.2⟩)
end Go.Proofs.YtoeejfhdjmkpcaaGreatDoor
/- slices.Equal at rows of records: true just where the lists are the same. -/
namespace Go.Proofs.YtoeejfhdjmkpcaaGreatDoor
open Go.Lib (hid)
open Go.RowKit
theorem Fq (xs ys:List aD) (A A':Option Addr) (n m c c':Nat) (w:World) (hx:aW w w.heap.size 5 A n (au aL xs)) (hy:aW w w.heap.size 5 A' m (au aL ys)) (lx:xs.length=n) (ly:ys.length=m) (hn:n≤9223372036854775807) (hm:m≤9223372036854775807) :
 Calls Tryz.prog 145 #[.slice A n c,.slice A' m c'] w (ni xs ys w):=by
 by_cases h:n=m
 · subst h
   have h0:((n:Int) != n)=false:=by simp
   have Lx:=hid lx
   have Ly:=hid ly
   clear lx ly
   go_enter Tryz.func145,Tryz.ntmps145
   go_wp2
   go_loopw [13] (fun i wr=>vQ xs ys n w i wr) (fun i _=>n - (intOf i).toNat)
   case atStart=>exact⟨0,Nat.zero_le _,rfl,rfl,Below.refl _ _⟩
   case round=>
    obtain⟨k,hk,rfl,he,hb⟩:=hrel
    have He:=hid he
    clear he
    by_cases hlt:k<n
    · obtain⟨x,hxk⟩:∃ x,xs[k]? = some x:=⟨_,List.getElem?_eq_getElem (by rw [Lx.out]; exact hlt)⟩
      obtain⟨y,hyk⟩:∃ y,ys[k]? = some y:=⟨_,List.getElem?_eq_getElem (by rw [Ly.out]; exact hlt)⟩
      obtain⟨b,off,rfl,hbB,hc⟩:=(hx.below hb).cV aT Lx.out hxk
      obtain⟨b',off',rfl,oY,hc'⟩:=(hy.below hb).cV aT Ly.out hyk
      obtain⟨bR,eY,eZ,dO,hO⟩:=x
      obtain⟨bM,eI,eJ,dw,gO⟩:=y
      have c0:wr.cell? ⟨b,off+k*5,none⟩=some (.string bR):=hc 0 _ rfl
      have d0:wr.cell? ⟨b',off'+k*5,none⟩=some (.string bM):=hc' 0 _ rfl
      have c1:wr.cell? ⟨b,off+k*5+1,none⟩=some (.int .i64 eY):=hc 1 _ rfl
      have d1:wr.cell? ⟨b',off'+k*5+1,none⟩=some (.int .i64 eI):=hc' 1 _ rfl
      have c2:wr.cell? ⟨b,off+k*5+2,none⟩=some (.int .i64 eZ):=hc 2 _ rfl
      have d2:wr.cell? ⟨b',off'+k*5+2,none⟩=some (.int .i64 eJ):=hc' 2 _ rfl
      have c3:wr.cell? ⟨b,off+k*5+3,none⟩=some (.int .i64 dO):=hc 3 _ rfl
      have d3:wr.cell? ⟨b',off'+k*5+3,none⟩=some (.int .i64 dw):=hc' 3 _ rfl
      have c4:wr.cell? ⟨b,off+k*5+4,none⟩=some (.string hO):=hc 4 _ rfl
      have d4:wr.cell? ⟨b',off'+k*5+4,none⟩=some (.string gO):=hc' 4 _ rfl
      have hsz:=hb.size
      have hlt1:b<wr.heap.size:=by omega
      have hlt2:b'<wr.heap.size:=by omega
      have Hb:=hid hb
      have Hxk:=hid hxk
      have Hyk:=hid hyk
      have fin:=hid Hb.out.drew
      have step:=hid (fun (h:(⟨bR,eY,eZ,dO,hO⟩:aD)=⟨bM,eI,eJ,dw,gO⟩)=>fZ (hxk.trans (congrArg some h)) hyk He.out)
      have stop:=hid (fun (h:(⟨bR,eY,eZ,dO,hO⟩:aD)≠⟨bM,eI,eJ,dw,gO⟩)=>jZ hxk hyk h)
      clear hc hc' hx hy hxk hyk hb
      obtain⟨t,ht,hrun,-⟩:=tV bR bM hO gO eY eI eZ eJ dO dw
      have HT:=hid ht
      cases t
      · have nk:=hid (stop.out (fun h=>absurd (HT.out.2 h) (by decide)))
        have hrun':∀ W,(binOp .neq 34 (.agg #[.string bR,.int .i64 eY,.int .i64 eZ,.int .i64 dO,.string hO]) (.agg #[.string bM,.int .i64 eI,.int .i64 eJ,.int .i64 dw,.string gO])).run Tryz.prog W = .ok (.bool true) W:=hrun
        clear ht hrun step
        go_wp2
        go_region
        go_wp2
        go_ret
        exact⟨false,rfl,⟨fun h=>(by cases h),fun h=>absurd h nk.out⟩,fin.out⟩
      · have step2:=hid (step.out (HT.out.1 rfl))
        have hrun':∀ W,(binOp .neq 34 (.agg #[.string bR,.int .i64 eY,.int .i64 eZ,.int .i64 dO,.string hO]) (.agg #[.string bM,.int .i64 eI,.int .i64 eJ,.int .i64 dw,.string gO])).run Tryz.prog W = .ok (.bool false) W:=hrun
        clear ht hrun stop
        go_wp2
        go_region
        go_wp2
        go_roundw
        case rel=>exact⟨k+1,by omega,by go_num,step2.out,fin.out⟩
        case measure=>simp [intOf]; omega
    · have fin:=hid hb
      have same:=hid (show xs=ys by
       have e:=He.out
       rwa [List.take_of_length_le (by rw [Lx.out]; omega),List.take_of_length_le (by rw [Ly.out]; omega)] at e)
      clear hb hx hy
      go_wp2
      go_ret
      exact⟨true,rfl,⟨fun _=>same.out,fun _=>rfl⟩,fin.out⟩
 · have h0:((n:Int) != m)=true:=by simp; omega
   have fin:=hid (show xs≠ys by rintro rfl; omega)
   clear lx ly hx hy
   go_enter Tryz.func145,Tryz.ntmps145
   go_wp2
   go_ret
   exact⟨false,rfl,⟨fun h=>(by cases h),fun h=>absurd h fin.out⟩,Below.refl _ _⟩
theorem C7 (xs ys:List aA) (A A':Option Addr) (n m c c':Nat) (w:World) (hx:aW w w.heap.size 3 A n (au aC xs)) (hy:aW w w.heap.size 3 A' m (au aC ys)) (lx:xs.length=n) (ly:ys.length=m) (hn:n≤9223372036854775807) (hm:m≤9223372036854775807) :
 Calls Tryz.prog 146 #[.slice A n c,.slice A' m c'] w (ni xs ys w):=by
 by_cases h:n=m
 · subst h
   have h0:((n:Int) != n)=false:=by simp
   have Lx:=hid lx
   have Ly:=hid ly
   clear lx ly
   go_enter Tryz.func146,Tryz.ntmps146
   go_wp2
   go_loopw [13] (fun i wr=>vQ xs ys n w i wr) (fun i _=>n - (intOf i).toNat)
   case atStart=>exact⟨0,Nat.zero_le _,rfl,rfl,Below.refl _ _⟩
   case round=>
    obtain⟨k,hk,rfl,he,hb⟩:=hrel
    have He:=hid he
    clear he
    by_cases hlt:k<n
    · obtain⟨x,hxk⟩:∃ x,xs[k]? = some x:=⟨_,List.getElem?_eq_getElem (by rw [Lx.out]; exact hlt)⟩
      obtain⟨y,hyk⟩:∃ y,ys[k]? = some y:=⟨_,List.getElem?_eq_getElem (by rw [Ly.out]; exact hlt)⟩
      obtain⟨b,off,rfl,hbB,hc⟩:=(hx.below hb).cV aM Lx.out hxk
      obtain⟨b',off',rfl,oY,hc'⟩:=(hy.below hb).cV aM Ly.out hyk
      obtain⟨bR,fu,fq⟩:=x
      obtain⟨bM,eL,eK⟩:=y
      have c0:wr.cell? ⟨b,off+k*3,none⟩=some (.string bR):=hc 0 _ rfl
      have d0:wr.cell? ⟨b',off'+k*3,none⟩=some (.string bM):=hc' 0 _ rfl
      have c1:wr.cell? ⟨b,off+k*3+1,none⟩=some (.int .i64 fu):=hc 1 _ rfl
      have d1:wr.cell? ⟨b',off'+k*3+1,none⟩=some (.int .i64 eL):=hc' 1 _ rfl
      have c2:wr.cell? ⟨b,off+k*3+2,none⟩=some (.string fq):=hc 2 _ rfl
      have d2:wr.cell? ⟨b',off'+k*3+2,none⟩=some (.string eK):=hc' 2 _ rfl
      have hsz:=hb.size
      have hlt1:b<wr.heap.size:=by omega
      have hlt2:b'<wr.heap.size:=by omega
      have Hb:=hid hb
      have Hxk:=hid hxk
      have Hyk:=hid hyk
      have fin:=hid Hb.out.drew
      have step:=hid (fun (h:(⟨bR,fu,fq⟩:aA)=⟨bM,eL,eK⟩)=>fZ (hxk.trans (congrArg some h)) hyk He.out)
      have stop:=hid (fun (h:(⟨bR,fu,fq⟩:aA)≠⟨bM,eL,eK⟩)=>jZ hxk hyk h)
      clear hc hc' hx hy hxk hyk hb
      obtain⟨t,ht,hrun,-⟩:=qY bR bM fq eK fu eL
      have HT:=hid ht
      cases t
      · have nk:=hid (stop.out (fun h=>absurd (HT.out.2 h) (by decide)))
        have hrun':∀ W,(binOp .neq 36 (.agg #[.string bR,.int .i64 fu,.string fq]) (.agg #[.string bM,.int .i64 eL,.string eK])).run Tryz.prog W = .ok (.bool true) W:=hrun
        clear ht hrun step
        go_wp2
        go_region
        go_wp2
        go_ret
        exact⟨false,rfl,⟨fun h=>(by cases h),fun h=>absurd h nk.out⟩,fin.out⟩
      · have step2:=hid (step.out (HT.out.1 rfl))
        have hrun':∀ W,(binOp .neq 36 (.agg #[.string bR,.int .i64 fu,.string fq]) (.agg #[.string bM,.int .i64 eL,.string eK])).run Tryz.prog W = .ok (.bool false) W:=hrun
        clear ht hrun stop
        go_wp2
        go_region
        go_wp2
        go_roundw
        case rel=>exact⟨k+1,by omega,by go_num,step2.out,fin.out⟩
        case measure=>simp [intOf]; omega
    · have fin:=hid hb
      have same:=hid (show xs=ys by
       have e:=He.out
       rwa [List.take_of_length_le (by rw [Lx.out]; omega),List.take_of_length_le (by rw [Ly.out]; omega)] at e)
      clear hb hx hy
      go_wp2
      go_ret
      exact⟨true,rfl,⟨fun _=>same.out,fun _=>rfl⟩,fin.out⟩
 · have h0:((n:Int) != m)=true:=by simp; omega
   have fin:=hid (show xs≠ys by rintro rfl; omega)
   clear lx ly hx hy
   go_enter Tryz.func146,Tryz.ntmps146
   go_wp2
   go_ret
   exact⟨false,rfl,⟨fun h=>(by cases h),fun h=>absurd h fin.out⟩,Below.refl _ _⟩
end Go.Proofs.YtoeejfhdjmkpcaaGreatDoor
