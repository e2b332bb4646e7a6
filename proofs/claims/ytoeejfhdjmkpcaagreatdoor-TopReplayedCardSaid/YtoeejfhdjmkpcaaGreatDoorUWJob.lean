/- Of the proof of a statement: RowsC, WJob. -/
import Derived.Lib.QuietBelow
import Derived.Deep.QuietTactic
import Derived.BigQuiet
import Derived.Test.YtoeejfhdjmkpcaaGreatDoorUWri
set_option linter.unusedVariables false
set_option linter.unusedSimpArgs false
set_option maxRecDepth 100000
set_option maxHeartbeats 8000000
/- The walk of Rows at leases, each checked alone. -/
namespace Go.Proofs.YtoeejfhdjmkpcaaGreatDoor
open Go.Lib (hid)
open Go.RowKit
theorem o8 (n lo hi:Int) (w:World):Calls Tryz.prog 154 #[.int .i64 n,.int .i64 lo,.int .i64 hi] w fun e w'=>e = .returned (.bool (ranged n lo hi))∧w=w':=by
 cases h:ranged n lo hi
 · have h:=iw.1 h
   by_cases h1:lo≤n
   · have e2:decide (n≤hi)=false:=decide_eq_false (by omega)
     clear h
     go_enter Tryz.func154,Tryz.ntmps154
     go_wp2
     go_ret
     exact⟨rfl,rfl⟩
   · have e1:decide (lo≤n)=false:=decide_eq_false h1
     clear h
     go_enter Tryz.func154,Tryz.ntmps154
     go_wp2
     go_ret
     exact⟨rfl,rfl⟩
 · have h:=aZ.1 h
   have h1:=h.1
   have e2:decide (n≤hi)=true:=decide_eq_true h.2
   clear h
   go_enter Tryz.func154,Tryz.ntmps154
   go_wp2
   go_ret
   exact⟨rfl,rfl⟩
theorem yO (l:ah) (w:World) (h1:l.job.size≤9223372036854775807) (h2:l.node.size≤9223372036854775807) (hT:Tabs w) :
 Calls Tryz.prog 160 #[.agg (ay l).toArray] w fun e w'=>e = .returned (.int .i64 (lsE l))∧Below w.heap.size w w':=by
 obtain⟨E,hE⟩:∃ E,lsE l=E:=⟨_,rfl⟩
 rw [hE]
 have HE:=hid hE
 clear hE
 obtain⟨job,node,till⟩:=l
 unfold ay
 simp only at h1 h2 ⊢
 have hb0:Below w.heap.size w (w.alloc (.cells #[.string job,.string node,.int .i64 till] 38)):=(Below.refl _ _).alloc (Nat.le_refl _) _
 have hT0:=hT.below hb0
 have hN:=hid (fU job _ h1 hT0)
 have HT:=hid hT0
 have HB:=hid hb0
 clear hT0 hb0 hT
 go_enter Tryz.func160,Tryz.ntmps160
 go_wp2_with fail
 refine Calls.mono hN.out ?_
 rintro e w1 ⟨rfl,hb1⟩
 have y1:w1.cell? ⟨w.heap.size,1,none⟩=some (.string node):=by rw [(dN hb1).1 _ _ (by simp)]; simp [go_sem]
 have y2:w1.cell? ⟨w.heap.size,2,none⟩=some (.int .i64 till):=by rw [(dN hb1).1 _ _ (by simp)]; simp [go_sem]
 have HB1:=hid (HB.out.trans (hb1.mono HB.out.size))
 have HT1:=hid (HT.out.below hb1)
 have hsz:w.heap.size<w1.heap.size:=by have:=hb1.size; simp at this; omega
 clear hb1 HB HT hN
 cases hn:bR job
 · go_wp2
   go_ret
   exact⟨bA (by rw [← HE.out]; simp [lsE,hn]),HB1.out⟩
 go_wp2_with fail
 refine Calls.mono (fU node w1 h2 HT1.out) ?_
 rintro e w2 ⟨rfl,hb2⟩
 replace y2:=((dN hb2).1 _ _ hsz).trans y2
 have HB2:=hid (HB1.out.trans (hb2.mono HB1.out.size))
 clear y1 hb2 HB1 HT1 hsz
 cases ht:bR node
 · go_wp2
   go_ret
   exact⟨bA (by rw [← HE.out]; simp [lsE,hn,ht]),HB2.out⟩
 go_wp2_with fail
 refine Calls.mono (o8 _ _ _ _) ?_
 rintro e w3 ⟨rfl,rfl⟩
 cases hr1:ranged till 0 1099511627776
 · go_wp2
   go_ret
   exact⟨bA (by rw [← HE.out]; simp [lsE,hn,ht,hr1]),HB2.out⟩
 · go_wp2
   go_ret
   exact⟨bA (by rw [← HE.out]; simp [lsE,hn,ht,hr1]),HB2.out⟩
def Gd (xs:List ah):Prop:=∀ x ∈ xs,x.job.size≤9223372036854775807∧x.node.size≤9223372036854775807
def Ge (xs:List ah) (n:Nat) (R:Int) (w:World) (i:Value) (wr:World):Prop:=∃ k:Nat,k≤n∧i = .int .i64 k∧dS lsE ah.job (prevK ah.job xs k) (xs.drop k)=R∧Below w.heap.size w wr
theorem xF (xs:List ah) (A:Option Addr) (n c:Nat) (w:World) (hx:aQ w w.heap.size 3 A n (au ay xs)) (hl:xs.length=n) (hn:n≤9223372036854775807) (hok:Gd xs) (hT:Tabs w) :
 Calls Tryz.prog 159 #[.slice A n c,.func (.func 87) #[] #[],.func (.func 160) #[] #[]] w fun e w'=>e = .returned (.int .i64 (bZ lsE ah.job xs))∧Below w.heap.size w w':=by
 obtain⟨R,hR⟩:∃ R,bZ lsE ah.job xs=R:=⟨_,rfl⟩
 rw [hR]
 have HR:=hid hR
 have Hl:=hid hl
 have HT:=hid hT
 have Hok:=hid hok
 clear hl hR hT hok
 go_enter Tryz.func159,Tryz.ntmps159
 go_wp2
 go_loopw [6,7,8,9,12,19,28,35] (fun _ _ _ _ i _ _ _ wr=>Ge xs n R w i wr) (fun _ _ _ _ i _ _ _ _=>n - (intOf i).toNat)
 case atStart=>exact⟨0,Nat.zero_le _,rfl,by rw [← HR.out]; rfl,Below.refl _ _⟩
 case round=>
  obtain⟨k,hk,rfl,hrow,hb⟩:=hrel
  have dW:=hid hrow
  have Hb:=hid hb
  have hsz:=hb.size
  clear hrow
  by_cases hlt:k<n
  · obtain⟨x,hf⟩:∃ x,xs[k]? = some x:=⟨_,List.getElem?_eq_getElem (by rw [Hl.out]; exact hlt)⟩
    obtain⟨b,off,rfl,hbB,hc⟩:=(hx.below hb).cR aH Hl.out hf
    have hso:=hid (Hok.out x (List.mem_of_getElem? hf))
    have Hf:=hid hf
    have hkey:x.job=ah.job x:=rfl
    obtain⟨E,hE⟩:∃ E,lsE x=E:=⟨_,rfl⟩
    have HE:=hid hE
    obtain⟨X,hX⟩:∃ X,X=x:=⟨_,rfl⟩
    have HX:=hid hX
    obtain⟨job,node,till⟩:=x
    obtain⟨c0,c1,c2⟩:=rc3 hc
    clear hc hf hE hX hkey
    have hlb:b<wr.heap.size:=by omega
    have hT1:=hid (HT.out.below (Hb.out.alloc Hb.out.size (.cells #[.string job,.string node,.int .i64 till] 38)))
    have hBa:=hid (Hb.out.alloc Hb.out.size (.cells #[.string job,.string node,.int .i64 till] 38))
    go_wp2_with fail
    refine Calls.mono (yO ⟨job,node,till⟩ _ hso.out.1 hso.out.2 hT1.out) ?_
    rintro e w1 ⟨rfl,hb1⟩
    rw [HE.out]
    have hA0:=(Below.refl wr.heap.size wr).alloc (Nat.le_refl _) (.cells #[.string job,.string node,.int .i64 till] 38)
    have hA1:=hA0.trans (hb1.mono hA0.size)
    have hB1:=hid (hBa.out.trans (hb1.mono hBa.out.size))
    by_cases he:E=0
    · subst he
      have l0:∀ d os,(Sort.grow (redrawn w1 d) os).cell? ⟨wr.heap.size,0,none⟩=some (.string job):=fun d os=>cell_regrown (by rw [(dN hb1).1 _ _ (by simp)]; simp [go_sem]) d os
      have l1:∀ d os,(Sort.grow (redrawn w1 d) os).cell? ⟨wr.heap.size,1,none⟩=some (.string node):=fun d os=>cell_regrown (by rw [(dN hb1).1 _ _ (by simp)]; simp [go_sem]) d os
      have l2:∀ d os,(Sort.grow (redrawn w1 d) os).cell? ⟨wr.heap.size,2,none⟩=some (.int .i64 till):=fun d os=>cell_regrown (by rw [(dN hb1).1 _ _ (by simp)]; simp [go_sem]) d os
      by_cases hk0:k=0
      · subst hk0
        have hst:=hid (jG (key:=ah.job) Hf.out HE.out (.inl rfl))
        clear c0 c1 c2 hb1 hx hA0 hA1
        go_wp2_with fail
        refine wp_region_quiet_below (by kernel_rfl) (by kernel_rfl) ?_
        repeat (go_big_quiet_step (fail))
        refine wpQuiet_nil ?_
        intro _ hw'
        obtain⟨⟨nq,osq⟩,hw''⟩:=hw'
        subst hw''
        have hb2:=hid (hB1.out.trans ((below_regrown w1 nq osq).mono hB1.out.size))
        clear l0 l1 l2
        dsimp only
        generalize Sort.grow (redrawn w1 nq) osq=w2 at hb2 ⊢
        go_wp2
        go_roundw
        case rel=>exact⟨1,by omega,by go_num,by rw [← hst.out]; exact dW.out,hb2.out⟩
        case measure=>simp [intOf]; omega
      · obtain⟨y,hy⟩:∃ y,xs[k - 1]? = some y:=⟨_,List.getElem?_eq_getElem (by rw [Hl.out]; omega)⟩
        obtain⟨b',off',hbo,qU,hp⟩:=(hx.below hb).cR aH Hl.out hy
        obtain⟨rfl,rfl⟩:b=b'∧off=off':=by simpa using hbo
        have Hy:=hid hy
        obtain⟨Y,hY⟩:∃ Y,Y=y:=⟨_,rfl⟩
        obtain⟨rY,Jf,Jg⟩:=y
        obtain⟨q0,q1,q2⟩:=rc3 hp
        have p0:∀ d os,(Sort.grow (redrawn w1 d) os).cell? ⟨b,off+(k - 1)*3,none⟩=some (.string rY):=fun d os=>cell_regrown (((dN hA1).1 _ _ hlb).trans q0) d os
        have p1:∀ d os,(Sort.grow (redrawn w1 d) os).cell? ⟨b,off+(k - 1)*3+1,none⟩=some (.string Jf):=fun d os=>cell_regrown (((dN hA1).1 _ _ hlb).trans q1) d os
        have p2:∀ d os,(Sort.grow (redrawn w1 d) os).cell? ⟨b,off+(k - 1)*3+2,none⟩=some (.int .i64 Jg):=fun d os=>cell_regrown (((dN hA1).1 _ _ hlb).trans q2) d os
        clear q0 q1 q2 c0 c1 c2 hp hy hY hb1 hx hA0 hA1
        have hkp:decide ((0:Int)<(k:Int))=true:=decide_eq_true (by omega)
        have hkn:0<k:=by omega
        have hlt2:=hid (dY rY.toList job.toList)
        obtain⟨B,hB⟩:∃ B,Op.bytesLess rY.toList job.toList=B:=⟨_,rfl⟩
        have HL:=hid hB
        cases B
        · have e1:(Op.bytesLess job.toList rY.toList || job.toList == rY.toList)=true:=by rw [← hlt2.out,hB]; rfl
          have hst:=hid (oz (key:=ah.job) Hf.out HE.out hk0 Hy.out HL.out)
          clear hB
          go_wp2_with fail
          refine wp_region_quiet_below (by kernel_rfl) (by kernel_rfl) ?_
          repeat (go_big_quiet_step ((go_at_call 87; exact Calls.regrown_of (cZ _ _ _ _))))
          refine wpQuiet_nil ?_
          intro _ hw'
          obtain⟨⟨nq,osq⟩,hw''⟩:=hw'
          subst hw''
          have hb2:=hid (hB1.out.trans ((below_regrown w1 nq osq).mono hB1.out.size))
          clear l0 l1 l2 p0 p1 p2
          dsimp only
          generalize Sort.grow (redrawn w1 nq) osq=w2 at hb2 ⊢
          go_wp2
          go_ret
          exact⟨bA (by rw [← dW.out]; exact hst.out.symm),hb2.out⟩
        · have e1:(Op.bytesLess job.toList rY.toList || job.toList == rY.toList)=false:=by rw [← hlt2.out,hB]; rfl
          have hst:=hid (jG (key:=ah.job) Hf.out HE.out (.inr ⟨_,Hy.out,HL.out⟩))
          clear hB
          go_wp2_with fail
          refine wp_region_quiet_below (by kernel_rfl) (by kernel_rfl) ?_
          repeat (go_big_quiet_step ((go_at_call 87; exact Calls.regrown_of (cZ _ _ _ _))))
          refine wpQuiet_nil ?_
          intro _ hw'
          obtain⟨⟨nq,osq⟩,hw''⟩:=hw'
          subst hw''
          have hb2:=hid (hB1.out.trans ((below_regrown w1 nq osq).mono hB1.out.size))
          clear l0 l1 l2 p0 p1 p2
          dsimp only
          generalize Sort.grow (redrawn w1 nq) osq=w2 at hb2 ⊢
          go_wp2
          go_roundw
          case rel=>exact⟨k+1,by omega,by go_num,by rw [← hst.out]; exact dW.out,hb2.out⟩
          case measure=>simp [intOf]; omega
    · have hst:=hid (tS (E:=lsE) (key:=ah.job) Hf.out (by rw [HE.out]; exact he))
      have e1:(E == 0)=false:=beq_eq_false_iff_ne.2 he
      have e2:(E != 0)=true:=bne_iff_ne.2 he
      clear c0 c1 c2 hb1 hx hA0 hA1
      go_wp2
      go_ret
      exact⟨bA (by rw [← dW.out,hst.out]; exact HE.out.symm),hB1.out⟩
  · obtain rfl:k=n:=by omega
    have fin:=hid (show R=0 by rw [← dW.out]; exact tT (by rw [Hl.out]; exact Nat.le_refl _) _)
    clear hb hx
    go_wp2
    go_ret
    exact⟨bA fin.out.symm,Hb.out⟩
end Go.Proofs.YtoeejfhdjmkpcaaGreatDoor
/- The walks of a Writer's rows: a job, a node, a lease. -/
namespace Go.Proofs.YtoeejfhdjmkpcaaGreatDoor
open Go.Lib (hid)
open Go.RowKit
def fB (s:ByteArray):List UInt8:=(tq s).1.data.toList
theorem fH (s:ByteArray):(fB s).length≤17:=by
 have hts:(tq s).1.size≤17:=by
  unfold tq
  split
  · show (0:Nat)≤17; omega
  · split
    · rw [ByteArray.size_append]; show 1+s.size≤17; omega
    · show (0:Nat)≤17; omega
 unfold fB
 rw [Array.length_toList]
 exact hts
theorem eY (n:Nat):(bJ n).length≤17:=by have:=dM n; omega
theorem Tabs.base {w w':World} {B:Nat} (h:Tabs w) (h3:ren.g 3<B) (h4:ren.g 4<B) (hb:Below B w w'):Tabs w':=
 ⟨fun c hc=>(hb.cell h3).trans (h.1 c hc),fun i hi=>⟨(hb.cell h4).trans (h.2 i hi).1,(hb.cell h4).trans (h.2 i hi).2⟩⟩
structure gZ (w:World) (base g:Nat) (l:List UInt8):Prop where
 at_:pP w base g l
 tabs:Tabs w
 g3:ren.g 3<base
 g4:ren.g 4<base
 size:base≤w.heap.size
theorem gZ.next {w w':World} {base g:Nat} {l l':List UInt8} (h:gZ w base g l) (ha:pP w' base g l') (hk:dB base g w w'):gZ w' base g l':=
 ⟨ha,h.tabs.base h.g3 h.g4 (hk.below ha.1 h.size),h.g3,h.g4,Nat.le_trans h.size hk.size⟩
theorem gZ.below {w w':World} {base g:Nat} {l:List UInt8} (h:gZ w base g l) (hb:Below w.heap.size w w'):gZ w' base g l:=
 h.next (h.at_.below hb) (dB.of_below hb)
def kr (base g:Nat) (l:List UInt8) (w:World) (e:Ending) (w':World):Prop:=e = .returned (.tuple #[])∧gZ w' base g l∧dB base g w w'
theorem su (base g:Nat) (l:List UInt8) (s:ByteArray) (w:World) (hs:s.size≤9223372036854775807) (h:gZ w base g l) (hl:l.length≤100000000) :
 Calls Tryz.prog 69 #[.pointer (some ⟨g,0,none⟩),.string s] w (kr base g (l ++ fB s) w):=by
 refine Calls.mono (Gf base g l s w hs h.tabs h.at_ hl h.size) ?_
 rintro e w' ⟨he,ha,hk⟩
 exact⟨he,h.next ha hk,hk⟩
theorem pA (base g:Nat) (l:List UInt8) (n:Int) (w:World) (hs:0≤n∧n≤9223372036854775807) (h:gZ w base g l) (hl:l.length≤100000000) :
 Calls Tryz.prog 59 #[.pointer (some ⟨g,0,none⟩),.int .i64 n] w (kr base g (l ++ bJ n.toNat) w):=by
 refine Calls.mono (yh base g l n w hs.1 hs.2 h.at_ hl) ?_
 rintro e w' ⟨he,ha,hk⟩
 exact⟨he,h.next ha hk,hk⟩
theorem JA (base g:Nat) (l:List UInt8) (n:Int) (w:World) (hs : -9223372036854775808≤n∧n≤9223372036854775807) (h:gZ w base g l) (hl:l.length≤100000000) :
 Calls Tryz.prog 165 #[.pointer (some ⟨g,0,none⟩),.int .i64 n] w (kr base g (l ++ bJ (oN n).toNat) w):=by
 refine Calls.mono (CC base g l n w hs.1 hs.2 h.at_ hl h.size) ?_
 rintro e w' ⟨he,ha,hk⟩
 exact⟨he,h.next ha hk,hk⟩
structure WGo (w0 w:World) (base g:Nat) (l:List UInt8) (n:Nat) (t:TypeId) (cs:Array Value) (N:Nat):Prop where
 ok:gZ w base g l
 keep:dB base g w0 w
 blk:Blk w n t cs
 ht:t ≠ 5
 ne:n≠g
 len:l.length≤N
theorem WGo.next {w0 w w':World} {base g n N:Nat} {l k:List UInt8} {t:TypeId} {cs:Array Value} (h:WGo w0 w base g l n t cs N) (ha:gZ w' base g (l ++ k)) (hk:dB base g w w') (hkl:k.length≤17):WGo w0 w' base g (l ++ k) n t cs (N+17):=
 ⟨ha,h.keep.trans hk,hk.blk h.blk h.ht h.ne,h.ht,h.ne,by have:=h.len; rw [List.length_append]; omega⟩
theorem WGo.start {w:World} {base g:Nat} {l:List UInt8} (h:gZ w base g l) (t:TypeId) (cs:Array Value) (ht:t ≠ 5):WGo w (w.alloc (.cells cs t)) base g l w.heap.size t cs l.length:=
 have hb:Below w.heap.size w (w.alloc (.cells cs t)):=(Below.refl _ _).alloc (Nat.le_refl _) _
 ⟨h.below hb,dB.of_below hb,by show (w.heap.push (.cells cs t))[w.heap.size]? = _; simp,ht,Nat.ne_of_gt h.at_.lt,Nat.le_refl _⟩
def gL (j:aA) (v:Int):List UInt8:=fB j.name ++ bJ (oN j.prio).toNat ++ bJ j.need.toNat ++ (if 1<v then bJ j.tries.toNat else []) ++ (if 2<v then fB j.tag else [])
def iC (n:av) (v:Int):List UInt8:=fB n.name ++ bJ n.room.toNat ++ (if 1<v then fB n.zone else [])
def fP (l:ah):List UInt8:=fB l.job ++ fB l.node ++ bJ l.till.toNat
structure C8 (j:aA):Prop where
 name:j.name.size≤9223372036854775807
 prio : -9223372036854775808≤j.prio∧j.prio≤9223372036854775807
 need:0≤j.need∧j.need≤9223372036854775807
 tries:0≤j.tries∧j.tries≤9223372036854775807
 tag:j.tag.size≤9223372036854775807
structure BF (n:av):Prop where
 name:n.name.size≤9223372036854775807
 room:0≤n.room∧n.room≤9223372036854775807
 zone:n.zone.size≤9223372036854775807
structure As (l:ah):Prop where
 job:l.job.size≤9223372036854775807
 node:l.node.size≤9223372036854775807
 till:0≤l.till∧l.till≤9223372036854775807
theorem xG (j:aA) (v:Int):(gL j v).length≤85:=by
 have h1:=fH j.name
 have h2:=eY (oN j.prio).toNat
 have h3:=eY j.need.toNat
 have h4:=eY j.tries.toNat
 have h5:=fH j.tag
 unfold gL
 split <;> split <;> simp only [List.length_append,List.length_nil] <;> omega
theorem zB (n:av) (v:Int):(iC n v).length≤85:=by
 have h1:=fH n.name
 have h3:=eY n.room.toNat
 have h5:=fH n.zone
 unfold iC
 split <;> simp only [List.length_append,List.length_nil] <;> omega
theorem xH (l:ah):(fP l).length≤85:=by
 have h1:=fH l.job
 have h3:=eY l.till.toNat
 have h5:=fH l.node
 unfold fP
 simp only [List.length_append] <;> omega
theorem IA (base g:Nat) (l:List UInt8) (x:aA) (v:Int) (w:World) (h1:1<v) (h2:2<v) (hx:C8 x) (h:gZ w base g l) (hl:l.length≤90000000) :
 Calls Tryz.prog 62 #[.pointer (some ⟨g,0,none⟩),.agg (aJ x).toArray,.int .i64 v] w (kr base g (l ++ gL x v) w):=by
 have d1:decide (1<v)=true:=decide_eq_true h1
 have d2:decide (2<v)=true:=decide_eq_true h2
 have Hx:=hid hx
 obtain⟨name,prio,need,tries,tag⟩:=x
 have bO:=hid (show l ++ gL ⟨name,prio,need,tries,tag⟩ v=l ++ fB name ++ bJ (oN prio).toNat ++ bJ (need).toNat ++ bJ (tries).toNat ++ fB tag from by simp [gL,h1,h2])
 unfold aJ
 have H0:=hid (WGo.start h 34 #[.string name,.int .i64 prio,.int .i64 need,.int .i64 tries,.string tag] (by decide))
 clear h hx h1 h2
 go_enter Tryz.func62,Tryz.ntmps62
 go_wp2_with fail
 refine Calls.mono (su base g _ name _ Hx.out.name H0.out.ok (by have:=H0.out.len; omega)) ?_
 rintro e w1 ⟨rfl,ok1,k1⟩
 have H1:=hid (H0.out.next ok1 k1 (fH _))
 have y1:w1.cell? ⟨w.heap.size,1,none⟩=some (.int .i64 prio):=H1.out.blk.cell 1
 have y2:w1.cell? ⟨w.heap.size,2,none⟩=some (.int .i64 need):=H1.out.blk.cell 2
 have y3:w1.cell? ⟨w.heap.size,3,none⟩=some (.int .i64 tries):=H1.out.blk.cell 3
 have y4:w1.cell? ⟨w.heap.size,4,none⟩=some (.string tag):=H1.out.blk.cell 4
 clear ok1 k1 H0
 go_wp2_with fail
 refine Calls.mono (JA base g _ prio _ Hx.out.prio H1.out.ok (by have:=H1.out.len; omega)) ?_
 rintro e w2 ⟨rfl,ok2,k2⟩
 have H2:=hid (H1.out.next ok2 k2 (eY _))
 clear y1 y2 y3 y4
 have y2:w2.cell? ⟨w.heap.size,2,none⟩=some (.int .i64 need):=H2.out.blk.cell 2
 have y3:w2.cell? ⟨w.heap.size,3,none⟩=some (.int .i64 tries):=H2.out.blk.cell 3
 have y4:w2.cell? ⟨w.heap.size,4,none⟩=some (.string tag):=H2.out.blk.cell 4
 clear ok2 k2 H1
 go_wp2_with fail
 refine Calls.mono (pA base g _ need _ Hx.out.need H2.out.ok (by have:=H2.out.len; omega)) ?_
 rintro e w3 ⟨rfl,ok3,k3⟩
 have H3:=hid (H2.out.next ok3 k3 (eY _))
 clear y2 y3 y4
 have y3:w3.cell? ⟨w.heap.size,3,none⟩=some (.int .i64 tries):=H3.out.blk.cell 3
 have y4:w3.cell? ⟨w.heap.size,4,none⟩=some (.string tag):=H3.out.blk.cell 4
 clear ok3 k3 H2
 go_wp2_with fail
 refine Calls.mono (pA base g _ tries _ Hx.out.tries H3.out.ok (by have:=H3.out.len; omega)) ?_
 rintro e w4 ⟨rfl,ok4,k4⟩
 have H4:=hid (H3.out.next ok4 k4 (eY _))
 clear y3 y4
 have y4:w4.cell? ⟨w.heap.size,4,none⟩=some (.string tag):=H4.out.blk.cell 4
 clear ok4 k4 H3
 go_wp2_with fail
 refine Calls.mono (su base g _ tag _ Hx.out.tag H4.out.ok (by have:=H4.out.len; omega)) ?_
 rintro e w5 ⟨rfl,ok5,k5⟩
 have H5:=hid (H4.out.next ok5 k5 (fH _))
 clear y4
 clear ok5 k5 H4
 go_wp2
 go_end0
 exact⟨rfl,by rw [bO.out]; exact H5.out.ok,H5.out.keep⟩
theorem Lc (base g:Nat) (l:List UInt8) (x:av) (v:Int) (w:World) (h1:1<v) (hx:BF x) (h:gZ w base g l) (hl:l.length≤90000000) :
 Calls Tryz.prog 65 #[.pointer (some ⟨g,0,none⟩),.agg (aB x).toArray,.int .i64 v] w (kr base g (l ++ iC x v) w):=by
 have d1:decide (1<v)=true:=decide_eq_true h1
 have Hx:=hid hx
 obtain⟨name,room,zone⟩:=x
 have bO:=hid (show l ++ iC ⟨name,room,zone⟩ v=l ++ fB name ++ bJ (room).toNat ++ fB zone from by simp [iC,h1])
 unfold aB
 have H0:=hid (WGo.start h 36 #[.string name,.int .i64 room,.string zone] (by decide))
 clear h hx h1
 go_enter Tryz.func65,Tryz.ntmps65
 go_wp2_with fail
 refine Calls.mono (su base g _ name _ Hx.out.name H0.out.ok (by have:=H0.out.len; omega)) ?_
 rintro e w1 ⟨rfl,ok1,k1⟩
 have H1:=hid (H0.out.next ok1 k1 (fH _))
 have y1:w1.cell? ⟨w.heap.size,1,none⟩=some (.int .i64 room):=H1.out.blk.cell 1
 have y2:w1.cell? ⟨w.heap.size,2,none⟩=some (.string zone):=H1.out.blk.cell 2
 clear ok1 k1 H0
 go_wp2_with fail
 refine Calls.mono (pA base g _ room _ Hx.out.room H1.out.ok (by have:=H1.out.len; omega)) ?_
 rintro e w2 ⟨rfl,ok2,k2⟩
 have H2:=hid (H1.out.next ok2 k2 (eY _))
 clear y1 y2
 have y2:w2.cell? ⟨w.heap.size,2,none⟩=some (.string zone):=H2.out.blk.cell 2
 clear ok2 k2 H1
 go_wp2_with fail
 refine Calls.mono (su base g _ zone _ Hx.out.zone H2.out.ok (by have:=H2.out.len; omega)) ?_
 rintro e w3 ⟨rfl,ok3,k3⟩
 have H3:=hid (H2.out.next ok3 k3 (fH _))
 clear y2
 clear ok3 k3 H2
 go_wp2
 go_end0
 exact⟨rfl,by rw [bO.out]; exact H3.out.ok,H3.out.keep⟩
theorem Dk (base g:Nat) (l:List UInt8) (x:ah) (w:World) (hx:As x) (h:gZ w base g l) (hl:l.length≤90000000) :
 Calls Tryz.prog 67 #[.pointer (some ⟨g,0,none⟩),.agg (ay x).toArray] w (kr base g (l ++ fP x) w):=by
 have Hx:=hid hx
 obtain⟨job,node,till⟩:=x
 have bO:=hid (show l ++ fP ⟨job,node,till⟩=l ++ fB job ++ fB node ++ bJ (till).toNat from by simp [fP])
 unfold ay
 have H0:=hid (WGo.start h 38 #[.string job,.string node,.int .i64 till] (by decide))
 clear h hx
 go_enter Tryz.func67,Tryz.ntmps67
 go_wp2_with fail
 refine Calls.mono (su base g _ job _ Hx.out.job H0.out.ok (by have:=H0.out.len; omega)) ?_
 rintro e w1 ⟨rfl,ok1,k1⟩
 have H1:=hid (H0.out.next ok1 k1 (fH _))
 have y1:w1.cell? ⟨w.heap.size,1,none⟩=some (.string node):=H1.out.blk.cell 1
 have y2:w1.cell? ⟨w.heap.size,2,none⟩=some (.int .i64 till):=H1.out.blk.cell 2
 clear ok1 k1 H0
 go_wp2_with fail
 refine Calls.mono (su base g _ node _ Hx.out.node H1.out.ok (by have:=H1.out.len; omega)) ?_
 rintro e w2 ⟨rfl,ok2,k2⟩
 have H2:=hid (H1.out.next ok2 k2 (fH _))
 clear y1 y2
 have y2:w2.cell? ⟨w.heap.size,2,none⟩=some (.int .i64 till):=H2.out.blk.cell 2
 clear ok2 k2 H1
 go_wp2_with fail
 refine Calls.mono (pA base g _ till _ Hx.out.till H2.out.ok (by have:=H2.out.len; omega)) ?_
 rintro e w3 ⟨rfl,ok3,k3⟩
 have H3:=hid (H2.out.next ok3 k3 (eY _))
 clear y2
 clear ok3 k3 H2
 go_wp2
 go_end0
 exact⟨rfl,by rw [bO.out]; exact H3.out.ok,H3.out.keep⟩
end Go.Proofs.YtoeejfhdjmkpcaaGreatDoor
