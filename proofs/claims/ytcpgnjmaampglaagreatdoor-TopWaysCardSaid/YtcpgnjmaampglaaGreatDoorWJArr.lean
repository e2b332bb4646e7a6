/- Of the proof of a statement: JArr, JPrint, RPrint. -/
import Derived.Lib.SlBytesConst
import Derived.Deep.DeepCutAuto
import Derived.Lib.QuietBelow
import Derived.Deep.QuietTactic
import Derived.BigQuiet
import Derived.Shelf.Strings.OnBuilder
import Derived.Ground.NamesProg
import Derived.Test.YtcpgnjmaampglaaGreatDoorProg
import Derived.Test.YtcpgnjmaampglaaGreatDoorWJFlds
import Derived.Test.YtcpgnjmaampglaaGreatDoorWSlEq
set_option linter.unusedVariables false
set_option linter.unusedSimpArgs false
set_option maxRecDepth 100000
set_option maxHeartbeats 8000000
/- json.array at its three types. -/
namespace Go.Proofs.YtcpgnjmaampglaaGreatDoor
open Go.Lib (hid)
open Go.RowKit
theorem LE {w:World} {ops:Array Oper} {rest:List Oper} {o:Oper} {a:Act} {Q:Exit→Act→World→Prop} (hgd:o.guard=none) (s x:Operand) (ho:o.op = .call { callee:=.builtin .append,args:=#[s,x],argTypes:=#[118,118] })
 (base:Nat) (A:Option Addr) (m c:Nat) (l:List UInt8) (hs:a.eval s = .slice A m c) (hown:w.ownsRow base 5 1 (.slice A m c) m (aF l))
 (g off k c2:Nat) (b:List UInt8) (hr:dw w g off (aF b)) (hk:0<k) (hbk:b.length=k) (hx:a.eval x = .slice (some ⟨g,off,none⟩) k c2) (hm:m+k≤140737488355328) (hbase:base≤w.heap.size)
 (h:∀ A' c' w',w'.ownsRow base 5 1 (.slice A' (m+k) c') (m+k) (aF (l ++ b))→dE w w' (.slice A m c) (.slice A' (m+k) c')→wpList Tryz.prog ops Q rest (a.put o.dst (.slice A' (m+k) c')) w') :
 wpList Tryz.prog ops Q (o :: rest) a w:=by
 obtain⟨i0,hi,hz0,hz1,hz2⟩:=info_parts Tryz.infoU8
 refine wpList_append_own_at _ hgd s x 118 ho base 5 i0 (.int .u8 0) 1 1 Tryz.underlying118 hi hz0 hz1 hz2 rfl (by decide) _ m _ hs hown ⟨g,off,none⟩ k c2 (aF b) hx (by rw [bK,hbk,Nat.mul_one])
  (fun j u hu=>?_) (fun u hu=>?_) (by unfold maxLen; omega) (by omega) hbase (fun v' w' o' g' hnil hb=>?_)
 · have:=hr j u hu
   unfold Addr.add
   split
   · rename_i hj; subst hj; simpa using this
   · exact this
 · obtain⟨c,_,rfl⟩:=List.mem_map.1 hu
   rfl
 · rw [← cV] at o'
   rcases o'.2 with ⟨_,h0⟩ | ⟨g,cap,cur,hv,_⟩
   · omega
   · subst hv
     refine h _ _ _ o' ⟨g',?_⟩
     rcases hb with hb | hb
     · exact .inl hb
     · exact .inr ⟨_,hb,Nat.le_refl _⟩
theorem D8 (w:World) (B:Nat):w.ownsRow B 5 1 (.slice none 0 0) 0 (aF []):=World.ownsRow_nil _ _ _ _
theorem lQ {L n:Nat} {l:List (List UInt8)} (h:∀ x ∈ l,x.length≤L) (hn:l.length≤n):(dY l).length≤n*(L+1):=Nat.le_trans (ze l h) (Nat.mul_le_mul hn (Nat.le_refl _))
theorem oW {fs:List (ByteArray × FV)} (hn:fs.length≤5) (hok:∀ f ∈ fs,f.1.size≤100∧Jd f.2):(fO fs).length≤6060:=by
 have h:=lQ (L:=1210) (n:=5) (l:=fs.map fN) (fun x hx=>by
  obtain⟨f,hf,rfl⟩:=List.mem_map.1 hx
  exact zf f (hok f hf).1 (hok f hf).2) (by simpa using hn)
 unfold fO
 simp only [List.length_append,List.length_singleton]
 omega
theorem aQ.rowAt {α:Type} {enc:α→List Value} {w:World} {B sz n:Nat} {A:Option Addr} {l:List α} (h:aQ w B sz A n (au enc l)) (hz:∀ a,(enc a).length=sz) (hl:l.length=n) {i:Nat} {a:α} (hi:l[i]? = some a) :
 ∃ b off,A=some ⟨b,off,none⟩∧b<B∧dw w b (off+i*sz) (enc a):=by
 have hil:=(List.getElem?_eq_some_iff.1 hi).1
 obtain⟨b,off,e,hb,hr⟩:=h.at_ (by omega)
 refine⟨b,off,e,hb,fun j u hj=>?_⟩
 have hjs:j<sz:=by have:=(List.getElem?_eq_some_iff.1 hj).1; rw [hz] at this; exact this
 rw [Nat.add_assoc]
 exact hr _ u (by rw [oT hz l i j a hi hjs]; exact hj)
theorem At2.LF {B:Nat} {w wr w':World} {l:List UInt8} {A:Option Addr} {m c:Nat} (h:At2 B w l wr A m c) (hB:B≤w.heap.size) (hb:Below wr.heap.size wr w'):At2 B w l w' A m c:=
 ⟨aU h.own hb,h.below.trans (hb.mono (Nat.le_trans hB h.below.size)),h.kept.below hb⟩
def F9 {α:Type} (F:α→List UInt8) (B:Nat) (l:List UInt8) (xs:List α) (n:Nat) (w:World) (v i:Value) (wr:World):Prop:=
 ∃ (A:Option Addr) (m c k:Nat),v = .slice A m c∧i = .int .i64 k∧k≤n∧At2 B w (l ++ dY ((xs.take k).map F)) wr A m c
def O4 (x:aB):Prop:=∀ f ∈ j5 x,f.1.size≤100∧Jd f.2
def LG (x:av):Prop:=∀ f ∈ gQ x,f.1.size≤100∧Jd f.2
def Iq (x:ak):Prop:=∀ f ∈ eT x,f.1.size≤100∧Jd f.2
theorem wh :
 (∀ (B : Nat) (A : Option Addr) (m c : Nat) (l : List UInt8) (name : ByteArray) (xs : List aB) (XA : Option Addr) (n xc : Nat) (w : World) (hown : w.ownsRow B 5 1 (.slice A m c) m (aF l)) (hm : m ≤ 140737470000000) (hB : B ≤ w.heap.size) (hname : name.size ≤ 100) (hx : aQ w B 5 XA n (au aH xs)) (hl : xs.length = n) (hn : n ≤ 40) (hok : ∀ x ∈ xs, O4 x) (htab : Lib.TabBelow Tryz.prog B w "internal/strconv.uint64pow10" .u64 Lib.pow10Tab), Calls Tryz.prog 76 #[.slice A m c, .string name, .slice XA n xc, .func (.func 41) #[] #[]] w (Bt B (l ++ lX name (xs.map fun x => fO (j5 x))) w)) ∧
 (∀ (B : Nat) (A : Option Addr) (m c : Nat) (l : List UInt8) (name : ByteArray) (xs : List av) (XA : Option Addr) (n xc : Nat) (w : World) (hown : w.ownsRow B 5 1 (.slice A m c) m (aF l)) (hm : m ≤ 140737470000000) (hB : B ≤ w.heap.size) (hname : name.size ≤ 100) (hx : aQ w B 3 XA n (au aI xs)) (hl : xs.length = n) (hn : n ≤ 40) (hok : ∀ x ∈ xs, LG x) (htab : Lib.TabBelow Tryz.prog B w "internal/strconv.uint64pow10" .u64 Lib.pow10Tab), Calls Tryz.prog 77 #[.slice A m c, .string name, .slice XA n xc, .func (.func 43) #[] #[]] w (Bt B (l ++ lX name (xs.map fun x => fO (gQ x))) w)) ∧
 (∀ (B : Nat) (A : Option Addr) (m c : Nat) (l : List UInt8) (name : ByteArray) (xs : List ak) (XA : Option Addr) (n xc : Nat) (w : World) (hown : w.ownsRow B 5 1 (.slice A m c) m (aF l)) (hm : m ≤ 140737470000000) (hB : B ≤ w.heap.size) (hname : name.size ≤ 100) (hx : aQ w B 3 XA n (au aE xs)) (hl : xs.length = n) (hn : n ≤ 40) (hok : ∀ x ∈ xs, Iq x) (htab : Lib.TabBelow Tryz.prog B w "internal/strconv.uint64pow10" .u64 Lib.pow10Tab), Calls Tryz.prog 78 #[.slice A m c, .string name, .slice XA n xc, .func (.func 45) #[] #[]] w (Bt B (l ++ lX name (xs.map fun x => fO (eT x))) w)) := by
 refine⟨@fun B A m c l name xs XA n xc w hown hm hB hname hx hl hn hok htab=>(fun(jM0:Unit)=>?_) (),@fun B A m c l name xs XA n xc w hown hm hB hname hx hl hn hok htab=>(fun(jM1:Unit)=>?_) (),@fun B A m c l name xs XA n xc w hown hm hB hname hx hl hn hok htab=>(fun(jM2:Unit)=>?_) ()⟩<;>(
 have hlm:l.length=m:=by have:=hown.1; simpa [aF] using this
 have hqn:(aV name.data.toList).length≤602:=dZ name hname
 have hqp:0<(aV name.data.toList).length:=by unfold aV; simp
 have hA0:=hid (show At2 B w l w A m c from ⟨hown,Below.refl _ _,Lib.OthersKept.refl _ _ _⟩)
 have Hl:=hid hlm
 have HX:=hid hx
 have HT:=hid htab
 have Hok:=hid hok
 have Hlx:=hid hl
 first|(guard_hyp jM0;have heg:=enters_of Tryz.func41 (by kernel_rfl) rfl)|(guard_hyp jM1;have heg:=enters_of Tryz.func43 (by kernel_rfl) rfl)|have heg:=enters_of Tryz.func45 (by kernel_rfl) rfl
 clear hlm hown hx htab hok hl
 first|(guard_hyp jM0;go_enter Tryz.func76,Tryz.ntmps76)|(guard_hyp jM1;go_enter Tryz.func77,Tryz.ntmps77)|go_enter Tryz.func78,Tryz.ntmps78
 go_wp2_with (at_builtin; refine gC rfl _ _ rfl B _ _ _ _ rfl hA0.out.own _ 44 rfl rfl (by omega) hB ?_; intro A1 c1 w1 ho1 hg1; have hA1:=hid (hA0.out.grew hB ho1 hg1); clear ho1 hg1)
 refine Calls.mono (wo w1.heap.size none 0 0 [] name w1 (D8 _ _) (by omega) (Nat.le_refl _)) ?_
 rintro e w2 ⟨A2,m2,c2,rfl,ho2,hg2⟩
 have hb2:Below w1.heap.size w1 w2:=hg2.below (Nat.le_refl _) (fun k hk=>by cases hk)
 have hm2:(aV name.data.toList).length=m2:=by have:=ho2.1; simpa [bK] using this
 obtain⟨g2,off2,rfl,hg2l,hr2⟩:=(cD ho2).at_ (by omega)
 have hk2:=gW (D8 w1 w1.heap.size) hg2
 have hA2:=hid (show At2 B w (l ++ [44]) w2 A1 (m+1) c1 from ⟨aU hA1.out.own hb2,hA1.out.below.trans (hb2.mono (Nat.le_trans hB hA1.out.below.size)),hA1.out.kept.trans hk2⟩)
 have Hm2:=hid hm2
 have hm2l:m2≤602:=by omega
 have hm2p:0<m2:=by omega
 simp only [List.nil_append] at hr2
 have Hr2:=hid hr2
 clear ho2 hg2 hb2 hm2 hg2l hr2 hk2
 go_wp2_with (first | (at_builtin; refine LE rfl _ _ rfl B _ _ _ _ rfl hA2.out.own g2 off2 m2 _ _ Hr2.out hm2p Hm2.out rfl (by omega) (Nat.le_trans hB hA2.out.below.size) ?_; intro A3 c3 w3 ho3 hg3; have hA3:=hid (hA2.out.grew hB ho3 hg3); clear ho3 hg3 Hr2) | (at_builtin; refine pT rfl _ _ rfl B _ _ _ _ rfl hA3.out.own _ 2 (by decide) [58,91] rfl rfl rfl (by omega) (Nat.le_trans hB hA3.out.below.size) ?_; intro A4 c4 w4 ho4 hg4; have hA4:=hid (hA3.out.grew hB ho4 hg4); clear ho4 hg4))
 first|(guard_hyp jM0;go_loopw [0,9,20] (fun v _ i wr=>F9 (fun x=>fO (j5 x)) B (l ++ [44] ++ aV name.data.toList ++ [58,91]) xs n w v i wr) (fun _ _ i _=>n - (intOf i).toNat))|(guard_hyp jM1;go_loopw [0,9,20] (fun v _ i wr=>F9 (fun x=>fO (gQ x)) B (l ++ [44] ++ aV name.data.toList ++ [58,91]) xs n w v i wr) (fun _ _ i _=>n - (intOf i).toNat))|go_loopw [0,9,20] (fun v _ i wr=>F9 (fun x=>fO (eT x)) B (l ++ [44] ++ aV name.data.toList ++ [58,91]) xs n w v i wr) (fun _ _ i _=>n - (intOf i).toNat)
 case atStart=>exact⟨A4,m+1+m2+2,c4,0,rfl,rfl,Nat.zero_le _,by
  have h:=hA4.out
  simpa [dY] using h⟩
 case round=>
  clear hA1 hA2 hA3 hA4
  obtain⟨A5,m5,c5,k,rfl,rfl,hk,hA⟩:=hrel
  have hA5:=hid hA
  have hlen:m5≤140737470250000:=by
   have e2:=hA.len
   first
    |(
     guard_hyp jM0
     have e3:=lQ (L:=6060) (n:=40) (l:=(xs.take k).map fun x=>fO (j5 x)) (fun y hy=>by
      obtain⟨x,hx,rfl⟩:=List.mem_map.1 hy
      exact oW (by simp [j5]) (Hok.out x (List.mem_of_mem_take hx))) (by rw [List.length_map,List.length_take,Hlx.out]; omega))
    |(
     guard_hyp jM1
     have e3:=lQ (L:=6060) (n:=40) (l:=(xs.take k).map fun x=>fO (gQ x)) (fun y hy=>by
      obtain⟨x,hx,rfl⟩:=List.mem_map.1 hy
      exact oW (by simp [gQ]) (Hok.out x (List.mem_of_mem_take hx))) (by rw [List.length_map,List.length_take,Hlx.out]; omega))
    |(
     guard_hyp jM2
     have e3:=lQ (L:=6060) (n:=40) (l:=(xs.take k).map fun x=>fO (eT x)) (fun y hy=>by
      obtain⟨x,hx,rfl⟩:=List.mem_map.1 hy
      exact oW (by simp [eT]) (Hok.out x (List.mem_of_mem_take hx))) (by rw [List.length_map,List.length_take,Hlx.out]; omega))
   simp only [List.length_append,List.length_cons,List.length_nil] at e2
   have:=Hl.out
   omega
  clear hA
  by_cases hlt:k<n
  · obtain⟨x,hf⟩:∃ x,xs[k]? = some x:=⟨_,List.getElem?_eq_getElem (by have:=Hlx.out; omega)⟩
    first|(guard_hyp jM0;obtain⟨b,off,hXA,hbB,hbr⟩:=HX.out.rowAt aN Hlx.out hf)|(guard_hyp jM1;obtain⟨b,off,hXA,hbB,hbr⟩:=HX.out.rowAt bF Hlx.out hf)|obtain⟨b,off,hXA,hbB,hbr⟩:=HX.out.rowAt bB Hlx.out hf
    subst hXA
    first|(guard_hyp jM0;have Hst:=hid (nG (fun x=>fO (j5 x)) hf))|(guard_hyp jM1;have Hst:=hid (nG (fun x=>fO (gQ x)) hf))|have Hst:=hid (nG (fun x=>fO (eT x)) hf)
    have Hxo:=hid (Hok.out x (List.mem_of_getElem? hf))
    have Hbr:=hid hbr
    clear hf hbr
    by_cases hk0:k=0
    · have Hk0:=hid hk0
      have d1:decide ((0:Int)<(k:Int))=false:=decide_eq_false (by omega)
      have h0k:¬ 0<k:=by omega
      clear hk0
      go_wp2_with (fail)
      first|(guard_hyp jM0;refine Calls.mono (lC b (off+k*5) _) ?_)|(guard_hyp jM1;refine Calls.mono (dz.1 b (off+k*3) _) ?_)|refine Calls.mono (dz.2 b (off+k*3) _) ?_
      rintro e w7 ⟨g,rfl,hg1,hG,hb7⟩
      have hA7:=hid (hA5.out.LF hB hb7)
      first|(guard_hyp jM0;have HF:=hid (uw hG hbB (Hbr.out.below hA7.out.below hbB)))|(guard_hyp jM1;have HF:=hid (sw hG hbB (Hbr.out.below hA7.out.below hbB)))|have HF:=hid (qU hG hbB (Hbr.out.below hA7.out.below hbB))
      clear hG hb7
      go_wp2_with fail
      first|(guard_hyp jM0;refine Calls.mono (kM B _ _ _ _ g 0 5 5 (j5 x) _ hA7.out.own (by omega) (Nat.le_trans hB hA7.out.below.size) rfl (by decide) Hxo.out HF.out (HT.out.on hA7.out.below)) ?_)|(guard_hyp jM1;refine Calls.mono (kM B _ _ _ _ g 0 3 3 (gQ x) _ hA7.out.own (by omega) (Nat.le_trans hB hA7.out.below.size) rfl (by decide) Hxo.out HF.out (HT.out.on hA7.out.below)) ?_)|refine Calls.mono (kM B _ _ _ _ g 0 3 3 (eT x) _ hA7.out.own (by omega) (Nat.le_trans hB hA7.out.below.size) rfl (by decide) Hxo.out HF.out (HT.out.on hA7.out.below)) ?_
      rintro e w8 ⟨A8,m8,c8,rfl,ho8,hb8,hk8⟩
      have hA8:=hid (hA7.out.post ho8 hb8 hk8)
      clear ho8 hb8 hk8
      go_wp2_with fail
      go_roundw
      case rel=>exact⟨A8,m8,c8,k+1,rfl,by go_num,by omega,by
       have h:=hA8.out
       rw [Hst.out,if_pos Hk0.out]
       have e0:xs.take k=[]:=by rw [Hk0.out]; rfl
       rw [e0] at h
       simpa [dY,List.append_assoc] using h⟩
      case measure=>simp [intOf]; omega
    · have Hk0:=hid hk0
      have d1:decide ((0:Int)<(k:Int))=true:=decide_eq_true (by omega)
      have h0k:0<k:=by omega
      clear hk0
      go_wp2_with (at_builtin; refine gC rfl _ _ rfl B _ _ _ _ rfl hA5.out.own _ 44 rfl rfl (by omega) (Nat.le_trans hB hA5.out.below.size) ?_; intro A6 c6 w6 ho6 hg6; have hA6:=hid (hA5.out.grew hB ho6 hg6); clear ho6 hg6)
      first|(guard_hyp jM0;refine Calls.mono (lC b (off+k*5) _) ?_)|(guard_hyp jM1;refine Calls.mono (dz.1 b (off+k*3) _) ?_)|refine Calls.mono (dz.2 b (off+k*3) _) ?_
      rintro e w7 ⟨g,rfl,hg1,hG,hb7⟩
      have hA7:=hid (hA6.out.LF hB hb7)
      first|(guard_hyp jM0;have HF:=hid (uw hG hbB (Hbr.out.below hA7.out.below hbB)))|(guard_hyp jM1;have HF:=hid (sw hG hbB (Hbr.out.below hA7.out.below hbB)))|have HF:=hid (qU hG hbB (Hbr.out.below hA7.out.below hbB))
      clear hG hb7
      go_wp2_with fail
      first|(guard_hyp jM0;refine Calls.mono (kM B _ _ _ _ g 0 5 5 (j5 x) _ hA7.out.own (by omega) (Nat.le_trans hB hA7.out.below.size) rfl (by decide) Hxo.out HF.out (HT.out.on hA7.out.below)) ?_)|(guard_hyp jM1;refine Calls.mono (kM B _ _ _ _ g 0 3 3 (gQ x) _ hA7.out.own (by omega) (Nat.le_trans hB hA7.out.below.size) rfl (by decide) Hxo.out HF.out (HT.out.on hA7.out.below)) ?_)|refine Calls.mono (kM B _ _ _ _ g 0 3 3 (eT x) _ hA7.out.own (by omega) (Nat.le_trans hB hA7.out.below.size) rfl (by decide) Hxo.out HF.out (HT.out.on hA7.out.below)) ?_
      rintro e w8 ⟨A8,m8,c8,rfl,ho8,hb8,hk8⟩
      have hA8:=hid (hA7.out.post ho8 hb8 hk8)
      clear ho8 hb8 hk8
      go_wp2_with fail
      go_roundw
      case rel=>exact⟨A8,m8,c8,k+1,rfl,by go_num,by omega,by
       have h:=hA8.out
       rw [Hst.out,if_neg Hk0.out]
       skip
       skip
       simpa [dY,List.append_assoc] using h⟩
      case measure=>simp [intOf]; omega
  · have hkn:k=n:=by omega
    have tX:=hid (show xs.take k=xs from List.take_of_length_le (by have:=Hlx.out; omega))
    go_wp2_with (at_builtin; refine gC rfl _ _ rfl B _ _ _ _ rfl hA5.out.own _ 93 rfl rfl (by omega) (Nat.le_trans hB hA5.out.below.size) ?_; intro A6 c6 w6 ho6 hg6; have hA6:=hid (hA5.out.grew hB ho6 hg6); clear ho6 hg6)
    go_ret
    refine⟨A6,m5+1,c6,rfl,?_,hA6.out.below,hA6.out.kept⟩
    have h:=hA6.out.own
    rw [tX.out] at h
    simpa [lX,List.append_assoc] using h)
def j6 (st:ah):ByteArray × Int:=if ay st≠0 then (⟨#[]⟩,ay st) else (⟨(eU st).toArray⟩,0)
def CG (st:ah) (w:World) (e:Ending) (w':World):Prop:=e = .returned (.tuple #[.string (j6 st).1,.int .i64 (j6 st).2])∧Below w.heap.size w w'
theorem D9 {st:ah} (g:SGood st):∀ x ∈ st.jobs,O4 x:=fun x hx f hf=>by
 obtain⟨h1,h2,h3,h4,h5⟩:=g.job hx
 simp only [j5,List.mem_cons,List.not_mem_nil,or_false] at hf
 rcases hf with rfl | rfl | rfl | rfl | rfl
 · exact⟨Nat.le_of_ble_eq_true rfl,by show x.name.size≤100; omega⟩
 · exact⟨Nat.le_of_ble_eq_true rfl,by show -9223372036854775807≤x.prio∧x.prio≤9223372036854775807; omega⟩
 · exact⟨Nat.le_of_ble_eq_true rfl,by show -9223372036854775807≤x.need∧x.need≤9223372036854775807; omega⟩
 · exact⟨Nat.le_of_ble_eq_true rfl,by show -9223372036854775807≤x.tries∧x.tries≤9223372036854775807; omega⟩
 · exact⟨Nat.le_of_ble_eq_true rfl,by show x.tag.size≤100; omega⟩
theorem BD {st:ah} (g:SGood st):∀ x ∈ st.nodes,LG x:=fun x hx f hf=>by
 obtain⟨h1,h2,h3⟩:=g.node hx
 simp only [gQ,List.mem_cons,List.not_mem_nil,or_false] at hf
 rcases hf with rfl | rfl | rfl
 · exact⟨Nat.le_of_ble_eq_true rfl,by show x.name.size≤100; omega⟩
 · exact⟨Nat.le_of_ble_eq_true rfl,by show -9223372036854775807≤x.room∧x.room≤9223372036854775807; omega⟩
 · exact⟨Nat.le_of_ble_eq_true rfl,by show x.zone.size≤100; omega⟩
theorem zH {st:ah} (g:SGood st):∀ x ∈ st.leases,Iq x:=fun x hx f hf=>by
 obtain⟨h1,h2,h3⟩:=g.lease hx
 simp only [eT,List.mem_cons,List.not_mem_nil,or_false] at hf
 rcases hf with rfl | rfl | rfl
 · exact⟨Nat.le_of_ble_eq_true rfl,by show x.job.size≤100; omega⟩
 · exact⟨Nat.le_of_ble_eq_true rfl,by show x.node.size≤100; omega⟩
 · exact⟨Nat.le_of_ble_eq_true rfl,by show -9223372036854775807≤x.till∧x.till≤9223372036854775807; omega⟩
theorem zI {n L:Nat} {name:ByteArray} {l:List (List UInt8)} (hn:name.size≤100) (h:∀ x ∈ l,x.length≤L) (hl:l.length≤n):(lX name l).length≤610+n*(L+1):=by
 have h1:=dZ name hn
 have h2:=lQ h hl
 unfold lX
 simp only [List.length_append,List.length_cons,List.length_nil]
 omega
theorem LH {st:ah} (g:SGood st):(lX ⟨#[106,111,98,115]⟩ (st.jobs.map fun j=>fO (j5 j))).length≤610+40*6061:=
 zI (by decide) (fun y hy=>by
  obtain⟨x,hx,rfl⟩:=List.mem_map.1 hy
  exact oW (by simp [j5]) (D9 g x hx)) (by rw [List.length_map]; exact g.nj)
theorem Jv {st:ah} (g:SGood st):(lX ⟨#[110,111,100,101,115]⟩ (st.nodes.map fun j=>fO (gQ j))).length≤610+40*6061:=
 zI (by decide) (fun y hy=>by
  obtain⟨x,hx,rfl⟩:=List.mem_map.1 hy
  exact oW (by simp [gQ]) (BD g x hx)) (by rw [List.length_map]; have:=g.nn; omega)
theorem Ga {st:ah} (g:SGood st):(lX ⟨#[108,101,97,115,101,115]⟩ (st.leases.map fun j=>fO (eT j))).length≤610+40*6061:=
 zI (by decide) (fun y hy=>by
  obtain⟨x,hx,rfl⟩:=List.mem_map.1 hy
  exact oW (by simp [eT]) (zH g x hx)) (by rw [List.length_map]; exact g.nl)
theorem xw (st : ah) (x : StA) (w : World) (hS : StAt w w.heap.size st x) (hc : ay st = 0) (htab : Lib.TabBelow Tryz.prog w.heap.size w "internal/strconv.uint64pow10" .u64 Lib.pow10Tab) :
 Calls Tryz.prog 22 #[.agg (stC st x)] w fun e w'=>e = .returned (.string ⟨(eU st).toArray⟩)∧Below w.heap.size w w':=by
 have g:=Ea hc
 have hr0:=g.r0
 have hr1:=g.r1
 have HL:=hid (show (eU st).toArray=(([123,34,114,101,118,34,58]:List UInt8) ++ Lib.itoa st.rev ++ lX ⟨#[106,111,98,115]⟩ (st.jobs.map fun j=>fO (j5 j)) ++ lX ⟨#[110,111,100,101,115]⟩ (st.nodes.map fun n=>fO (gQ n)) ++ lX ⟨#[108,101,97,115,101,115]⟩ (st.leases.map fun l=>fO (eT l)) ++ [125]).toArray from rfl)
 have qi:=Ee st.rev (by omega) (by omega)
 have q1:=LH g
 have q2:=Jv g
 have q3:=Ga g
 have Q1:=hid (D9 g)
 have Q2:=hid (BD g)
 have Q3:=hid (zH g)
 have HS:=hid hS
 have HT:=hid htab
 have hnj:=g.nj
 have hnn:=g.nn
 have hnl:=g.nl
 have bj:x.nj≤40:=by have:=hS.lj; omega
 have bn:x.nn≤40:=by have:=hS.ln; omega
 have bl:x.nl≤40:=by have:=hS.ll; omega
 clear hS htab g hc hnj hnn hnl
 rw [HL.out]
 clear HL
 obtain⟨rev,jobs,nodes,leases⟩:=st
 obtain⟨aj,nj,cj,an,nn,cn,al,nl,cl⟩:=x
 simp only [stC] at *
 have hB0:Blk ((w.alloc (.cells #[.int .i64 rev,.slice aj nj cj,.slice an nn cn,.slice al nl cl] 26)).alloc (.cells #[.int .u8 123,.int .u8 34,.int .u8 114,.int .u8 101,.int .u8 118,.int .u8 34,.int .u8 58] 5 (7,8))) w.heap.size 26 #[.int .i64 rev,.slice aj nj cj,.slice an nn cn,.slice al nl cl]:=Blk.alloc (show Blk _ _ _ _ from heap_alloc_new w _) _
 have hb1:Below w.heap.size w ((w.alloc (.cells #[.int .i64 rev,.slice aj nj cj,.slice an nn cn,.slice al nl cl] 26)).alloc (.cells #[.int .u8 123,.int .u8 34,.int .u8 114,.int .u8 101,.int .u8 118,.int .u8 34,.int .u8 58] 5 (7,8))):=((Below.refl _ _).alloc (Nat.le_refl _) _).alloc (by simp) _
 have hk1:Lib.OthersKept 5 none w ((w.alloc (.cells #[.int .i64 rev,.slice aj nj cj,.slice an nn cn,.slice al nl cl] 26)).alloc (.cells #[.int .u8 123,.int .u8 34,.int .u8 114,.int .u8 101,.int .u8 118,.int .u8 34,.int .u8 58] 5 (7,8))):=((Lib.OthersKept.refl _ _ _).alloc _).alloc _
 have hr1:dw ((w.alloc (.cells #[.int .i64 rev,.slice aj nj cj,.slice an nn cn,.slice al nl cl] 26)).alloc (.cells #[.int .u8 123,.int .u8 34,.int .u8 114,.int .u8 101,.int .u8 118,.int .u8 34,.int .u8 58] 5 (7,8))) (w.heap.size+1) 0 (aF [123,34,114,101,118,34,58]):=by
  have h0:=heap_alloc_new (w.alloc (.cells #[.int .i64 rev,.slice aj nj cj,.slice an nn cn,.slice al nl cl] 26)) (.cells #[.int .u8 123,.int .u8 34,.int .u8 114,.int .u8 101,.int .u8 118,.int .u8 34,.int .u8 58] 5 (7,8))
  rw [show (w.alloc (.cells #[.int .i64 rev,.slice aj nj cj,.slice an nn cn,.slice al nl cl] 26)).heap.size=w.heap.size+1 by simp] at h0
  intro j u hu
  rw [cell_of_row _ _ _ _ _ _ h0,Nat.zero_add,← hu,List.getElem?_toArray]
  rfl
 have kc:=Lib.run_convert_bytes_const (P:=Tryz.prog) (w.alloc (.cells #[.int .i64 rev,.slice aj nj cj,.slice an nn cn,.slice al nl cl] 26)) 118 5 #[.int .u8 123,.int .u8 34,.int .u8 114,.int .u8 101,.int .u8 118,.int .u8 34,.int .u8 58] 7 7 Tryz.underlying118 Tryz.underlying5
 rw [show (w.alloc (.cells #[.int .i64 rev,.slice aj nj cj,.slice an nn cn,.slice al nl cl] 26)).heap.size=w.heap.size+1 by simp] at kc
 simp only [List.size_toArray,List.length_cons,List.length_nil] at kc
 have HI:=hid (DS (w.heap.size+1) 7 rev.toNat (by omega) (aF [123,34,114,101,118,34,58]) ((w.alloc (.cells #[.int .i64 rev,.slice aj nj cj,.slice an nn cn,.slice al nl cl] 26)).alloc (.cells #[.int .u8 123,.int .u8 34,.int .u8 114,.int .u8 101,.int .u8 118,.int .u8 34,.int .u8 58] 5 (7,8))) (by simp) rfl hr1 (by decide) (HT.out _ hb1))
 have hrv:((rev.toNat:Nat):Int)=rev:=Int.toNat_of_nonneg hr0
 rw [hrv] at HI
 have Hit:=hid (show Lib.itoa rev=Lib.decDigits rev.toNat by unfold Lib.itoa; rw [if_neg (by omega)])
 have HB0:=hid hB0
 have HK1:=hid hk1
 have Hb1:=hid hb1
 have x0:((w.alloc (.cells #[.int .i64 rev,.slice aj nj cj,.slice an nn cn,.slice al nl cl] 26)).alloc (.cells #[.int .u8 123,.int .u8 34,.int .u8 114,.int .u8 101,.int .u8 118,.int .u8 34,.int .u8 58] 5 (7,8))).cell? ⟨w.heap.size,0,none⟩=some (.int .i64 rev):=hB0.cell 0
 clear hB0 hk1 hb1 hr1 hrv
 go_enter Tryz.func22,Tryz.ntmps22
 go_wp2_with fail
 refine Calls.mono HI.out ?_
 clear x0 kc HI
 rintro e w2 ⟨v2,rfl,ho2,hb2⟩
 obtain⟨A2,c2,rfl⟩:=BE ho2
 have HA2:=hid (show At2 w.heap.size w ([123,34,114,101,118,34,58] ++ Lib.itoa rev) w2 A2 (7+(Lib.decDigits rev.toNat).length) c2 from ⟨by rw [Hit.out,cV]; exact bV ho2 Hb1.out.size,Hb1.out.trans (hb2.mono Hb1.out.size),HK1.out.below hb2⟩)
 have HB2:=hid (HB0.out.below hb2 HB0.out.lt)
 obtain⟨m2,hm2⟩:∃ m2,7+(Lib.decDigits rev.toNat).length=m2:=⟨_,rfl⟩
 rw [hm2] at HA2 ⊢
 have hm2:m2≤30:=by
  have e3:=HA2.out.len
  simp only [List.length_append,List.length_cons,List.length_nil] at e3
  omega
 clear ho2 hb2
 have x3:w2.cell? ⟨w.heap.size,1,none⟩=some (.slice aj nj cj):=HB2.out.cell 1
 go_wp2_with fail
 refine Calls.mono (wh.1 w.heap.size _ _ _ _ ⟨#[106,111,98,115]⟩ jobs _ _ _ _ HA2.out.own (by omega) HA2.out.below.size (by decide) (HS.out.j.below HA2.out.below) HS.out.lj (by omega) Q1.out (HT.out.on HA2.out.below)) ?_
 clear x3
 rintro e w3 ⟨A3,m3,c3,rfl,ho3,hb3,hk3⟩
 have HA3:=hid (HA2.out.post ho3 hb3 hk3)
 have HB3:=hid (HB2.out.jW (by decide) hk3)
 have hm3:m3≤243080:=by
  have e3:=HA3.out.len
  have e2:=HA2.out.len
  simp only [List.length_append,List.length_cons,List.length_nil] at e3 e2
  omega
 clear ho3 hb3 hk3
 have x4:w3.cell? ⟨w.heap.size,2,none⟩=some (.slice an nn cn):=HB3.out.cell 2
 go_wp2_with fail
 refine Calls.mono (wh.2.1 w.heap.size _ _ _ _ ⟨#[110,111,100,101,115]⟩ nodes _ _ _ _ HA3.out.own (by omega) HA3.out.below.size (by decide) (HS.out.n.below HA3.out.below) HS.out.ln (by omega) Q2.out (HT.out.on HA3.out.below)) ?_
 clear x4
 rintro e w4 ⟨A4,m4,c4,rfl,ho4,hb4,hk4⟩
 have HA4:=hid (HA3.out.post ho4 hb4 hk4)
 have HB4:=hid (HB3.out.jW (by decide) hk4)
 have hm4:m4≤486130:=by
  have e3:=HA4.out.len
  have e2:=HA3.out.len
  simp only [List.length_append,List.length_cons,List.length_nil] at e3 e2
  omega
 clear ho4 hb4 hk4
 have x5:w4.cell? ⟨w.heap.size,3,none⟩=some (.slice al nl cl):=HB4.out.cell 3
 go_wp2_with fail
 refine Calls.mono (wh.2.2 w.heap.size _ _ _ _ ⟨#[108,101,97,115,101,115]⟩ leases _ _ _ _ HA4.out.own (by omega) HA4.out.below.size (by decide) (HS.out.l.below HA4.out.below) HS.out.ll (by omega) Q3.out (HT.out.on HA4.out.below)) ?_
 clear x5
 rintro e w5 ⟨A5,m5,c5,rfl,ho5,hb5,hk5⟩
 have HA5:=hid (HA4.out.post ho5 hb5 hk5)
 have HB5:=hid (HB4.out.jW (by decide) hk5)
 have hm5:m5≤729180:=by
  have e3:=HA5.out.len
  have e2:=HA4.out.len
  simp only [List.length_append,List.length_cons,List.length_nil] at e3 e2
  omega
 clear ho5 hb5 hk5
 go_wp2_with (at_builtin; refine gC rfl _ _ rfl w.heap.size _ _ _ _ rfl HA5.out.own _ 125 rfl rfl (by omega) HA5.out.below.size ?_; intro A6 c6 w6 ho6 hg6; have HA6:=hid (HA5.out.grew (Nat.le_refl _) ho6 hg6); have hcv:=cN (P:=Tryz.prog) Tryz.underlying118 Tryz.underlying5 Tryz.underlying9 ho6; clear ho6 hg6)
 go_ret
 exact⟨Ih (by simp [List.append_assoc]),HA6.out.below⟩
theorem Gb (st : ah) (x : StA) (w : World) (hS : StAt w w.heap.size st x) (hT : Tabs w) (htab : Lib.TabBelow Tryz.prog w.heap.size w "internal/strconv.uint64pow10" .u64 Lib.pow10Tab) :
 Calls Tryz.prog 6 #[.agg (stC st x)] w (CG st w):=by
 have hb1:Below w.heap.size w (w.alloc (.cells (stC st x) 26)):=(Below.refl _ _).alloc (Nat.le_refl _) _
 have H1:=hid (fq st x (w.alloc (.cells (stC st x) 26)) (hS.upE hb1) (hT.below hb1))
 have hB1:Blk (w.alloc (.cells (stC st x) 26)) w.heap.size 26 (stC st x):=heap_alloc_new w _
 have Hb1:=hid hb1
 have HB1:=hid hB1
 have HS:=hid hS
 have HT:=hid htab
 by_cases hc:ay st=0
 · have Hp:j6 st=(⟨(eU st).toArray⟩,0):=by unfold j6; rw [if_neg (by simp [hc])]
   have Hf:=hid (fun (W:World) (hb:Below w.heap.size w W)=>(show CG st w (.returned (.tuple #[.string ⟨(eU st).toArray⟩,.int .i64 0])) W from ⟨by rw [Hp],hb⟩))
   have H2:=hid (fun (W:World) (hb:Below w.heap.size w W)=>xw st x W (hS.upE hb) hc (fun w' h'=>htab w' (hb.trans (h'.mono hb.size))))
   rw [hc] at H1
   obtain⟨T,hTx⟩:∃ T:ByteArray,(⟨(eU st).toArray⟩:ByteArray)=T:=⟨_,rfl⟩
   simp only [hTx] at H2 Hf
   clear hb1 hB1 hS htab hT hc Hp HS HT hTx
   obtain⟨rev,jobs,nodes,leases⟩:=st
   obtain⟨aj,nj,cj,an,nn,cn,al,nl,cl⟩:=x
   simp only [stC] at *
   go_enter Tryz.func6,Tryz.ntmps6
   go_wp2_with fail
   refine Calls.mono H1.out ?_
   rintro e w1 ⟨rfl,hb⟩
   have Hb2:=hid (Hb1.out.trans (hb.mono Hb1.out.size))
   have HB2:=hid (HB1.out.below hb HB1.out.lt)
   obtain⟨x0,x1,x2,x3⟩:=Blk.c4 (HB2.out)
   clear hb
   go_wp2_with fail
   refine Calls.mono (H2.out _ Hb2.out) ?_
   rintro e w2 ⟨rfl,hb⟩
   have Hb3:=hid (Hb2.out.trans (hb.mono Hb2.out.size))
   clear hb x0 x1 x2 x3
   go_wp2
   go_ret2
   exact Hf.out _ Hb3.out
 · obtain⟨E,hE⟩:∃ E,ay st=E:=⟨_,rfl⟩
   have Hf:=hid (fun (W:World) (hb:Below w.heap.size w W)=>(show CG st w (.returned (.tuple #[.string ⟨#[]⟩,.int .i64 E])) W from ⟨by unfold j6; rw [if_pos hc,hE],hb⟩))
   rw [hE] at H1 hc
   clear hb1 hB1 hS htab hT HS HT hE
   have e1:(E == 0)=false:=beq_eq_false_iff_ne.2 hc
   have e2:(E != 0)=true:=by simpa using hc
   clear hc
   obtain⟨rev,jobs,nodes,leases⟩:=st
   obtain⟨aj,nj,cj,an,nn,cn,al,nl,cl⟩:=x
   simp only [stC] at *
   go_enter Tryz.func6,Tryz.ntmps6
   go_wp2_with fail
   refine Calls.mono H1.out ?_
   rintro e w1 ⟨rfl,hb⟩
   have Hb2:=hid (Hb1.out.trans (hb.mono Hb1.out.size))
   clear hb
   go_wp2
   go_ret2
   exact Hf.out _ Hb2.out
theorem Ef {P:Program} {w:World} {o:Oper} {a:Act} {Q:Exit→Act→World→Prop} {K:Act→World→Prop} {α:Type} (enc:α→List Value) (s x:Operand) (t e:TypeId) (z:Value) (sz bytes:Nat) (ho:o.op = .call { callee:=.builtin .append,args:=#[s,x],argTypes:=#[t,t] })
 (ht:P.underlying t=some (.slice e)) (hinfo:(P.info? e).map (fun i=>(i.zero,i.size,i.bytes))=some (some z,sz,bytes)) (hzs:z.cells.size=sz) (hsz:0<sz)
 (henc:∀ a,(enc a).length=sz) (h1:∀ a,∀ u ∈ enc a,u.oneCell'=true)
 (base:Nat) (A:Option Addr) (m c:Nat) (l:List α) (hs:a.eval s = .slice A m c) (hown:w.ownsRow base e sz (.slice A m c) m (au enc l))
 (b:α) (g c2:Nat) (hr:dw w g 0 (enc b)) (hx:a.eval x = .slice (some ⟨g,0,none⟩) 1 c2) (hm:(m+1)*bytes≤140737488355328) (h63:m+1≤maxLen) (hbase:base≤w.heap.size)
 (h:∀ A' c' w',w'.ownsRow base e sz (.slice A' (m+1) c') (m+1) (au enc (l ++ [b]))→dE w w' (.slice A m c) (.slice A' (m+1) c')→K (a.put o.dst (.slice A' (m+1) c')) w') :
 o.wp P a w K Q:=by
 obtain⟨i0,hi,hz0,hz1,hz2⟩:=info_parts hinfo
 obtain⟨v',w',hrun,h2,h3,h4,h5⟩:=run_append_own_at (P:=P) w base t o.type e i0 z sz bytes ht hi hz0 hz1 hz2 hzs hsz _ m _ hown ⟨g,0,none⟩ 1 c2 (enc b) (by rw [henc,Nat.one_mul]) (fun j u hu=>by
  rw [Lib.add_plain]; exact hr j u hu) (fun u hu=>h1 _ _ hu) h63 hm hbase
 have e1:au enc l ++ enc b=au enc (l ++ [b]):=by rw [dK,kO]
 rw [e1] at h2
 unfold Oper.wp execOp
 simp only [ho,resolve,invoke,builtin,Sem.run_bind,Sem.run_pure,Result.andThen_ok,List.map_toArray,List.map_cons,List.map_nil,hs,hx,hrun]
 obtain⟨g,cap,hv,_⟩:=h2.form (by omega)
 subst hv
 refine h _ _ _ h2 ⟨h3,?_⟩
 rcases h5 with h5 | h5
 · exact .inl h5
 · exact .inr ⟨_,h5,Nat.le_refl _⟩
end Go.Proofs.YtcpgnjmaampglaaGreatDoor
