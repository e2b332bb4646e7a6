/- Of the proof of a statement: WTopApart. -/
import Derived.Deep.CutBlock
import Derived.Deep.DeepCutAuto
import Derived.Deep.LoopGhost
import Derived.Test.YtbllgmociapjeaaGreatDoorVHubP
set_option linter.unusedVariables false
set_option linter.unusedSimpArgs false
set_option maxRecDepth 100000
set_option maxHeartbeats 8000000
/- The walk of the law TopApart. -/
namespace Go.Proofs.YtbllgmociapjeaaGreatDoor
open Go.Lib (hid)
open List (foldl_cons foldl_nil setIfInBounds_toArray set_cons_succ set_cons_zero)
open Go.RowKit
def Ds:Value:=.agg #[.int .i64 0,.string ⟨#[]⟩]
theorem Dt:(Tryz.prog.info? 45).map (fun i=>(i.zero,i.size,i.bytes))=some (some Ds,2,24):=by kernel_rfl
theorem wV (a:eL):∀ u ∈ lQ a,u.oneCell'=true:=by
 intro u hu
 simp only [lQ,List.mem_cons,List.not_mem_nil,or_false] at hu
 rcases hu with rfl | rfl <;> rfl
structure oO (w0:World) (va vb:Value) (na nb:Nat) (a b:List eL) (w:World):Prop where
 below:Below w0.heap.size w0 w
 oa:w.ownsRow w0.heap.size 45 2 va na (au lQ a)
 ob:w.ownsRow w0.heap.size 45 2 vb nb (au lQ b)
 ap:∀ q,va.ownBlock=some q→vb.ownBlock=some q→False
section
variable {w0 w w':World} {va vb v':Value} {na nb:Nat} {a b:List eL}
theorem oO.less (h:oO w0 va vb na nb a b w) (hb:Below w.heap.size w w'):oO w0 va vb na nb a b w':=
 ⟨h.below.trans (hb.mono h.below.size),jL h.oa hb,jL h.ob hb,h.ap⟩
theorem oO.pushB (h:oO w0 va vb na nb a b w) (hg:bZ w w' vb v') {n':Nat} {x:eL} (ho:w'.ownsRow w0.heap.size 45 2 v' n' (au lQ (b ++ [x]))):oO w0 va v' na n' a (b ++ [x]) w':=by
 refine⟨h.below.trans (hg.below h.below.size fun g hg'=>(h.ob.lt g hg').1),h.oa.kept hg.grown ?_,ho,fun q h1 h2=>?_⟩
 · cases hv:va.ownBlock with
   | none=>exact .inl rfl
   | some q=>exact .inr fun e=>h.ap q hv e.symm
 · rcases hg.own with e | ⟨g,e,hg'⟩
   · rw [e] at h2; exact h.ap q h1 h2
   · rw [e] at h2
     injection h2 with h2
     have:=(h.oa.lt q h1).2
     omega
theorem oO.swap (h:oO w0 va vb na nb a b w):oO w0 vb va nb na b a w:=⟨h.below,h.ob,h.oa,fun q h1 h2=>h.ap q h2 h1⟩
theorem oO.LW (h:oO w0 va vb na nb a b w) (hg:bZ w w' va v') {n':Nat} {x:eL} (ho:w'.ownsRow w0.heap.size 45 2 v' n' (au lQ (a ++ [x]))):oO w0 v' vb n' nb (a ++ [x]) b w':=(h.swap.pushB hg ho).swap
end
theorem Mix.len {a b:List eL} (h:Mix a b):a.length≤b.length:=by
 induction h with
 | nil=>exact Nat.le_refl _
 | req c L _ ih=>simp only [List.length_append,List.length_cons,List.length_nil]; omega
 | junk j _ ih=>simp only [List.length_append,List.length_cons,List.length_nil]; omega
theorem zB {l:List eL} {x:eL} (h:∀ y ∈ l,iw rqW y) (hx:iw rqW x):∀ y ∈ l ++ [x],iw rqW y:=fun y hy=>by
 rcases List.mem_append.1 hy with h1 | h1
 · exact h y h1
 · have e:y=x:=by simpa using h1
   rw [e]; exact hx
def IH (w0:World) (va vb:Value) (w:World):Prop:=
 ∃ (A1 A2:Option Addr) (n1 n2 c1 c2:Nat) (a b:List eL),va = .slice A1 n1 c1∧vb = .slice A2 n2 c2∧oO w0 (.slice A1 n1 c1) (.slice A2 n2 c2) n1 n2 a b w∧a.length=n1∧b.length=n2∧n2≤59∧Mix a b∧(∀ y ∈ a,iw rqW y)∧(∀ y ∈ b,iw rqW y)
theorem Bk {s:ByteArray} (h:0<s.size) (hb:aK s 0≠66):fM s=(.zero,0,4):=by
 have h0:=FS h hb
 unfold fM
 rw [h0,if_neg (by decide)]
def xB:ByteArray:=⟨#[120]⟩
theorem Du (j:ByteArray):0<(xB ++ j).size∧aK (xB ++ j) 0≠66:=by
 have hs:(xB ++ j).size=1+j.size:=by rw [ByteArray.size_append]; rfl
 refine⟨by omega,?_⟩
 unfold aK
 rw [ByteArray.toList_data_append]
 show (120:UInt8).toNat≠66
 decide
theorem Fg (j:ByteArray) (hj:j.size≤1048576):∃ J,iw rqW (.junk J)∧((((j.size:Int) == 0)=true∧(⟨#[120]⟩:ByteArray) ++ j=J) ∨
 (((j.size:Int) == 0)=false∧(∀ W:World,(Instr.index 9 (.string j) (.int .i64 0)).run Tryz.prog W = .ok (.int .u8 66) W)∧(⟨#[120]⟩:ByteArray) ++ j=J) ∨
 (((j.size:Int) == 0)=false∧(∃ c:Int,(∀ W:World,(Instr.index 9 (.string j) (.int .i64 0)).run Tryz.prog W = .ok (.int .u8 c) W)∧(c == 66)=false)∧j=J)):=by
 have hx:iw rqW (.junk (xB ++ j)):=⟨Bk (Du j).1 (Du j).2,by
  have hs:(xB ++ j).size=1+j.size:=by rw [ByteArray.size_append]; rfl
  omega⟩
 by_cases h0:j.size=0
 · exact⟨xB ++ j,hx,.inl ⟨by simp [h0],rfl⟩⟩
 · have hp:0<j.size:=by omega
   have hz:((j.size:Int) == 0)=false:=by simpa using h0
   have hi:=qV (k:=0) hp
   by_cases hb:aK j 0=66
   · rw [hb] at hi
     exact⟨xB ++ j,hx,.inr (.inl ⟨hz,hi,rfl⟩)⟩
   · exact⟨j,⟨Bk hp hb,by omega⟩,.inr (.inr ⟨hz,⟨_,hi,by simp; omega⟩,rfl⟩)⟩
structure ApG where
 g1:Option Nat
 g2:Option Nat
 v1:Option Value
 v2:Option Value
def apV (va vb:Value) (cn:Nat) (tx:ByteArray) (γ:ApG):Nat→Value→Prop
 | 0,u=>u=va
 | 1,u=>u = .agg #[.int .i64 (cn:Int),.string tx]
 | 2,u=>∃ g,γ.g1=some g∧u = .slice (some ⟨g,0,none⟩) 1 1
 | 3,u=>γ.v1=some u
 | 4,u=>u=vb
 | 5,u=>u = .agg #[.int .i64 (cn:Int),.string tx]
 | 6,u=>∃ g,γ.g2=some g∧u = .slice (some ⟨g,0,none⟩) 1 1
 | 7,u=>γ.v2=some u
 | 8,u=>γ.v1=some u
 | 9,u=>γ.v2=some u
 | _,_=>True
section
variable {va vb:Value} {cn:Nat} {tx:ByteArray} {γ:ApG}
theorem Lo (g:Nat):∀ j v,j≠2→apV va vb cn tx γ j v→apV va vb cn tx { γ with g1:=some g } j v:=by
 intro j v hj h
 unfold apV at *
 split at h
 all_goals first | exact h | exact absurd rfl hj
theorem Lp (g:Nat):∀ j v,j≠6→apV va vb cn tx γ j v→apV va vb cn tx { γ with g2:=some g } j v:=by
 intro j v hj h
 unfold apV at *
 split at h
 all_goals first | exact h | exact absurd rfl hj
theorem Lq (h0:γ.v1=none) (u:Value):∀ j v,j≠3→apV va vb cn tx γ j v→apV va vb cn tx { γ with v1:=some u } j v:=by
 intro j v hj h
 unfold apV at *
 split at h
 all_goals first | exact h | exact absurd rfl hj | (rw [h0] at h; cases h)
theorem Lr (h0:γ.v2=none) (u:Value):∀ j v,j≠7→apV va vb cn tx γ j v→apV va vb cn tx { γ with v2:=some u } j v:=by
 intro j v hj h
 unfold apV at *
 split at h
 all_goals first | exact h | exact absurd rfl hj | (rw [h0] at h; cases h)
end
structure ApAt (w0:World) (va vb:Value) (na nb:Nat) (a b:List eL) (x:eL) (N bx p:Nat) (γ:ApG) (w:World):Prop where
 sa:∀ q,va.ownBlock=some q→q<N
 sb:∀ q,vb.ownBlock=some q→q<N
 hN:N≤bx
 box:Blk w bx 45 #[.int .i64 (x.conn:Int),.string x.text]
 g1:∀ g,γ.g1=some g→N≤g∧Blk w g 45 #[.int .i64 (x.conn:Int),.string x.text]
 g2:∀ g,γ.g2=some g→N≤g∧Blk w g 45 #[.int .i64 (x.conn:Int),.string x.text]
 n1:p=0→γ.v1=none
 n2:p≤1→γ.v2=none
 at0:p=0→oO w0 va vb na nb a b w
 at1:p=1→∃ A c,γ.v1=some (.slice A (na+1) c)∧oO w0 (.slice A (na+1) c) vb (na+1) nb (a ++ [x]) b w
 at2:p=2→∃ A c A' c',γ.v1=some (.slice A (na+1) c)∧γ.v2=some (.slice A' (nb+1) c')∧oO w0 (.slice A (na+1) c) (.slice A' (nb+1) c') (na+1) (nb+1) (a ++ [x]) (b ++ [x]) w
section
variable {w0 w w':World} {va vb:Value} {na nb:Nat} {a b:List eL} {x:eL} {N bx p:Nat} {γ:ApG}
theorem ApAt.less (h:ApAt w0 va vb na nb a b x N bx p γ w) (hb:Below w.heap.size w w'):ApAt w0 va vb na nb a b x N bx p γ w':=
 ⟨h.sa,h.sb,h.hN,h.box.below hb h.box.lt,fun g e=>⟨(h.g1 g e).1,(h.g1 g e).2.below hb (h.g1 g e).2.lt⟩,fun g e=>⟨(h.g2 g e).1,(h.g2 g e).2.below hb (h.g2 g e).2.lt⟩,h.n1,h.n2,fun e=>(h.at0 e).less hb,
  fun e=>by obtain⟨A,c,h1,h2⟩:=h.at1 e; exact⟨A,c,h1,h2.less hb⟩,fun e=>by obtain⟨A,c,A',c',h1,h2,h3⟩:=h.at2 e; exact⟨A,c,A',c',h1,h2,h3.less hb⟩⟩
theorem ApAt.lit1 (h:ApAt w0 va vb na nb a b x N bx p γ w):ApAt w0 va vb na nb a b x N bx p { γ with g1:=some w.heap.size } (w.alloc (.cells #[.int .i64 (x.conn:Int),.string x.text] 45)):=by
 have h1:=h.less ((Below.refl w.heap.size w).alloc (Nat.le_refl _) (.cells #[.int .i64 (x.conn:Int),.string x.text] 45))
 exact⟨h1.sa,h1.sb,h1.hN,h1.box,fun g e=>by injection e with e; subst e; exact⟨Nat.le_trans h.hN (Nat.le_of_lt h.box.lt),heap_alloc_new w _⟩,h1.g2,h1.n1,h1.n2,h1.at0,h1.at1,h1.at2⟩
theorem ApAt.lit2 (h:ApAt w0 va vb na nb a b x N bx p γ w):ApAt w0 va vb na nb a b x N bx p { γ with g2:=some w.heap.size } (w.alloc (.cells #[.int .i64 (x.conn:Int),.string x.text] 45)):=by
 have h1:=h.less ((Below.refl w.heap.size w).alloc (Nat.le_refl _) (.cells #[.int .i64 (x.conn:Int),.string x.text] 45))
 exact⟨h1.sa,h1.sb,h1.hN,h1.box,h1.g1,fun g e=>by injection e with e; subst e; exact⟨Nat.le_trans h.hN (Nat.le_of_lt h.box.lt),heap_alloc_new w _⟩,h1.n1,h1.n2,h1.at0,h1.at1,h1.at2⟩
theorem lq {v:Value} {q:Nat} {t:TypeId} {cs:Array Value} (hg:w.grownBy w' v.ownBlock) (hs:∀ q,v.ownBlock=some q→q<N) (hq:N≤q) (hb:Blk w q t cs):Blk w' q t cs:=
 (hg.block q hb.lt (fun e=>by have:=hs q e.symm; omega)).trans hb
theorem ApAt.LX (h:ApAt w0 va vb na nb a b x N bx 0 γ w) {g c:Nat} (ho:w'.ownsRow w0.heap.size 45 2 (.slice (some ⟨g,0,none⟩) (na+1) c) (na+1) (au lQ a ++ lQ x)) (hg:w.grownBy w' va.ownBlock) (hor:va.ownBlock=some g∨g=w.heap.size) :
 ApAt w0 va vb na nb a b x N bx 1 { γ with v1:=some (.slice (some ⟨g,0,none⟩) (na+1) c) } w':=by
 have hG:bZ w w' va (.slice (some ⟨g,0,none⟩) (na+1) c):=⟨hg,by
  rcases hor with e | e
  · exact .inl e.symm
  · exact .inr ⟨g,rfl,by omega⟩⟩
 have e:au lQ a ++ lQ x=au lQ (a ++ [x]):=by rw [bU,pB]
 rw [e] at ho
 exact⟨h.sa,h.sb,h.hN,lq hg h.sa h.hN h.box,fun g e=>⟨(h.g1 g e).1,lq hg h.sa (h.g1 g e).1 (h.g1 g e).2⟩,fun g e=>⟨(h.g2 g e).1,lq hg h.sa (h.g2 g e).1 (h.g2 g e).2⟩,fun e=>by omega,fun _=>h.n2 (by omega),fun e=>by omega,fun _=>⟨_,_,rfl,(h.at0 rfl).LW hG ho⟩,fun e=>by omega⟩
theorem ApAt.LY (h:ApAt w0 va vb na nb a b x N bx 1 γ w) {g c:Nat} (ho:w'.ownsRow w0.heap.size 45 2 (.slice (some ⟨g,0,none⟩) (nb+1) c) (nb+1) (au lQ b ++ lQ x)) (hg:w.grownBy w' vb.ownBlock) (hor:vb.ownBlock=some g∨g=w.heap.size) :
 ApAt w0 va vb na nb a b x N bx 2 { γ with v2:=some (.slice (some ⟨g,0,none⟩) (nb+1) c) } w':=by
 have hG:bZ w w' vb (.slice (some ⟨g,0,none⟩) (nb+1) c):=⟨hg,by
  rcases hor with e | e
  · exact .inl e.symm
  · exact .inr ⟨g,rfl,by omega⟩⟩
 have e:au lQ b ++ lQ x=au lQ (b ++ [x]):=by rw [bU,pB]
 rw [e] at ho
 obtain⟨A,c1,h1,h2⟩:=h.at1 rfl
 exact⟨h.sa,h.sb,h.hN,lq hg h.sb h.hN h.box,fun g e=>⟨(h.g1 g e).1,lq hg h.sb (h.g1 g e).1 (h.g1 g e).2⟩,fun g e=>⟨(h.g2 g e).1,lq hg h.sb (h.g2 g e).1 (h.g2 g e).2⟩,fun e=>by omega,fun e=>by omega,fun e=>by omega,fun e=>by omega,fun _=>⟨_,_,_,_,h1,rfl,h2.pushB hG ho⟩⟩
end
theorem lR.any {st:ah} {acts:List eL} {w w':World} {e:Ending} {CE:Int} {M:Nat} (h:lR st acts w e w') (hC:aE st=CE) (hM:(if CE=0 then 8 else 0)=M) :
 ∃ (X:Option Addr) (cx:Nat),Below w.heap.size w w'∧e = .returned (.tuple #[.slice X M cx,.int .i64 CE])∧∀ k,k<M→∃ b,X=some ⟨b,0,none⟩∧b<w'.heap.size∧w'.cell? ⟨b,k,none⟩=some (.string (BA (vL (nK tlW rqW ⟨mA st,fun _=>[]⟩ acts) k))):=by
 obtain⟨hb,⟨h0,he⟩ | ⟨h0,b,he,_,hB⟩⟩:=h
 · rw [hC] at h0 he
   rw [if_neg h0] at hM
   subst hM
   exact⟨none,0,hb,he,fun k hk=>absurd hk (by omega)⟩
 · rw [hC] at h0
   subst h0
   rw [if_pos rfl] at hM
   subst hM
   exact⟨_,8,hb,he,fun k hk=>⟨b,rfl,hB.lt,by rw [hB.cell]; exact yS hk⟩⟩
theorem yT (w:World) (s0:ah) (x0:StA) (qs:List aF) (A:Option Addr) (n c:Nat) (js:List ByteArray) (B:Option Addr) (m d:Nat) (hs:StAt w w.heap.size s0 x0∧Fo s0) (hq:aU w w.heap.size 14 A n (au Fm qs)) (hl:qs.length=n) (hn:n≤9223372036854775807) (hf:∀ q ∈ qs,qI q)
 (hj:aU w w.heap.size 1 B m (js.map Value.string)) (hjl:js.length=m) (hm:m≤9223372036854775807) (hjs:∀ j ∈ js,j.size≤1048576) (hT:Tabs w) :
 Calls Tryz.prog 3 #[.agg (stC s0 x0),.slice A n c,.slice B m d] w fun e w'=>e = .returned (.bool true)∧Below w.heap.size w w':=by
 have hb1:Below w.heap.size w (w.alloc (.cells (stC s0 x0) 26)):=(Below.refl _ _).alloc (Nat.le_refl _) _
 obtain⟨W1,hW1⟩:∃ W1,w.alloc (.cells (stC s0 x0) 26)=W1:=⟨_,rfl⟩
 have hB:Blk W1 w.heap.size 26 (stC s0 x0):=by rw [← hW1]; exact heap_alloc_new w _
 rw [hW1] at hb1
 have HS:=hid hs.1
 have HF:=hid hf
 have Hl:=hid hl
 have HT:=hid hT
 have Hb1:=hid hb1
 have HB:=hid hB
 have HWk:=hid (Ed W1 (hT.below hb1))
 have HW1:=hid hW1
 have HQ:=hid hq
 have HJ:=hid hj
 have Hjl:=hid hjl
 have Hjs:=hid hjs
 clear hs hf hl hT hb1 hB hW1 hq hj hjl hjs
 unfold stC at HW1 ⊢
 go_enter Tryz.func3,Tryz.ntmps3
 go_wp2_with fail
 try rw [HW1.out]
 clear HW1
 refine Calls.mono HWk.out ?_
 rintro e w1 ⟨rfl,hbk⟩
 have Hbk:=hid (Hb1.out.trans (hbk.mono Hb1.out.size))
 have HBk:=hid (HB.out.below hbk HB.out.lt)
 have Ii:=hid (show w.heap.size<w1.heap.size from HBk.out.lt)
 clear hbk HWk HB Hb1
 go_upto_block 0 with fail
 go_cut [7,8] (fun va vb wx=>IH w1 va vb wx)
 case first=>
  go_wp2_with fail
  go_loopg [7,8,27] n (fun g va vb i wr=>∃ k:Nat,k≤n∧g=n - k∧i = .int .i64 k∧IH w1 va vb wr)
  case atStart=>exact⟨0,Nat.zero_le _,by omega,rfl,none,none,0,0,0,0,[],[],rfl,rfl,⟨Below.refl _ _,World.ownsRow_nil _ _ _ _,World.ownsRow_nil _ _ _ _,fun _ h=>by cases h⟩,rfl,rfl,by omega,.nil,(fun _ h=>by cases h),(fun _ h=>by cases h)⟩
  case round=>
   obtain⟨k,hk,rfl,rfl,A1,A2,n1,n2,ca,cb,a,b,rfl,rfl,hAt,hla,hlb,h59,wW,hoa,hob⟩:=hrel
   by_cases hlt:k<n
   · obtain⟨q,hfq⟩:∃ q,qs[k]? = some q:=⟨_,List.getElem?_eq_getElem (by rw [Hl.out]; exact hlt)⟩
     have HbR:=hid (Hbk.out.trans (hAt.below.mono Hbk.out.size))
     obtain⟨bq,off,rfl,hbB,hc⟩:=(HQ.out.below HbR.out).dB zK Hl.out hfq
     have Hok:=hid (Le (HF.out q (List.mem_of_getElem? hfq)))
     have hwb:=HbR.out.size
     obtain⟨c0,c1,c2,c3,c4,c5,c6,c7,c8,c9,c10,c11,c12,c13⟩:=rc14 hc
     have hlk:k*14+14≤n*14:=by omega
     have hbl:bq<wr.heap.size:=by omega
     obtain⟨wq,hwq⟩:∃ wq,wr.alloc (.cells (aN q) 38)=wq:=⟨_,rfl⟩
     have hbQ:Below wr.heap.size wr wq:=by rw [← hwq]; exact (Below.refl _ _).alloc (Nat.le_refl _) _
     have HQ1:Blk wq wr.heap.size 38 (aN q):=by rw [← hwq]; exact heap_alloc_new wr _
     have HA:=hid (hAt.less hbQ)
     have Hla:=hid hla
     have Hlb:=hid hlb
     have uA:=hid wW
     have Hoa:=hid hoa
     have Hob:=hid hob
     have HQ1:=hid HQ1
     have Hwq:=hid hwq
     have HbQ:=hid (HbR.out.trans (hbQ.mono HbR.out.size))
     clear hfq hc hbQ hwq hAt hla hlb wW hoa hob HbR
     unfold aN at Hwq
     by_cases h57:57<n2
     · go_wp2
       simp only [Hwq.out]
       go_meet
       exact⟨A1,A2,n1,n2,ca,cb,a,b,rfl,rfl,HA.out,Hla.out,Hlb.out,h59,uA.out,Hoa.out,Hob.out⟩
     · have hn2:n2≤57:=by omega
       go_upto_if 38 with fail
       go_cut [8,11,12,13,14] (fun vb s11 s12 s13 s14 wx=>∃ (A2:Option Addr) (n2 cb:Nat) (b:List eL),vb = .slice A2 n2 cb∧oO w1 (.slice A1 n1 ca) (.slice A2 n2 cb) n1 n2 a b wx∧b.length=n2∧n2≤58∧Mix a b∧(∀ y ∈ b,iw rqW y)∧Blk wx wr.heap.size 38 (aN q))
       case first=>
        by_cases hkm:k<m
        · obtain⟨jt,hjt⟩:∃ jt,js[k]? = some jt:=⟨_,List.getElem?_eq_getElem (by rw [Hjl.out]; exact hkm)⟩
          have hjs:=Hjs.out jt (List.mem_of_getElem? hjt)
          obtain⟨bj,offj,u,rfl,hbj,hu,hcj⟩:=(HJ.out.below HbQ.out).cell (j:=k) (by omega)
          rw [List.getElem?_map,hjt] at hu
          injection hu with hu
          subst hu
          obtain⟨⟨ver,kind,pay⟩,nn,e,hd⟩:∃ f nn e,fM jt=(f,nn,e):=⟨_,_,_,rfl⟩
          have HD:=hid (Cf hd wq (by omega))
          have e1:wq.cell? ⟨bj,offj+k,none⟩=some (.string jt):=hcj
          obtain⟨J,hJ,hjB⟩:=Fg jt hjs
          have HJo:=hid hJ
          have hx1:¬ 9223372036854775807<(⟨#[120]⟩:ByteArray).size+jt.size:=by show ¬ 9223372036854775807<1+jt.size; omega
          have hx2:(⟨#[120]⟩:ByteArray).size+jt.size≤9223372036854775807:=by show 1+jt.size≤9223372036854775807; omega
          have hbjl:bj<wq.heap.size:=by have:=HbQ.out.size; omega
          clear hjt hd hcj hJ
          simp only [Hwq.out]
          clear Hwq
          dsimp only at HD
          go_wp2_with fail
          refine Calls.mono HD.out ?_
          rintro y w2 ⟨rfl,hb2⟩
          obtain⟨w3,hw3⟩:∃ w3,w2.alloc (.cells #[.int .i64 (ver:Int),.int .i64 (kind:Int),.string pay] 40)=w3:=⟨_,rfl⟩
          have hb3:Below w2.heap.size w2 w3:=by rw [← hw3]; exact (Below.refl _ _).alloc (Nat.le_refl _) _
          have hB3:Blk w3 w2.heap.size 40 #[.int .i64 (ver:Int),.int .i64 (kind:Int),.string pay]:=by rw [← hw3]; exact heap_alloc_new w2 _
          have hA3:=(HA.out.less hb2).less hb3
          have HA3:=hid hA3
          have hbr:=hA3.below.size
          have HQ3:=hid ((HQ1.out.below hb2 HQ1.out.lt).below hb3 (HQ1.out.below hb2 HQ1.out.lt).lt)
          have HbF:=hid ((HbQ.out.trans (hb2.mono HbQ.out.size)).trans (hb3.mono (HbQ.out.trans (hb2.mono HbQ.out.size)).size))
          obtain⟨z0,z1⟩:=Blk.c2 (hB3)
          have hl3:=hB3.lt
          clear hb2 hb3 hB3 hA3 HD HA HQ1 HbQ e1 hbjl
          go_upto_region 11 with fail
          try simp only [hw3]
          clear hw3
          by_cases hall:e=0∧ver=3∧kind=3
          · obtain⟨rfl,rfl,rfl⟩:=hall
            clear hjB HJo HA3 HQ3
            go_wp2
            go_ret
            exact⟨rfl,HbF.out⟩
          · have hcB:((e:Int) == 0)=false∨(((e:Int) == 0)=true∧((ver:Int) == 3)=false)∨(((e:Int) == 0)=true∧((ver:Int) == 3)=true∧((kind:Int) == 3)=false):=by
             by_cases h0:e=0
             · subst h0
               by_cases h1:ver=3
               · subst h1
                 exact .inr (.inr ⟨rfl,rfl,by simp; omega⟩)
               · exact .inr (.inl ⟨rfl,by simp; omega⟩)
             · exact .inl (by simpa using h0)
            clear hall HbF
            rcases hcB with d0 | ⟨d0,d1⟩ | ⟨d0,d1,d2⟩
            all_goals
             rcases hjB with ⟨j0,cc⟩ | ⟨j0,ji,cc⟩ | ⟨j0,⟨c,ji,j1⟩,rfl⟩
             all_goals
              go_wp2_with (at_builtin; refine ko lQ rfl _ _ 30 45 Ds 2 24 rfl Tryz.underlying30 Dt rfl (by decide) AB wV w1.heap.size _ _ _ b rfl HA3.out.ob _ (.junk _) rfl _ (by simp) rfl (by omega) (by unfold maxLen; omega) hbr ?_; intro A' c' w4 ho4 hg4)
              go_meet
              exact⟨A',n2+1,c',_,rfl,HA3.out.pushB hg4 ho4,by simp [Hlb.out],by omega,.junk _ uA.out,zB Hob.out HJo.out,(hg4.grown.block _ HQ3.out.lt (fun e=>jw HQ3.out HA3.out.ob (by decide) e.symm)).trans HQ3.out⟩
        · simp only [Hwq.out]
          go_wp2
          go_meet
          exact⟨A2,n2,cb,b,rfl,HA.out,Hlb.out,by omega,uA.out,Hob.out,HQ1.out⟩
       case rest=>
        obtain⟨A2,n2,cb,b,rfl,hA,hlb,h58,wW,hob,hQ⟩:=hcut
        have HA:=hid hA
        have Hlb:=hid hlb
        have uA:=hid wW
        have Hob:=hid hob
        have HbC:=hid (Hbk.out.trans (hA.below.mono Hbk.out.size))
        have hT:=HT.out.below HbC.out
        obtain⟨a0,a1,a2,a3,a4,a5,a6,a7,a8,a9,a10,a11,a12,a13⟩:=Blk.c14 (hQ)
        have hlq:=hQ.lt
        have Hhb:=hid hA.below.size
        clear hA hlb wW hob hQ
        by_cases h0:cu q=0
        · have HBy:=hid (show Calls Tryz.prog 8 #[.agg (pN q)] wc (kX (BA (cR 3 3 (gZ q))) true wc) from vM q wc Hok.out hT h0)
          obtain⟨X,hX⟩:∃ X:eL,eL.req (k % 5) (gZ q)=X:=⟨_,rfl⟩
          have HX:=hid hX
          have HXo:=hid (show iw rqW X from by rw [← hX]; exact⟨Nat.mod_lt _ (by decide),Nat.le_trans (AH q) (by decide),KU h0 Hok.out⟩)
          have htx:BA (cR 3 3 (gZ q))=X.text:=by rw [← hX]; rfl
          have hcx:((k % 5:Nat):Int)=(X.conn:Int):=by rw [← hX]; rfl
          rw [htx] at HBy
          clear hX h0 hT htx
          go_wp2_with fail
          refine Calls.mono HBy.out ?_
          rintro y w5 ⟨rfl,hb5⟩
          go_upto_region 19 with fail
          rw [show ((k:Nat):Int) % 5=(X.conn:Int) from by omega]
          obtain⟨i0,hi,hz0,hz1,hz2⟩:=info_parts Dt
          have hn1:n1≤n2:=by have:=uA.out.len; rw [Hla.out,Hlb.out] at this; exact this
          have hA5:=HA.out.less hb5
          have hs5:=Nat.le_trans Hhb.out hb5.size
          obtain⟨bx,hbx⟩:∃ bx,w5.heap.size=bx:=⟨_,rfl⟩
          obtain⟨w6,hw6⟩:∃ w6,w5.alloc (.cells #[.int .i64 (X.conn:Int),.string X.text] 45)=w6:=⟨_,rfl⟩
          have hb6:Below w5.heap.size w5 w6:=by rw [← hw6]; exact (Below.refl _ _).alloc (Nat.le_refl _) _
          have hB6:Blk w6 bx 45 #[.int .i64 (X.conn:Int),.string X.text]:=by rw [← hw6,← hbx]; exact heap_alloc_new w5 _
          have H0:=hid (show ApAt w1 (.slice A1 n1 ca) (.slice A2 n2 cb) n1 n2 a b X bx bx 0 ⟨none,none,none,none⟩ w6 from ⟨fun q e=>by have:=(hA5.oa.lt q e).2; omega,fun q e=>by have:=(hA5.ob.lt q e).2; omega,Nat.le_refl _,hB6,(fun g e=>by cases e),(fun g e=>by cases e),fun _=>rfl,fun _=>rfl,fun _=>hA5.less hb6,(fun e=>by cases e),(fun e=>by cases e)⟩)
          rw [hw6,hbx]
          clear hb5 hA5 hs5 hbx hw6 hb6 hB6 hcx HBy HA a0 a1 a2 a3 a4 a5 a6 a7 a8 a9 a10 a11 a12 a13 hlq
          obtain⟨la,hla⟩:∃ la,a=la:=⟨_,rfl⟩
          obtain⟨lb,hlb⟩:∃ lb,b=lb:=⟨_,rfl⟩
          rw [hla] at H0 Hla uA Hoa
          rw [hlb] at H0 Hlb uA Hob
          clear hla hlb
          refine rq (Γ:=ApG) 136 (apV (.slice A1 n1 ca) (.slice A2 n2 cb) X.conn X.text) [3,7] (fun p γ wx=>ApAt w1 (.slice A1 n1 ca) (.slice A2 n2 cb) n1 n2 la lb X bx bx p γ wx) ⟨none,none,none,none⟩ (H0.out.less (Below.refl _ _).drew) ?_ ?_
          · clear H0
            refine⟨?_,?_,?_,?_,?_,?_,?_,?_,?_,?_,trivial⟩
            · exact ok0 0 0 7 rfl fun _=>rfl
            · refine okQ 0 2 fun p γ a wx _ _ hp hk=>?_
              have h1:=hk.k 17 rfl
              obtain⟨hc0,hc1⟩:=Blk.c2 ((show ApAt w1 (.slice A1 n1 ca) (.slice A2 n2 cb) n1 n2 la lb X bx bx p γ wx from hp).box)
              simp [go_sem,Oper.wp,execOp,Act.eval,h1,hc0,hc1]
              exact⟨_,rfl,γ,fun _ _ _ h=>h,rfl,hp⟩
            · refine okQ 0 0 fun p γ a wx _ _ hp hk=>?_
              obtain⟨u1,h1,rfl⟩:=hk.g 1 87 rfl rfl
              simp [go_sem,Oper.wp,execOp,Act.eval,h1]
              exact⟨_,rfl,{ γ with g1:=some wx.heap.size },Lo _,⟨_,rfl,rfl⟩,ApAt.lit1 (show ApAt w1 (.slice A1 n1 ca) (.slice A2 n2 cb) n1 n2 la lb X bx bx p γ wx from hp)⟩
            · refine .inl ⟨0,rfl,fun γ a wx hp hk=>bA rfl ?_⟩
              obtain⟨u1,h1,rfl⟩:=hk.g 0 86 rfl rfl
              obtain⟨u2,h2,⟨g,hg,rfl⟩⟩:=hk.g 2 88 rfl rfl
              have hp:=(show ApAt w1 (.slice A1 n1 ca) (.slice A2 n2 cb) n1 n2 la lb X bx bx 0 γ wx from hp)
              have hA:=hp.at0 rfl
              have hO:=hA.oa
              refine wp_append_lies wx (.tmp 86) (.tmp 88) 30 rfl w1.heap.size 45 i0 Ds 2 24 Tryz.underlying30 hi hz0 hz1 hz2 rfl (by decide) (.slice A1 n1 ca) n1 (au lQ la) (by simp [Act.eval,h1]) hO ⟨g,0,none⟩ 1 1 (lQ X) (by simp [Act.eval,h2]) rfl (World.news_of_block (hp.g1 g hg).2) (wV X) (by omega) (by unfold maxLen; omega) (by omega) hA.below.size _ rfl ?_
              intro g' cap w' ho hg' hor _
              exact⟨_,{ γ with v1:=some _ },rfl,Lq (hp.n1 (by omega)) _,rfl,hp.LX ho hg' hor⟩
            · exact ok0 0 1 8 rfl fun _=>rfl
            · refine okQ 0 2 fun p γ a wx _ _ hp hk=>?_
              have h1:=hk.k 17 rfl
              obtain⟨hc0,hc1⟩:=Blk.c2 ((show ApAt w1 (.slice A1 n1 ca) (.slice A2 n2 cb) n1 n2 la lb X bx bx p γ wx from hp).box)
              simp [go_sem,Oper.wp,execOp,Act.eval,h1,hc0,hc1]
              exact⟨_,rfl,γ,fun _ _ _ h=>h,rfl,hp⟩
            · refine okQ 0 1 fun p γ a wx _ _ hp hk=>?_
              obtain⟨u1,h1,rfl⟩:=hk.g 5 91 rfl rfl
              simp [go_sem,Oper.wp,execOp,Act.eval,h1]
              exact⟨_,rfl,{ γ with g2:=some wx.heap.size },Lp _,⟨_,rfl,rfl⟩,ApAt.lit2 (show ApAt w1 (.slice A1 n1 ca) (.slice A2 n2 cb) n1 n2 la lb X bx bx p γ wx from hp)⟩
            · refine .inl ⟨1,rfl,fun γ a wx hp hk=>bA rfl ?_⟩
              obtain⟨u1,h1,rfl⟩:=hk.g 4 90 rfl rfl
              obtain⟨u2,h2,⟨g,hg,rfl⟩⟩:=hk.g 6 92 rfl rfl
              have hp:=(show ApAt w1 (.slice A1 n1 ca) (.slice A2 n2 cb) n1 n2 la lb X bx bx 1 γ wx from hp)
              obtain⟨A',c',_,hA⟩:=hp.at1 rfl
              have hO:=hA.ob
              refine wp_append_lies wx (.tmp 90) (.tmp 92) 30 rfl w1.heap.size 45 i0 Ds 2 24 Tryz.underlying30 hi hz0 hz1 hz2 rfl (by decide) (.slice A2 n2 cb) n2 (au lQ lb) (by simp [Act.eval,h1]) hO ⟨g,0,none⟩ 1 1 (lQ X) (by simp [Act.eval,h2]) rfl (World.news_of_block (hp.g2 g hg).2) (wV X) (by omega) (by unfold maxLen; omega) (by omega) hA.below.size _ rfl ?_
              intro g' cap w' ho hg' hor _
              exact⟨_,{ γ with v2:=some _ },rfl,Lr (hp.n2 (by omega)) _,rfl,hp.LY ho hg' hor⟩
            · refine okQ 2 2 fun p γ a wx _ _ hp hk=>?_
              obtain⟨u1,h1,r1⟩:=hk.g 3 89 rfl rfl
              simp [go_sem,Oper.wp,execOp,Act.eval,h1]
              exact⟨_,rfl,γ,fun _ _ _ h=>h,r1,hp⟩
            · refine okQ 2 2 fun p γ a wx _ _ hp hk=>?_
              obtain⟨u1,h1,r1⟩:=hk.g 7 93 rfl rfl
              simp [go_sem,Oper.wp,execOp,Act.eval,h1]
              exact⟨_,rfl,γ,fun _ _ _ h=>h,r1,hp⟩
          intro γ act wz hd
          have hz:=(show ApAt w1 (.slice A1 n1 ca) (.slice A2 n2 cb) n1 n2 la lb X bx bx 2 γ wz from hd.ph)
          obtain⟨fv,rfl,hfv⟩:=hd.frame [86,87,88,89,90,91,92,93,7,8] rfl
          obtain⟨A3,c3,A4,c4,e3,e4,hA6⟩:=hz.at2 rfl
          have f7:fv 7 = .slice A3 (n1+1) c3:=by have h:γ.v1=some (fv 7):=hfv 8 _ 7 rfl rfl; rw [e3] at h; injection h with h; exact h.symm
          have f8:fv 8 = .slice A4 (n2+1) c4:=by have h:γ.v2=some (fv 8):=hfv 9 _ 8 rfl rfl; rw [e4] at h; injection h with h; exact h.symm
          have HA6:=hid hA6
          simp only [foldl_cons,foldl_nil,setIfInBounds_toArray,set_cons_succ,set_cons_zero,f7,f8]
          clear hd hfv hz f7 f8 hA6 e3 e4 H0
          go_wp2
          go_roundg (n - (k+1))
          case measure=>omega
          case rel=>exact⟨k+1,by omega,rfl,by go_num,A3,A4,n1+1,n2+1,c3,c4,la ++ [X],lb ++ [X],rfl,rfl,HA6.out,by simp [Hla.out],by simp [Hlb.out],by omega,by rw [← HX.out]; exact .req _ _ uA.out,zB Hoa.out HXo.out,zB Hob.out HXo.out⟩
        · have HBy:=hid (show Calls Tryz.prog 8 #[.agg (pN q)] wc (kX ⟨#[]⟩ false wc) from AI q wc Hok.out hT h0)
          clear hT h0
          go_wp2_with fail
          refine Calls.mono HBy.out ?_
          rintro y w5 ⟨rfl,hb5⟩
          have HA5:=hid (HA.out.less hb5)
          clear hb5 HBy HA a0 a1 a2 a3 a4 a5 a6 a7 a8 a9 a10 a11 a12 a13 hlq
          go_wp2
          go_roundg (n - (k+1))
          case measure=>omega
          case rel=>exact⟨k+1,by omega,rfl,by go_num,A1,A2,n1,n2,ca,cb,a,b,rfl,rfl,HA5.out,Hla.out,Hlb.out,by omega,uA.out,Hoa.out,Hob.out⟩
   · obtain rfl:k=n:=by omega
     have F:=hid (show IH w1 (.slice A1 n1 ca) (.slice A2 n2 cb) wr from ⟨A1,A2,n1,n2,ca,cb,a,b,rfl,rfl,hAt,hla,hlb,h59,wW,hoa,hob⟩)
     clear hAt hla hlb wW hoa hob
     go_wp2
     go_meet
     exact F.out
 case rest=>
  obtain⟨A1,A2,n1,n2,ca,cb,a,b,rfl,rfl,hAt,hla,hlb,h59,wW,hoa,hob⟩:=hcut
  have hbC:=Hbk.out.trans (hAt.below.mono Hbk.out.size)
  have hl12:n1≤n2:=by have:=wW.len; omega
  have hBc:=HBk.out.below hAt.below HBk.out.lt
  have HP1:=hid (show Calls Tryz.prog 9 #[.agg #[.int .i64 s0.rev,.slice x0.aj x0.nj x0.cj,.slice x0.an x0.nn x0.cn,.slice x0.al x0.nl x0.cl],.slice A1 n1 ca] wc (lR s0 a wc) from AD s0 x0 a A1 n1 ca wc (HS.out.upS hbC) (HT.out.below hbC) (cO hAt.oa) hla (by omega) hoa)
  obtain⟨c0,c1,c2,c3⟩:=Blk.c4 (hBc)
  have hlb0:=hBc.lt
  have HBc:=hid hBc
  have HSb:=hid (cO hAt.ob)
  have HbC:=hid hbC
  have Hlb:=hid hlb
  have uA:=hid wW
  have Hoa:=hid hoa
  have Hob:=hid hob
  obtain⟨CE,hCE⟩:∃ CE,aE s0=CE:=⟨_,rfl⟩
  have HCE:=hid hCE
  obtain⟨M,hM⟩:∃ M:Nat,(if CE=0 then 8 else 0)=M:=⟨_,rfl⟩
  have HM:=hid hM
  clear hbC hBc hAt hla hlb wW hoa hob hCE hM
  go_wp2_with fail
  refine Calls.mono HP1.out ?_
  rintro e w2 hp
  obtain⟨X,cx,hb2,rfl,hX⟩:=hp.any HCE.out HM.out
  have Kb:=HbC.out.trans (hb2.mono HbC.out.size)
  have hB2:=HBc.out.below hb2 HBc.out.lt
  have HP2:=hid (show Calls Tryz.prog 9 #[.agg #[.int .i64 s0.rev,.slice x0.aj x0.nj x0.cj,.slice x0.an x0.nn x0.cn,.slice x0.al x0.nl x0.cl],.slice A2 n2 cb] w2 (lR s0 b w2) from AD s0 x0 b A2 n2 cb w2 (HS.out.upS Kb) (HT.out.below Kb) ((HSb.out.below hb2).more hb2.size) Hlb.out (by omega) Hob.out)
  obtain⟨e0,e1,e2,e3⟩:=Blk.c4 (hB2)
  have hlb2:=hB2.lt
  have HX:=hid hX
  have Ls:=hid Kb
  clear hp Kb hB2 hX HP1 HSb HBc c0 c1 c2 c3 hlb0
  go_wp2_with fail
  refine Calls.mono HP2.out ?_
  rintro e w3 hp
  obtain⟨Y,cy,hb3,rfl,hY⟩:=hp.any HCE.out HM.out
  have HbC3:=hid (Ls.out.trans (hb3.mono Ls.out.size))
  have HXY:Hid (∀ k,k<M→k≠5→∃ b1 b2 s,X=some ⟨b1,0,none⟩∧Y=some ⟨b2,0,none⟩∧b1<w3.heap.size∧b2<w3.heap.size∧w3.cell? ⟨b1,k,none⟩=some (.string s)∧w3.cell? ⟨b2,k,none⟩=some (.string s)):=hid fun k hk h5=>by
   obtain⟨b1,h1,h2,h3⟩:=HX.out k hk
   obtain⟨b2,h4,h6,h7⟩:=hY k hk
   rw [← Es uF s0 uA.out Hoa.out Hob.out h5] at h7
   exact⟨b1,b2,_,h1,h4,Nat.lt_of_lt_of_le h2 hb3.size,h6,(World.cell?_of_block (hb3.block b1 h2)).trans h3,h7⟩
  have hM8:M≤8:=by have h:=HM.out; split at h <;> omega
  clear hp hb3 hY HX HP2 e0 e1 e2 e3 hlb2 HM HCE uA Hoa Hob Ls
  go_wp2
  go_loopw [119] (fun i wr=>∃ k:Nat,k≤M∧i = .int .i64 k∧Below w3.heap.size w3 wr) (fun i _=>M - (intOf i).toNat)
  case atStart=>exact⟨0,Nat.zero_le _,rfl,Below.refl _ _⟩
  case round=>
   obtain⟨k,hk,rfl,hb⟩:=hrel
   have Hb:=hid hb
   by_cases hlt:k<M
   · by_cases h5:k=5
     · have d5:((k:Int) != 5)=false:=by simp; omega
       clear h5 hb
       go_wp2
       go_region
       go_wp2
       go_roundw
       case rel=>exact⟨k+1,by omega,by go_num,Hb.out.drew⟩
       case measure=>simp [intOf]; omega
     · have d5:((k:Int) != 5)=true:=by simp; omega
       obtain⟨b1,b2,s,rfl,rfl,hl1,hl2,h1,h2⟩:=HXY.out k hlt h5
       have y1:wr.cell? ⟨b1,k,none⟩=some (.string s):=(World.cell?_of_block (hb.block b1 hl1)).trans h1
       have y2:wr.cell? ⟨b2,k,none⟩=some (.string s):=(World.cell?_of_block (hb.block b2 hl2)).trans h2
       have hs:=hb.size
       have hr1:b1<wr.heap.size:=by omega
       have hr2:b2<wr.heap.size:=by omega
       clear h1 h2 hb h5 hl1 hl2 hs
       go_wp2
       go_region
       go_wp2
       go_roundw
       case rel=>exact⟨k+1,by omega,by go_num,Hb.out.drew⟩
       case measure=>simp [intOf]; omega
   · obtain rfl:k=M:=by omega
     have Hz:=hid (HbC3.out.trans (hb.mono HbC3.out.size))
     clear hb HXY
     go_wp2
     go_ret
     exact⟨rfl,Hz.out⟩
end Go.Proofs.YtbllgmociapjeaaGreatDoor
