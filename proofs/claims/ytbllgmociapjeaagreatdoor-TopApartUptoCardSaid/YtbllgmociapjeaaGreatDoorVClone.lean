/- Of the proof of a statement: ZeroDe, EqFrm, Clone, SvSame, RqRd, RBytes, UpStep. -/
import Derived.Shelf.Abstract
import Derived.Deep.QuietTactic
import Derived.BigQuiet
import Derived.Lib.QuietBelow
import Derived.Test.YtbllgmociapjeaaGreatDoorVDChk
import Derived.Test.YtbllgmociapjeaaGreatDoorVPlSrv
import Derived.Test.YtbllgmociapjeaaGreatDoorVRPh
set_option linter.unusedVariables false
set_option linter.unusedSimpArgs false
set_option maxRecDepth 100000
set_option maxHeartbeats 8000000
/- The zero delta. -/
namespace Go.Proofs.YtbllgmociapjeaaGreatDoor
open Go.Lib (hid)
open Go.RowKit
def Lz:aW:=⟨0,0,[],[],[],[],[],[]⟩
def Kx:fP:=⟨none,0,0,none,0,0,none,0,0,none,0,0,none,0,0,none,0,0⟩
theorem IN (w:World) (B:Nat):eF w B Lz Kx:=
 { j:=aU.nil,n:=aU.nil,l:=aU.nil,gj:=aU.nil,gn:=aU.nil,gl:=aU.nil,lj:=rfl,ln:=rfl,ll:=rfl,lgj:=rfl,lgn:=rfl,lgl:=rfl,
   bj:=by decide,bn:=by decide,bl:=by decide,bgj:=by decide,bgn:=by decide,bgl:=by decide,
   oj:=(fun _ h=>by cases h),on_:=(fun _ h=>by cases h),ol:=(fun _ h=>by cases h),ogj:=(fun _ h=>by cases h),ogn:=(fun _ h=>by cases h),ogl:=(fun _ h=>by cases h) }
end Go.Proofs.YtbllgmociapjeaaGreatDoor
/- Eq at Frame, of the same frames. -/
namespace Go.Proofs.YtbllgmociapjeaaGreatDoor
open Go.Lib (hid)
open Go.RowKit
def zR (f:dD):List Value:=[.int .i64 f.ver,.int .i64 f.kind,.string f.pay]
theorem uP (f:dD):(zR f).length=3:=rfl
end Go.Proofs.YtbllgmociapjeaaGreatDoor
/- The walks of slices.Clone and of Copy at rows of records: a row of the call's own that reads the same. -/
namespace Go.Proofs.YtbllgmociapjeaaGreatDoor
open Go.Lib (hid)
open Go.RowKit
def nV {α:Type} (T:TypeId) (sz:Nat) (enc:α→List Value) (xs:List α) (w:World) (e:Ending) (w':World):Prop:=
 ∃ A' c',e = .returned (.slice A' xs.length c')∧w'.ownsRow w.heap.size T sz (.slice A' xs.length c') xs.length (au enc xs)∧Below w.heap.size w w'
theorem nV.Bu {α:Type} {T:TypeId} {sz n:Nat} {enc:α→List Value} {xs:List α} {w w':World} {v:Value} (hl:xs.length=n) (ho:w'.ownsRow w.heap.size T sz v n (au enc xs)) (hb:Below w.heap.size w w'):nV T sz enc xs w (.returned v) w':=by
 subst hl
 rcases ho.2 with ⟨rfl,h0⟩ | ⟨g,cap,cur,rfl,_⟩
 · rw [h0] at ho
   exact⟨none,0,by rw [h0],by rw [h0]; exact ho,hb⟩
 · exact⟨some ⟨g,0,none⟩,cap,rfl,ho,hb⟩
theorem aU.adds {w:World} {B sz n:Nat} {ad:Addr} {xs:List Value} (h:aU w B sz (some ad) n xs):∀ j u,xs[j]? = some u→w.cell? (ad.add j)=some u:=by
 intro j u hu
 have hn:0<n:=by
  rcases Nat.eq_zero_or_pos n with h0 | h0
  · subst h0
    have:xs=[]:=List.eq_nil_of_length_eq_zero (by rw [h.len]; omega)
    subst this; cases hu
  · exact h0
 obtain⟨b,off,e,hB,hr⟩:=h.at_ hn
 injection e with e
 subst e
 have:=hr j u hu
 unfold Addr.add
 split
 · rename_i hj; subst hj; simpa using this
 · exact this
theorem pX {w:World} {a:Addr} {v:Value} (o:Obj) (h:w.cell? a=some v):(w.alloc o).cell? a=some v:=by
 have hlt:a.block<w.heap.size:=by
  rcases Nat.lt_or_ge a.block w.heap.size with h' | h'
  · exact h'
  · simp [World.cell?,Array.getElem?_eq_none h'] at h
 rw [← h]
 have:=((Below.refl w.heap.size w).alloc (Nat.le_refl _) o).block a.block hlt
 unfold World.cell?
 rw [this]
theorem DE (xs:List aC) (A:Option Addr) (n c:Nat) (w:World) (hx:aU w w.heap.size 5 A n (au aI xs)) (hl:xs.length=n) (hn:n≤1000) :
 Calls Tryz.prog 89 #[.slice A n c] w (nV 32 5 aI xs w):=by
 have qe:∀ (w:World) (a:Option Addr) (n c n' c':Nat),(binOp .eql 22 (.slice a n c) (.slice none n' c')).run Tryz.prog w = .ok (.bool a.isNone) w:=fun w a n c n' c'=>Lib.run_eql_slice_nil w _ _ a n c n' c' Tryz.underlying22
 obtain⟨i0,hi,hz0,hz1,hz2⟩:=info_parts zS
 cases A with
 | none=>
  have h0:n=0:=by
   rcases Nat.eq_zero_or_pos n with h | h
   · exact h
   · obtain⟨_,_,e,_⟩:=hx.at_ h; cases e
  subst h0
  have hxs:xs=[]:=List.eq_nil_of_length_eq_zero hl
  subst hxs
  clear hx hl
  go_enter Tryz.func89,Tryz.ntmps89
  go_wp2
  go_ret
  exact⟨none,0,rfl,World.ownsRow_nil _ _ _ _,Below.refl _ _⟩
 | some ad=>
  have hadd:=hx.adds
  have hlen:(au aI xs).length=n*5:=hx.len
  have H:=hid hadd
  clear hx hadd
  go_enter Tryz.func89,Tryz.ntmps89
  go_wp2_with (at_builtin; refine wpList_append_own_at _ rfl _ _ 22 rfl w.heap.size 32 i0 (.agg #[.string ⟨#[]⟩,.int .i64 0,.int .i64 0,.int .i64 0,.string ⟨#[]⟩]) 5 56 Tryz.underlying22 hi hz0 hz1 hz2 rfl (by decide) (.slice (some ⟨w.heap.size,0,none⟩) 0 0) 0 [] rfl (World.ownsRow_made w #[] 0 (Nat.le_refl _) (Nat.zero_le _) rfl) ad n c (au aI xs) rfl hlen (fun j u hu=>by have hadd:=H.out; exact pX _ (hadd j u hu)) (fun u hu=>by obtain⟨a,_,ha⟩:=List.mem_flatMap.1 hu; exact xJ a u ha) (by unfold maxLen; omega) (by omega) (by simp) ?_; intro v' w1 hown hgrow hnil hblk)
  rw [Nat.zero_add,List.nil_append] at hown
  have hfin:=hid (nV.Bu hl hown (((Below.refl _ w).alloc (Nat.le_refl _) _).grown hgrow (by simp) (by intro k hk; simp [Value.ownBlock] at hk; omega)))
  clear hown hgrow hnil hblk
  go_wp2
  go_ret
  exact hfin.out
theorem Bv (xs:List aA) (A:Option Addr) (n c:Nat) (w:World) (hx:aU w w.heap.size 3 A n (au aB xs)) (hl:xs.length=n) (hn:n≤1000) :
 Calls Tryz.prog 90 #[.slice A n c] w (nV 34 3 aB xs w):=by
 have qe:∀ (w:World) (a:Option Addr) (n c n' c':Nat),(binOp .eql 23 (.slice a n c) (.slice none n' c')).run Tryz.prog w = .ok (.bool a.isNone) w:=fun w a n c n' c'=>Lib.run_eql_slice_nil w _ _ a n c n' c' Tryz.underlying23
 obtain⟨i0,hi,hz0,hz1,hz2⟩:=info_parts xK
 cases A with
 | none=>
  have h0:n=0:=by
   rcases Nat.eq_zero_or_pos n with h | h
   · exact h
   · obtain⟨_,_,e,_⟩:=hx.at_ h; cases e
  subst h0
  have hxs:xs=[]:=List.eq_nil_of_length_eq_zero hl
  subst hxs
  clear hx hl
  go_enter Tryz.func90,Tryz.ntmps90
  go_wp2
  go_ret
  exact⟨none,0,rfl,World.ownsRow_nil _ _ _ _,Below.refl _ _⟩
 | some ad=>
  have hadd:=hx.adds
  have hlen:(au aB xs).length=n*3:=hx.len
  have H:=hid hadd
  clear hx hadd
  go_enter Tryz.func90,Tryz.ntmps90
  go_wp2_with (at_builtin; refine wpList_append_own_at _ rfl _ _ 23 rfl w.heap.size 34 i0 (.agg #[.string ⟨#[]⟩,.int .i64 0,.string ⟨#[]⟩]) 3 40 Tryz.underlying23 hi hz0 hz1 hz2 rfl (by decide) (.slice (some ⟨w.heap.size,0,none⟩) 0 0) 0 [] rfl (World.ownsRow_made w #[] 0 (Nat.le_refl _) (Nat.zero_le _) rfl) ad n c (au aB xs) rfl hlen (fun j u hu=>by have hadd:=H.out; exact pX _ (hadd j u hu)) (fun u hu=>by obtain⟨a,_,ha⟩:=List.mem_flatMap.1 hu; exact uQ a u ha) (by unfold maxLen; omega) (by omega) (by simp) ?_; intro v' w1 hown hgrow hnil hblk)
  rw [Nat.zero_add,List.nil_append] at hown
  have hfin:=hid (nV.Bu hl hown (((Below.refl _ w).alloc (Nat.le_refl _) _).grown hgrow (by simp) (by intro k hk; simp [Value.ownBlock] at hk; omega)))
  clear hown hgrow hnil hblk
  go_wp2
  go_ret
  exact hfin.out
theorem zT (xs:List ak) (A:Option Addr) (n c:Nat) (w:World) (hx:aU w w.heap.size 3 A n (au av xs)) (hl:xs.length=n) (hn:n≤1000) :
 Calls Tryz.prog 91 #[.slice A n c] w (nV 36 3 av xs w):=by
 have qe:∀ (w:World) (a:Option Addr) (n c n' c':Nat),(binOp .eql 24 (.slice a n c) (.slice none n' c')).run Tryz.prog w = .ok (.bool a.isNone) w:=fun w a n c n' c'=>Lib.run_eql_slice_nil w _ _ a n c n' c' Tryz.underlying24
 obtain⟨i0,hi,hz0,hz1,hz2⟩:=info_parts uR
 cases A with
 | none=>
  have h0:n=0:=by
   rcases Nat.eq_zero_or_pos n with h | h
   · exact h
   · obtain⟨_,_,e,_⟩:=hx.at_ h; cases e
  subst h0
  have hxs:xs=[]:=List.eq_nil_of_length_eq_zero hl
  subst hxs
  clear hx hl
  go_enter Tryz.func91,Tryz.ntmps91
  go_wp2
  go_ret
  exact⟨none,0,rfl,World.ownsRow_nil _ _ _ _,Below.refl _ _⟩
 | some ad=>
  have hadd:=hx.adds
  have hlen:(au av xs).length=n*3:=hx.len
  have H:=hid hadd
  clear hx hadd
  go_enter Tryz.func91,Tryz.ntmps91
  go_wp2_with (at_builtin; refine wpList_append_own_at _ rfl _ _ 24 rfl w.heap.size 36 i0 (.agg #[.string ⟨#[]⟩,.string ⟨#[]⟩,.int .i64 0]) 3 40 Tryz.underlying24 hi hz0 hz1 hz2 rfl (by decide) (.slice (some ⟨w.heap.size,0,none⟩) 0 0) 0 [] rfl (World.ownsRow_made w #[] 0 (Nat.le_refl _) (Nat.zero_le _) rfl) ad n c (au av xs) rfl hlen (fun j u hu=>by have hadd:=H.out; exact pX _ (hadd j u hu)) (fun u hu=>by obtain⟨a,_,ha⟩:=List.mem_flatMap.1 hu; exact tF a u ha) (by unfold maxLen; omega) (by omega) (by simp) ?_; intro v' w1 hown hgrow hnil hblk)
  rw [Nat.zero_add,List.nil_append] at hown
  have hfin:=hid (nV.Bu hl hown (((Below.refl _ w).alloc (Nat.le_refl _) _).grown hgrow (by simp) (by intro k hk; simp [Value.ownBlock] at hk; omega)))
  clear hown hgrow hnil hblk
  go_wp2
  go_ret
  exact hfin.out
end Go.Proofs.YtbllgmociapjeaaGreatDoor
/- serve.same: do two states hold the same rows? -/
namespace Go.Proofs.YtbllgmociapjeaaGreatDoor
open Go.Lib (hid)
open Go.RowKit
def oW (a b:ah) (w:World) (e:Ending) (w':World):Prop:=
 ∃ t:Bool,e = .returned (.bool t)∧(t=true↔a.jobs=b.jobs∧a.nodes=b.nodes∧a.leases=b.leases)∧Below w.heap.size w w'
structure uE (w:World) (a b:ah) (x y:StA) (wx:World):Prop where
 below:Below w.heap.size w wx
 b1:Blk wx w.heap.size 26 (stC a x)
 b2:Blk wx (w.heap.size+1) 26 (stC b y)
theorem uE.next {w w' wx:World} {a b:ah} {x y:StA} (h:uE w a b x y wx) (hb:Below wx.heap.size wx w'):uE w a b x y w':=
 ⟨h.below.trans (hb.mono h.below.size),h.b1.below hb h.b1.lt,h.b2.below hb h.b2.lt⟩
theorem xL {w wx:World} {sz n:Nat} {A:Option Addr} {xs:List Value} (h:aU w w.heap.size sz A n xs) (hb:Below w.heap.size w wx):aU wx wx.heap.size sz A n xs:=(h.below hb).more hb.size
theorem sA (a b:ah) (x y:StA) (w:World) (hA:StAt w w.heap.size a x) (hB:StAt w w.heap.size b y) :
 Calls Tryz.prog 97 #[.agg (stC a x),.agg (stC b y)] w (oW a b w):=by
 obtain⟨W,hW⟩:∃ W,(w.alloc (.cells (stC a x) 26)).alloc (.cells (stC b y) 26)=W:=⟨_,rfl⟩
 have H0:=hid (show uE w a b x y W from by
  rw [← hW]
  refine⟨((Below.refl _ _).alloc (Nat.le_refl _) _).alloc (by simp) _,Blk.alloc (show Blk _ _ _ _ from heap_alloc_new w _) _,?_⟩
  have:=heap_alloc_new (w.alloc (.cells (stC a x) 26)) (.cells (stC b y) 26)
  rwa [show (w.alloc (.cells (stC a x) 26)).heap.size=w.heap.size+1 by simp] at this)
 have HA:=hid hA
 have HB:=hid hB
 clear hA hB
 have x1:W.cell? ⟨w.heap.size,1,none⟩=some (.slice x.aj x.nj x.cj):=H0.out.b1.cell 1
 have y1:W.cell? ⟨w.heap.size+1,1,none⟩=some (.slice y.aj y.nj y.cj):=H0.out.b2.cell 1
 have HJ:=hid (Fu a.jobs b.jobs x.aj y.aj x.nj y.nj x.cj y.cj W (xL HA.out.j H0.out.below) (xL HB.out.j H0.out.below) HA.out.lj HB.out.lj HA.out.bj HB.out.bj)
 unfold stC at hW ⊢
 go_enter Tryz.func97,Tryz.ntmps97
 go_wp2_with fail
 try rw [hW]
 clear hW
 refine Calls.mono HJ.out ?_
 rintro e w1 ⟨t1,rfl,ht1,hb1⟩
 have H1:=hid (H0.out.next hb1)
 have Ht1:=hid ht1
 clear hb1 ht1 HJ x1 y1 H0
 cases t1
 · have fin:=hid (show oW a b w (.returned (.bool false)) w1 from ⟨false,rfl,⟨fun h=>(by cases h),fun h=>absurd (Ht1.out.2 h.1) (by decide)⟩,H1.out.below⟩)
   go_wp2
   go_ret
   exact fin.out
 have x2:w1.cell? ⟨w.heap.size,2,none⟩=some (.slice x.an x.nn x.cn):=H1.out.b1.cell 2
 have y2:w1.cell? ⟨w.heap.size+1,2,none⟩=some (.slice y.an y.nn y.cn):=H1.out.b2.cell 2
 have HN:=hid (DF a.nodes b.nodes x.an y.an x.nn y.nn x.cn y.cn w1 (xL HA.out.n H1.out.below) (xL HB.out.n H1.out.below) HA.out.ln HB.out.ln HA.out.bn HB.out.bn)
 go_wp2_with fail
 refine Calls.mono HN.out ?_
 rintro e w2 ⟨t2,rfl,ht2,hb2⟩
 have H2:=hid (H1.out.next hb2)
 have Ht2:=hid ht2
 clear hb2 ht2 HN x2 y2 H1
 cases t2
 · have fin:=hid (show oW a b w (.returned (.bool false)) w2 from ⟨false,rfl,⟨fun h=>(by cases h),fun h=>absurd (Ht2.out.2 h.2.1) (by decide)⟩,H2.out.below⟩)
   go_wp2
   go_ret
   exact fin.out
 have x3:w2.cell? ⟨w.heap.size,3,none⟩=some (.slice x.al x.nl x.cl):=H2.out.b1.cell 3
 have y3:w2.cell? ⟨w.heap.size+1,3,none⟩=some (.slice y.al y.nl y.cl):=H2.out.b2.cell 3
 have HL:=hid (Bw a.leases b.leases x.al y.al x.nl y.nl x.cl y.cl w2 (xL HA.out.l H2.out.below) (xL HB.out.l H2.out.below) HA.out.ll HB.out.ll HA.out.bl HB.out.bl)
 go_wp2_with fail
 refine Calls.mono HL.out ?_
 rintro e w3 ⟨t3,rfl,ht3,hb3⟩
 have H3:=hid (H2.out.next hb3)
 have Ht3:=hid ht3
 clear hb3 ht3 HL x3 y3 H2
 have fin:=hid (show oW a b w (.returned (.bool t3)) w3 from ⟨t3,rfl,⟨fun h=>⟨Ht1.out.1 (by trivial),Ht2.out.1 (by trivial),Ht3.out.1 h⟩,fun h=>Ht3.out.2 h.2.2⟩,H3.out.below⟩)
 cases t3
 · go_wp2
   go_ret
   exact fin.out
 · go_wp2
   go_ret
   exact fin.out
end Go.Proofs.YtbllgmociapjeaaGreatDoor
/- Replies: what the program reads. -/
namespace Go.Proofs.YtbllgmociapjeaaGreatDoor
open Go.Lib (hid)
open Go.RowKit
theorem pY {s:ByteArray} (h:s.size≠0):(s.toList != [])=true:=by unfold bne; rw [oX h]; rfl
theorem qL {s:ByteArray} (h:s.size≠0):(s.toList != ByteArray.toList ⟨#[]⟩)=true:=by unfold bne; rw [oY h]; rfl
theorem LA (g:Nat) (σ:RR Unit) (w:World) (h:RxS w g σ) (hσ:σ.Good uS) :
 Calls Tryz.prog 95 #[.pointer (some ⟨g,0,none⟩)] w fun e w'=>e = .returned (.int .i64 (Fv σ:Int))∧w.grownBy w' (some g):=by
 obtain⟨s,x,hA,hx⟩:∃ (s:ByteArray) (x:Nat),nM w g s x∧((x=0∧Fv σ=(if s.size=0 then 0 else 4))∨(x≠0∧Fv σ=x)):=by
  cases σ with
  | ok u s=>exact⟨s,0,h,.inl ⟨rfl,rfl⟩⟩
  | bad x=>obtain⟨s,_,hA⟩:=h; exact⟨s,x,hA,.inr ⟨hσ.1,rfl⟩⟩
 obtain⟨E,hE⟩:∃ E,Fv σ=E:=⟨_,rfl⟩
 rw [hE] at hx ⊢
 have y0:w.cell? ⟨g,0,none⟩=some (.string s):=Blk.cell hA 0
 have y1:w.cell? ⟨g,1,none⟩=some (.int .i64 (x:Int)):=Blk.cell hA 1
 have HA:=hid hA
 clear h hE hA hσ
 by_cases hs:s.size=0
 · obtain rfl:=qM hs
   have hEx:E=x:=by
    rcases hx with ⟨h1,h2⟩ | ⟨h1,h2⟩
    · rw [if_pos hs] at h2; omega
    · exact h2
   subst hEx
   clear hx hs
   go_enter Tryz.func95,Tryz.ntmps95
   go_wp2
   go_ret
   exact⟨rfl,cX _ _⟩
 · have e1:=pY hs
   have e2:=qL hs
   have e3:=Bx hs
   have hEx:(if x=0 then 4 else x)=E:=by
    rcases hx with ⟨h1,h2⟩ | ⟨h1,h2⟩
    · rw [if_neg hs] at h2; rw [if_pos h1]; exact h2.symm
    · rw [if_neg h1]; exact h2.symm
   have HEx:=hid hEx
   clear hx hs hEx
   go_enter Tryz.func95,Tryz.ntmps95
   go_wp2_with fail
   refine Calls.mono (yJ g s 4 x _ HA.out) ?_
   rintro e w1 ⟨rfl,hA2,hg2⟩
   rw [HEx.out] at hA2
   have x1:w1.cell? ⟨g,1,none⟩=some (.int .i64 (E:Int)):=Blk.cell hA2 1
   clear hA2 y0 y1
   go_wp2
   go_ret
   exact⟨rfl,hg2⟩
end Go.Proofs.YtbllgmociapjeaaGreatDoor
/- The walks of the reference's bytes of a row. -/
namespace Go.Proofs.YtbllgmociapjeaaGreatDoor
open Go.Lib (hid)
open Go.RowKit
def bs (l:List UInt8):ByteArray:=⟨l.toArray⟩
end Go.Proofs.YtbllgmociapjeaaGreatDoor
/- The walks of up.step and its closure. -/
namespace Go.Proofs.YtbllgmociapjeaaGreatDoor
open Go.Lib (hid)
open Go.RowKit
section
variable {α:Type} {f:α→α} {l:List α} {k:Nat} {y:α}
end
theorem StOwn.kept {w w':World} {base:Nat} {st:ah} {x:StA} (h:StOwn w base st x) (hb:Below w.heap.size w w'):StOwn w' base st x:=
 ⟨ay h.j hb,ay h.n hb,ay h.l hb,h.lj,h.ln,h.ll⟩
end Go.Proofs.YtbllgmociapjeaaGreatDoor
