/- Of the proof of a statement: HubN, ReqD1. -/
import Derived.Test.YtoeejfhdjmkpcaaGreatDoorUHubG
set_option linter.unusedVariables false
set_option linter.unusedSimpArgs false
set_option maxRecDepth 100000
set_option maxHeartbeats 8000000
/- The walk of hub.New. -/
namespace Go.Proofs.YtoeejfhdjmkpcaaGreatDoor
open Go.Lib (hid)
open Go.RowKit
def wN (F n i:Nat):List Value:=[if i<n then .pointer (some ⟨F+i,0,none⟩) else .pointer none,.bool false,.bool false,.slice none 0 0]
def oB (V F n:Nat):Array Value:=(.pointer (some ⟨V,0,none⟩) :: (wN F n 0 ++ wN F n 1 ++ wN F n 2 ++ wN F n 3 ++ wN F n 4 ++ wN F n 5 ++ wN F n 6 ++ wN F n 7)).toArray
theorem F4 {V F n:Nat} (h:n<8):(oB V F n)[1+n*4]? = some (.pointer none):=by rcases lt8 h with rfl | rfl | rfl | rfl | rfl | rfl | rfl | rfl <;> rfl
theorem DV {V F n:Nat} (h:n<8):(oB V F n).setIfInBounds (1+n*4) (.pointer (some ⟨F+n,0,none⟩))=oB V F (n+1):=by
 rcases lt8 h with rfl | rfl | rfl | rfl | rfl | rfl | rfl | rfl <;> simp [oB,wN]
theorem DW (V F:Nat) (st:ak):oB V F 8=kL V (fun i=>F+i) (fun _=>.slice none 0 0) (xY st).cs:=by simp [oB,wN,kL,lA,xY]
def uf (st:ak) (w:World) (e:Ending) (w':World):Prop:=
 Below w.heap.size w w'∧((aG st≠0∧e = .returned (.tuple #[.pointer none,.int .i64 (aG st)])) ∨
  (aG st=0∧∃ g V fb x',e = .returned (.tuple #[.pointer (some ⟨g,0,none⟩),.int .i64 0])∧cC w' g V fb (fun _=>.slice none 0 0) (xY st).cs st x' 0∧∀ b,rQ g V fb (fun _=>.slice none 0 0) b→w.heap.size≤b))
structure Jc (w0:World) (g V F:Nat) (st:ak) (x:StA) (n:Nat) (w:World):Prop where
 below:Below w0.heap.size w0 w
 blk:Blk w g 184 (oB V F n)
 srv:SrvAt w 109 V st x 0
 size:w.heap.size=F+n
 feed:∀ j,j<n→jm w (F+j) ⟨#[]⟩ 0 0
 lo:w0.heap.size≤g∧w0.heap.size≤V∧w0.heap.size≤F
theorem F5 (V F n:Nat):jC (oB V F n):=lV (by
 intro u hu s e
 subst e
 simp only [oB,List.mem_toArray,List.mem_cons,List.mem_append] at hu
 have H:∀ i,(Value.string s) ∉ wN F n i:=by
  intro i hu
  simp only [wN,List.mem_cons,List.not_mem_nil,or_false] at hu
  rcases hu with h | h | h | h
  · split at h <;> cases h
  · cases h
  · cases h
  · cases h
 rcases hu with h | ((((((h | h) | h) | h) | h) | h) | h) | h
 · cases h
 all_goals exact H _ h)
theorem Jc.step {w0 w w':World} {g V F:Nat} {st:ak} {x:StA} {n:Nat} (h:Jc w0 g V F st x n w) (hn:n<8) (hw':w'=((w.setCell ⟨g,1+n*4,none⟩ (.pointer (some ⟨w.heap.size,0,none⟩))).alloc (.cells #[.string ⟨#[]⟩,.int .i64 0,.int .i64 0] 219)).drew):Jc w0 g V F st x (n+1) w':=by
 have hw2:w'=(w.drew.alloc (.cells #[.string ⟨#[]⟩,.int .i64 0,.int .i64 0] 219)).setCell ⟨g,1+n*4,none⟩ (.pointer (some ⟨w.heap.size,0,none⟩)):=by rw [hw',World.setCell_alloc_past (w:=w.drew) _ _ _ _ h.blk.lt]; rfl
 clear hw'
 subst hw2
 have hb:Below w.heap.size w (w.drew.alloc (.cells #[.string ⟨#[]⟩,.int .i64 0,.int .i64 0] 219)):=(Below.refl _ _).drew.alloc (Nat.le_refl _) _
 have hb1:=h.blk.below hb h.blk.lt
 have hs:=h.srv.below hb
 have hg:=aD (w.drew.alloc (.cells #[.string ⟨#[]⟩,.int .i64 0,.int .i64 0] 219)) g (1+n*4) (.pointer (some ⟨w.heap.size,0,none⟩))
 have hsz:=h.size
 have hgV:g≠V:=bE h.blk h.srv.blk (by decide)
 have hnew:jm (w.drew.alloc (.cells #[.string ⟨#[]⟩,.int .i64 0,.int .i64 0] 219)) w.heap.size ⟨#[]⟩ 0 0:=heap_alloc_new w.drew _
 have hsize:(w.drew.alloc (.cells #[.string ⟨#[]⟩,.int .i64 0,.int .i64 0] 219)).heap.size=w.heap.size+1:=by simp
 refine⟨aI (h.below.trans (hb.mono h.below.size)) hg h.lo.1,?_,hs.other hb1 (F5 _ _ _) hg hgV.symm,?_,fun j hj=>?_,h.lo⟩
 · have:=hb1.set (1+n*4) (.pointer (some ⟨w.heap.size,0,none⟩))
   rw [hsz,DV hn] at this
   rw [hsz]
   exact this
 · show ((w.drew.alloc (.cells #[.string ⟨#[]⟩,.int .i64 0,.int .i64 0] 219)).setCell _ _).heap.size=_
   simp [World.setCell,hsz]; omega
 · by_cases e:j=n
   · subst e
     rw [← hsz]
     exact aE hg hnew (bE hnew hb1 (by decide))
   · have hf:=h.feed j (by omega)
     have hf1:=Blk.below hf hb (Blk.lt hf)
     exact aE hg hf1 (bE hf1 hb1 (by decide))
theorem Jd (st:ak) (x:StA) (w:World) (hS:StAt w w.heap.size st x) (hT:Tabs w) :
 Calls Tryz.prog 24 #[.agg (stC st x)] w (uf st w):=by
 obtain⟨W,hW⟩:∃ W,w.alloc (.cells (stC st x) 26)=W:=⟨_,rfl⟩
 have hbW:Below w.heap.size w W:=by rw [← hW]; exact (Below.refl _ _).alloc (Nat.le_refl _) _
 have hB:Blk W w.heap.size 26 (stC st x):=by rw [← hW]; exact heap_alloc_new w _
 have HN:=hid (show Calls Tryz.prog 12 #[.agg #[.int .i64 st.rev,.slice x.aj x.nj x.cj,.slice x.an x.nn x.cn,.slice x.al x.nl x.cl]] W (tJ st W) from zN st x W (hS.upS hbW) (hT.below hbW))
 obtain⟨c0,c1,c2,c3⟩:=Blk.c4 (hB)
 have hlb:=hB.lt
 have HbW:=hid hbW
 have HW:=hid hW
 obtain⟨E,hE⟩:∃ E,aG st=E:=⟨_,rfl⟩
 have HE:=hid hE
 clear hbW hB hW hE hS hT
 unfold stC at HW ⊢
 go_enter Tryz.func24,Tryz.ntmps24
 go_wp2_with fail
 try simp only [HW.out]
 clear HW
 refine Calls.mono HN.out ?_
 rintro e w1 ⟨hb1,hcase⟩
 rw [HE.out] at hcase
 have Hb1:=hid (HbW.out.trans (hb1.mono HbW.out.size))
 have hsW:=HbW.out.size
 have HsW:=hid hsW
 clear hb1 HN HbW hsW c0 c1 c2 c3 hlb
 rcases hcase with ⟨hbad,rfl⟩ | ⟨hgood,V,x',rfl,hV1,hV2⟩
 · have d1:(E != 0)=true:=by simpa using hbad
   have F:=hid (show uf st w (.returned (.tuple #[.pointer none,.int .i64 E])) w1 from ⟨Hb1.out,.inl ⟨by rw [HE.out]; exact hbad,by rw [HE.out]⟩⟩)
   clear hbad Hb1 HE
   go_wp2
   go_ret2
   exact F.out
 · have HE0:=hid (HE.out.trans hgood)
   subst hgood
   have HV2:=hid hV2
   have HV1:=hid hV1
   clear hV1 hV2 HE
   obtain⟨w2,hw2⟩:∃ w2,w1.alloc (.cells #[.pointer (some ⟨V,0,none⟩),.pointer none,.bool false,.bool false,.slice none 0 0,.pointer none,.bool false,.bool false,.slice none 0 0,.pointer none,.bool false,.bool false,.slice none 0 0,.pointer none,.bool false,.bool false,.slice none 0 0,.pointer none,.bool false,.bool false,.slice none 0 0,.pointer none,.bool false,.bool false,.slice none 0 0,.pointer none,.bool false,.bool false,.slice none 0 0,.pointer none,.bool false,.bool false,.slice none 0 0] 184)=w2:=⟨_,rfl⟩
   obtain⟨g,hg⟩:∃ g,w1.heap.size=g:=⟨_,rfl⟩
   have hb2:Below w1.heap.size w1 w2:=by rw [← hw2]; exact (Below.refl _ _).alloc (Nat.le_refl _) _
   have H0:=hid (show Jc w g V w2.heap.size st x' 0 w2 from ⟨Hb1.out.trans (hb2.mono Hb1.out.size),by rw [← hw2,← hg]; exact heap_alloc_new w1 _,HV2.out.below hb2,by rw [Nat.add_zero],fun j hj=>absurd hj (by omega),by have:=Hb1.out.size; have:=HV1.out; have:=HsW.out; have:=hb2.size; omega⟩)
   have Hw2:=hid hw2
   have Hg:=hid hg
   clear hw2 hg hb2 HV1 HV2 HsW Hb1
   go_wp2_with fail
   simp only [Hw2.out,Hg.out]
   clear Hw2 Hg
   go_loopw [19] (fun i wr=>∃ n,n≤8∧i = .int .i64 ((n:Nat):Int)∧Jc w g V w2.heap.size st x' n wr) (fun i _=>8 - (intOf i).toNat)
   case atStart=>exact⟨0,by omega,rfl,H0.out⟩
   case round=>
    obtain⟨n,hn,rfl,hA⟩:=hrel
    have HA:=hid hA
    have hlg:=hA.blk.lt
    by_cases hlt:n<8
    · have y0:wr.cell? ⟨g,1+n*4,none⟩=some (.pointer none):=by rw [hA.blk.cell]; exact F4 hlt
      have z0:wr.frozen? ⟨g,1+n*4,none⟩=false:=hA.blk.thaw _
      have HS:=hid (HA.out.step hlt rfl)
      clear hA
      go_wp2_with fail
      go_region_with (go_at_call 38; refine (KM _).mono ?_; rintro e w' ⟨rfl,rfl⟩)
      go_wp2
      go_roundw
      case rel=>exact⟨n+1,by omega,by go_num,HS.out⟩
      case measure=>simp [intOf]; omega
    · obtain rfl:n=8:=by omega
      have hF:uf st w (.returned (.tuple #[.pointer (some ⟨g,0,none⟩),.int .i64 0])) wr:=by
       refine⟨hA.below,.inr ⟨HE0.out,g,V,fun i=>w2.heap.size+i,x',rfl,⟨by rw [← DW]; exact hA.blk,hA.srv,fun i hi=>hA.feed i hi,fun i _=>ByteRow.nil _,fun i j _ _ e=>by omega,fun i j b _ _ e _=>by cases e⟩,fun b hb=>?_⟩⟩
       have:=hA.lo
       rcases hb with e | e | ⟨i,hi,e | e⟩
       · omega
       · omega
       · have e:b=w2.heap.size+i:=e
         omega
       · cases e
      have F:=hid hF
      clear hA hF HA
      go_wp2
      go_ret2
      exact F.out
end Go.Proofs.YtoeejfhdjmkpcaaGreatDoor
/- req.Decode at the bytes of a job that is put. -/
namespace Go.Proofs.YtoeejfhdjmkpcaaGreatDoor
open Go.Lib (hid)
open Go.RowKit
theorem F6 (g P:Nat) (σ:RR Unit) (x:aA) (r:ByteArray) (w:World) (hp:Blk w P 327 #[.string ⟨#[]⟩,.int .i64 0,.int .i64 0,.int .i64 0,.string ⟨#[]⟩]) (h:fG w g σ) (hx:(σ.bind fun _ s=>mW 3 s) = .ok x r) (hgP:g<P) :
 Calls Tryz.prog 469 #[.pointer (some ⟨P,0,none⟩),.pointer (some ⟨g,0,none⟩)] w fun e w'=>e = .returned (.tuple #[])∧Blk w' P 327 #[.string x.name,.int .i64 x.prio,.int .i64 x.need,.int .i64 x.tries,.string x.tag]∧fG w' g (.ok () r)∧Two w w' g P:=by
 have HJ:=hid (EC g σ 3 w (by decide) (by decide) h)
 have Hx:=hid hx
 have HP:=hid hp
 have hlP:=hp.lt
 have hlg:=h.at_.lt
 clear hp h hx
 go_enter Tryz.func469,Tryz.ntmps469
 go_wp2_with fail
 refine Calls.mono HJ.out ?_
 rintro e w1 ⟨a,rfl,hv,hok,hg⟩
 rw [Hx.out] at hv hok
 have hv:a=x:=hv
 subst hv
 have hok:fG w1 g (.ok () r):=hok
 have hp1:=aE hg HP.out (Nat.ne_of_gt hgP)
 have z0:w1.frozen? ⟨P,0,none⟩=false:=hp1.thaw 0
 have z1:w1.frozen? ⟨P,1,none⟩=false:=hp1.thaw 1
 have z2:w1.frozen? ⟨P,2,none⟩=false:=hp1.thaw 2
 have z3:w1.frozen? ⟨P,3,none⟩=false:=hp1.thaw 3
 have z4:w1.frozen? ⟨P,4,none⟩=false:=hp1.thaw 4
 obtain⟨c0,c1,c2,c3,c4⟩:=Blk.c5 (hp1)
 have hlP1:=hp1.lt
 have bO:=hid (show Blk (((((w1.setCell ⟨P,0,none⟩ (.string a.name)).setCell ⟨P,1,none⟩ (.int .i64 a.prio)).setCell ⟨P,2,none⟩ (.int .i64 a.need)).setCell ⟨P,3,none⟩ (.int .i64 a.tries)).setCell ⟨P,4,none⟩ (.string a.tag)) P 327 #[.string a.name,.int .i64 a.prio,.int .i64 a.need,.int .i64 a.tries,.string a.tag]∧fG (((((w1.setCell ⟨P,0,none⟩ (.string a.name)).setCell ⟨P,1,none⟩ (.int .i64 a.prio)).setCell ⟨P,2,none⟩ (.int .i64 a.need)).setCell ⟨P,3,none⟩ (.int .i64 a.tries)).setCell ⟨P,4,none⟩ (.string a.tag)) g (.ok () r)∧Two w (((((w1.setCell ⟨P,0,none⟩ (.string a.name)).setCell ⟨P,1,none⟩ (.int .i64 a.prio)).setCell ⟨P,2,none⟩ (.int .i64 a.need)).setCell ⟨P,3,none⟩ (.int .i64 a.tries)).setCell ⟨P,4,none⟩ (.string a.tag)) g P from ⟨Blk.eq (((((hp1.set 0 _).set 1 _).set 2 _).set 3 _).set 4 _) rfl,((((hok.set P 0 _ hgP).set P 1 _ hgP).set P 2 _ hgP).set P 3 _ hgP).set P 4 (.string a.tag) hgP,((Two.refl w g P).fst hg).snd (aF (aF (aF (aF (aF (cT w1 P) 0 (.string a.name)) 1 (.int .i64 a.prio)) 2 (.int .i64 a.need)) 3 (.int .i64 a.tries)) 4 (.string a.tag))⟩)
 clear hok hp1 hg HJ Hx HP
 simp only [aJ]
 go_wp2
 go_end0
 exact⟨rfl,bO.out⟩
theorem Je (x:aA) (w:World) (hx:fE x=0) (hT:Tabs w) :
 Calls Tryz.prog 196 #[.string (BA (bJ 1 ++ gL x 3))] w (sB ⟨1,x,dZ,cV,⟨#[]⟩,0⟩ 0 w):=by
 obtain⟨b,hb⟩:∃ b,BA (bJ 1 ++ gL x 3)=b:=⟨_,rfl⟩
 have hn1:cO b = .ok 1 (BA (gL x 3)):=by rw [← hb]; exact iP 1 (by omega) _
 have hn2:mW 3 (BA (gL x 3)) = .ok x (BA []):=by have:=zF hx []; rwa [List.append_nil] at this
 have hbs:b.size≤1000:=by
  have h1:=dM 1
  have h2:=xG x 3
  rw [← hb,jQ,List.length_append]; omega
 rw [hb]
 clear hb
 have hjw:=eO (gP hx).1
 have hjt:=jS (gP hx).2.1
 have hE:eF (⟨1,x,dZ,cV,⟨#[]⟩,0⟩:aU)=0:=by
  have h1:ranged (⟨1,x,dZ,cV,⟨#[]⟩,0⟩:aU).kind 1 9=true:=by show ranged 1 1 9=true; decide
  unfold eF
  rw [if_neg (by rw [h1]; simp),if_neg (by simp [q8])]
  exact hx
 obtain⟨W,hW⟩:∃ W,(w.alloc (.cells #[.int .i64 0,.string ⟨#[]⟩,.int .i64 0,.int .i64 0,.int .i64 0,.string ⟨#[]⟩,.string ⟨#[]⟩,.int .i64 0,.string ⟨#[]⟩,.string ⟨#[]⟩,.string ⟨#[]⟩,.int .i64 0,.string ⟨#[]⟩,.int .i64 0] 40)).alloc (.cells #[.string b,.int .i64 0] 145)=W:=⟨_,rfl⟩
 have hb0:Below w.heap.size w (w.alloc (.cells #[.int .i64 0,.string ⟨#[]⟩,.int .i64 0,.int .i64 0,.int .i64 0,.string ⟨#[]⟩,.string ⟨#[]⟩,.int .i64 0,.string ⟨#[]⟩,.string ⟨#[]⟩,.string ⟨#[]⟩,.int .i64 0,.string ⟨#[]⟩,.int .i64 0] 40)):=(Below.refl _ _).alloc (Nat.le_refl _) _
 have hbW:Below w.heap.size w W:=by rw [← hW]; exact hb0.alloc hb0.size _
 have hR:Blk W w.heap.size 40 #[.int .i64 0,.string ⟨#[]⟩,.int .i64 0,.int .i64 0,.int .i64 0,.string ⟨#[]⟩,.string ⟨#[]⟩,.int .i64 0,.string ⟨#[]⟩,.string ⟨#[]⟩,.string ⟨#[]⟩,.int .i64 0,.string ⟨#[]⟩,.int .i64 0]:=by rw [← hW]; exact Blk.alloc (show Blk _ _ _ _ from heap_alloc_new w _) _
 obtain⟨g,hg⟩:∃ g,w.heap.size+1=g:=⟨_,rfl⟩
 have hrx:lT W g b 0:=by
  rw [← hW,← hg]
  have h:=heap_alloc_new (w.alloc (.cells #[.int .i64 0,.string ⟨#[]⟩,.int .i64 0,.int .i64 0,.int .i64 0,.string ⟨#[]⟩,.string ⟨#[]⟩,.int .i64 0,.string ⟨#[]⟩,.string ⟨#[]⟩,.string ⟨#[]⟩,.int .i64 0,.string ⟨#[]⟩,.int .i64 0] 40)) (.cells #[.string b,.int .i64 0] 145)
  rwa [show (w.alloc (.cells #[.int .i64 0,.string ⟨#[]⟩,.int .i64 0,.int .i64 0,.int .i64 0,.string ⟨#[]⟩,.string ⟨#[]⟩,.int .i64 0,.string ⟨#[]⟩,.string ⟨#[]⟩,.string ⟨#[]⟩,.int .i64 0,.string ⟨#[]⟩,.int .i64 0] 40)).heap.size=w.heap.size+1 by simp] at h
 have hlts:=hT.lts
 have hok:fG W g (.ok () b):=⟨hrx,by show b.size≤9223372036854775807; omega,hT.below hbW,by omega,by omega⟩
 have HN:=hid (gK g (.ok () b) W hok)
 have HR:=hid hR
 have HbW:=hid hbW
 have HT:=hid hT
 have HW:=hid (show (w.alloc (.cells #[.int .i64 0,.string ⟨#[]⟩,.int .i64 0,.int .i64 0,.int .i64 0,.string ⟨#[]⟩,.string ⟨#[]⟩,.int .i64 0,.string ⟨#[]⟩,.string ⟨#[]⟩,.string ⟨#[]⟩,.int .i64 0,.string ⟨#[]⟩,.int .i64 0] 40)).alloc (.cells #[.string b,.int .i64 0] 145)=W from hW)
 have Hg:=hid hg
 have Hn1:=hid hn1
 have Hn2:=hid hn2
 have HE:=hid hE
 have hlR:=hR.lt
 have hlg:=hok.at_.lt
 have hRg:w.heap.size<g:=by omega
 clear hb0 hbW hR hrx hlts hok hT hW hg hn1 hn2 hE hx
 go_enter Tryz.func196,Tryz.ntmps196
 go_wp2_with fail
 simp only [HW.out,Hg.out]
 clear HW
 refine Calls.mono HN.out ?_
 rintro e w2 ⟨a,rfl,hv,hok,hg2⟩
 have e1:((RR.ok () b).bind fun _ s=>cO s) = .ok 1 (BA (gL x 3)):=Hn1.out
 rw [e1] at hv hok
 have hv:a=1:=hv
 subst hv
 have hok:fG w2 g (.ok () (BA (gL x 3))):=hok
 have y1:w2.cell? ⟨g,1,none⟩=some (.int .i64 0):=Blk.cell (show lT w2 g _ 0 from hok.at_) 1
 have hlg2:=hok.at_.lt
 have hR2:=aE hg2 HR.out (Nat.ne_of_lt hRg)
 have HP:=hid (show Calls Tryz.prog 133 #[.agg #[.int .i64 1,.string ⟨#[]⟩,.int .i64 0,.int .i64 0,.int .i64 0,.string ⟨#[]⟩,.string ⟨#[]⟩,.int .i64 0,.string ⟨#[]⟩,.string ⟨#[]⟩,.string ⟨#[]⟩,.int .i64 0,.string ⟨#[]⟩,.int .i64 0]] w2 _ from Dq (iZ 1) w2 rfl)
 have Hok:=hid hok
 have HR2:=hid hR2
 have Hb2:=hid (aI HbW.out hg2 (Nat.le_of_lt hRg))
 clear hok hg2 hR2 HN HR HbW e1 Hn1
 have hn:∀ (w:World) (a:Addr),(binOp .eql 225 (.iface 325 (.pointer (some a))) .nilIface).run Tryz.prog w = .ok (.bool false) w:=fun _ _=>rfl
 go_wp2_with fail
 refine Calls.mono HP.out ?_
 rintro e w3 ⟨P,rfl,hP,hpb,hb3⟩
 have Mr:fG w3 g (.ok () (BA (gL x 3))):=Hok.out.next (σ':=.ok () (BA (gL x 3))) (Blk.below (show lT w2 g _ 0 from Hok.out.at_) hb3 Hok.out.at_.lt) Hok.out.good (jl _ hb3)
 have hgP:g<P:=by have:=Hok.out.at_.lt; omega
 have HTk:=hid (F6 g P (.ok () (BA (gL x 3))) x (BA []) w3 hpb Mr Hn2.out hgP)
 have hm : ∀ w, (method 606 325 (.pointer (some ⟨P, 0, none⟩)) "bracken/req.take").run Tryz.prog w = .ok (469, .pointer (some ⟨P, 0, none⟩)) w := fun _ => by kernel_rfl
 have HR3:=hid (HR2.out.below hb3 HR2.out.lt)
 have Hb3:=hid (Hb2.out.trans (hb3.mono Hb2.out.size))
 have hlP3:=hpb.lt
 have hlg3:=Mr.at_.lt
 clear hP hpb hb3 Mr HP Hok HR2 Hb2 Hn2 y1
 go_wp2_with fail
 refine Calls.mono HTk.out ?_
 rintro e w4 ⟨rfl,hp4,KV,t4⟩
 have HR4:=hid (t4.blk HR3.out (Nat.ne_of_lt hRg) (by omega))
 have Hb4:=hid (t4.below Hb3.out (Nat.le_of_lt hRg) (by omega))
 have HEn:=hid (MB g (.ok () (BA [])) w4 KV.at_ KV.good)
 have Hp4:=hid hp4
 have hlP4:=hp4.lt
 have hlg4:=KV.at_.lt
 clear hp4 KV t4 HTk HR3 Hb3 hm
 go_wp2_with fail
 refine Calls.mono HEn.out ?_
 rintro e w5 ⟨rfl,hg5⟩
 have hp5:=aE hg5 Hp4.out (Nat.ne_of_gt hgP)
 have HR5:=hid (aE hg5 HR4.out (Nat.ne_of_lt hRg))
 have Hb5:=hid (aI Hb4.out hg5 (Nat.le_of_lt hRg))
 have HWh:=hid (show Calls Tryz.prog 134 #[.int .i64 1,.iface 325 (.pointer (some ⟨P,0,none⟩))] w5 _ from zW ⟨1,x,dZ,cV,⟨#[]⟩,0⟩ P w5 hp5)
 have hlP5:=hp5.lt
 rw [show ((qX (.ok () (BA [])):Nat):Int)=0 from rfl]
 clear hp5 hg5 HEn HR4 Hb4 Hp4
 go_wp2_with fail
 refine Calls.mono HWh.out ?_
 rintro e w6 ⟨rfl,hb6⟩
 have HR6:=hid (HR5.out.below hb6 HR5.out.lt)
 have Hb6:=hid (Hb5.out.trans (hb6.mono Hb5.out.size))
 obtain⟨w7,hw7⟩:∃ w7,w6.alloc (.cells #[.int .i64 1,.string x.name,.int .i64 x.prio,.int .i64 x.need,.int .i64 x.tries,.string x.tag,.string ⟨#[]⟩,.int .i64 0,.string ⟨#[]⟩,.string ⟨#[]⟩,.string ⟨#[]⟩,.int .i64 0,.string ⟨#[]⟩,.int .i64 0] 40)=w7:=⟨_,rfl⟩
 have hb7:Below w6.heap.size w6 w7:=by rw [← hw7]; exact (Below.refl _ _).alloc (Nat.le_refl _) _
 have hq7:Blk w7 w6.heap.size 40 #[.int .i64 1,.string x.name,.int .i64 x.prio,.int .i64 x.need,.int .i64 x.tries,.string x.tag,.string ⟨#[]⟩,.int .i64 0,.string ⟨#[]⟩,.string ⟨#[]⟩,.string ⟨#[]⟩,.int .i64 0,.string ⟨#[]⟩,.int .i64 0]:=by rw [← hw7]; exact heap_alloc_new w6 _
 have hck:=xq ⟨1,x,dZ,cV,⟨#[]⟩,0⟩ w7 rfl ⟨by show x.name.size≤_; omega,by show x.tag.size≤_; omega,(by decide:dZ.name.size≤9223372036854775807),(by decide:dZ.zone.size≤9223372036854775807),(by decide:cV.job.size≤9223372036854775807),(by decide:cV.node.size≤9223372036854775807),(by decide:ByteArray.size ⟨#[]⟩≤9223372036854775807)⟩ (HT.out.below (Hb6.out.trans (hb7.mono Hb6.out.size)))
 rw [HE.out] at hck
 have HC:=hid (show Calls Tryz.prog 44 #[.agg #[.int .i64 1,.string x.name,.int .i64 x.prio,.int .i64 x.need,.int .i64 x.tries,.string x.tag,.string ⟨#[]⟩,.int .i64 0,.string ⟨#[]⟩,.string ⟨#[]⟩,.string ⟨#[]⟩,.int .i64 0,.string ⟨#[]⟩,.int .i64 0]] w7 (cL 0 w7) from hck)
 obtain⟨d0,d1,d2,d3,d4,d5,d6,d7,d8,d9,d10,d11,d12,d13⟩:=Blk.c14 (show Blk w7 (w6.heap.size) _ #[.int .i64 1,.string x.name,.int .i64 x.prio,.int .i64 x.need,.int .i64 x.tries,.string x.tag,.string ⟨#[]⟩,.int .i64 0,.string ⟨#[]⟩,.string ⟨#[]⟩,.string ⟨#[]⟩,.int .i64 0,.string ⟨#[]⟩,.int .i64 0] from hq7)
 have Hw7:=hid hw7
 have HQ7:=hid hq7
 have hlq7:=hq7.lt
 have HR7:=hid (HR6.out.below hb7 HR6.out.lt)
 have Hb7:=hid (Hb6.out.trans (hb7.mono Hb6.out.size))
 have hRlt:w.heap.size<w6.heap.size:=HR6.out.lt
 clear hb6 hw7 hb7 hq7 hck HWh HR5 Hb5 HR6 Hb6
 unfold bT
 unfold aT
 dsimp only [dZ,cV]
 go_wp2_with fail
 simp only [Hw7.out]
 clear Hw7
 refine Calls.mono HC.out ?_
 rintro e w8 ⟨rfl,hb8⟩
 have hR8:=HR7.out.below hb8 HR7.out.lt
 have hq8:=HQ7.out.below hb8 HQ7.out.lt
 have hB8:=Hb7.out.trans (hb8.mono Hb7.out.size)
 obtain⟨e0,e1,e2,e3,e4,e5,e6,e7,e8,e9,e10,e11,e12,e13⟩:=Blk.c14 (show Blk w8 (w6.heap.size) _ #[.int .i64 1,.string x.name,.int .i64 x.prio,.int .i64 x.need,.int .i64 x.tries,.string x.tag,.string ⟨#[]⟩,.int .i64 0,.string ⟨#[]⟩,.string ⟨#[]⟩,.string ⟨#[]⟩,.int .i64 0,.string ⟨#[]⟩,.int .i64 0] from hq8)
 obtain⟨r0,r1,r2,r3,r4,r5,r6,r7,r8,r9,r10,r11,r12,r13⟩:=Blk.c14 (show Blk w8 (w.heap.size) _ #[.int .i64 0,.string ⟨#[]⟩,.int .i64 0,.int .i64 0,.int .i64 0,.string ⟨#[]⟩,.string ⟨#[]⟩,.int .i64 0,.string ⟨#[]⟩,.string ⟨#[]⟩,.string ⟨#[]⟩,.int .i64 0,.string ⟨#[]⟩,.int .i64 0] from hR8)
 obtain⟨z0,z1,z2,z3,z4,z5,z6,z7,z8,z9,z10,z11,z12,z13⟩:=Blk.z14 (hR8)
 have hlq8:=hq8.lt
 have hlR8:=hR8.lt
 have hf:=(Blk.eq ((Blk.eq ((Blk.eq ((Blk.eq ((Blk.eq ((Blk.eq ((Blk.eq ((Blk.eq ((Blk.eq ((Blk.eq ((Blk.eq ((Blk.eq ((Blk.eq ((Blk.eq (hR8.set 0 (.int .i64 1)) (show _=#[.int .i64 1,.string ⟨#[]⟩,.int .i64 0,.int .i64 0,.int .i64 0,.string ⟨#[]⟩,.string ⟨#[]⟩,.int .i64 0,.string ⟨#[]⟩,.string ⟨#[]⟩,.string ⟨#[]⟩,.int .i64 0,.string ⟨#[]⟩,.int .i64 0] from rfl)).set 1 (.string x.name)) (show _=#[.int .i64 1,.string x.name,.int .i64 0,.int .i64 0,.int .i64 0,.string ⟨#[]⟩,.string ⟨#[]⟩,.int .i64 0,.string ⟨#[]⟩,.string ⟨#[]⟩,.string ⟨#[]⟩,.int .i64 0,.string ⟨#[]⟩,.int .i64 0] from rfl)).set 2 (.int .i64 x.prio)) (show _=#[.int .i64 1,.string x.name,.int .i64 x.prio,.int .i64 0,.int .i64 0,.string ⟨#[]⟩,.string ⟨#[]⟩,.int .i64 0,.string ⟨#[]⟩,.string ⟨#[]⟩,.string ⟨#[]⟩,.int .i64 0,.string ⟨#[]⟩,.int .i64 0] from rfl)).set 3 (.int .i64 x.need)) (show _=#[.int .i64 1,.string x.name,.int .i64 x.prio,.int .i64 x.need,.int .i64 0,.string ⟨#[]⟩,.string ⟨#[]⟩,.int .i64 0,.string ⟨#[]⟩,.string ⟨#[]⟩,.string ⟨#[]⟩,.int .i64 0,.string ⟨#[]⟩,.int .i64 0] from rfl)).set 4 (.int .i64 x.tries)) (show _=#[.int .i64 1,.string x.name,.int .i64 x.prio,.int .i64 x.need,.int .i64 x.tries,.string ⟨#[]⟩,.string ⟨#[]⟩,.int .i64 0,.string ⟨#[]⟩,.string ⟨#[]⟩,.string ⟨#[]⟩,.int .i64 0,.string ⟨#[]⟩,.int .i64 0] from rfl)).set 5 (.string x.tag)) (show _=#[.int .i64 1,.string x.name,.int .i64 x.prio,.int .i64 x.need,.int .i64 x.tries,.string x.tag,.string ⟨#[]⟩,.int .i64 0,.string ⟨#[]⟩,.string ⟨#[]⟩,.string ⟨#[]⟩,.int .i64 0,.string ⟨#[]⟩,.int .i64 0] from rfl)).set 6 (.string ⟨#[]⟩)) (show _=#[.int .i64 1,.string x.name,.int .i64 x.prio,.int .i64 x.need,.int .i64 x.tries,.string x.tag,.string ⟨#[]⟩,.int .i64 0,.string ⟨#[]⟩,.string ⟨#[]⟩,.string ⟨#[]⟩,.int .i64 0,.string ⟨#[]⟩,.int .i64 0] from rfl)).set 7 (.int .i64 0)) (show _=#[.int .i64 1,.string x.name,.int .i64 x.prio,.int .i64 x.need,.int .i64 x.tries,.string x.tag,.string ⟨#[]⟩,.int .i64 0,.string ⟨#[]⟩,.string ⟨#[]⟩,.string ⟨#[]⟩,.int .i64 0,.string ⟨#[]⟩,.int .i64 0] from rfl)).set 8 (.string ⟨#[]⟩)) (show _=#[.int .i64 1,.string x.name,.int .i64 x.prio,.int .i64 x.need,.int .i64 x.tries,.string x.tag,.string ⟨#[]⟩,.int .i64 0,.string ⟨#[]⟩,.string ⟨#[]⟩,.string ⟨#[]⟩,.int .i64 0,.string ⟨#[]⟩,.int .i64 0] from rfl)).set 9 (.string ⟨#[]⟩)) (show _=#[.int .i64 1,.string x.name,.int .i64 x.prio,.int .i64 x.need,.int .i64 x.tries,.string x.tag,.string ⟨#[]⟩,.int .i64 0,.string ⟨#[]⟩,.string ⟨#[]⟩,.string ⟨#[]⟩,.int .i64 0,.string ⟨#[]⟩,.int .i64 0] from rfl)).set 10 (.string ⟨#[]⟩)) (show _=#[.int .i64 1,.string x.name,.int .i64 x.prio,.int .i64 x.need,.int .i64 x.tries,.string x.tag,.string ⟨#[]⟩,.int .i64 0,.string ⟨#[]⟩,.string ⟨#[]⟩,.string ⟨#[]⟩,.int .i64 0,.string ⟨#[]⟩,.int .i64 0] from rfl)).set 11 (.int .i64 0)) (show _=#[.int .i64 1,.string x.name,.int .i64 x.prio,.int .i64 x.need,.int .i64 x.tries,.string x.tag,.string ⟨#[]⟩,.int .i64 0,.string ⟨#[]⟩,.string ⟨#[]⟩,.string ⟨#[]⟩,.int .i64 0,.string ⟨#[]⟩,.int .i64 0] from rfl)).set 12 (.string ⟨#[]⟩)) (show _=#[.int .i64 1,.string x.name,.int .i64 x.prio,.int .i64 x.need,.int .i64 x.tries,.string x.tag,.string ⟨#[]⟩,.int .i64 0,.string ⟨#[]⟩,.string ⟨#[]⟩,.string ⟨#[]⟩,.int .i64 0,.string ⟨#[]⟩,.int .i64 0] from rfl)).set 13 (.int .i64 0)) (show _=#[.int .i64 1,.string x.name,.int .i64 x.prio,.int .i64 x.need,.int .i64 x.tries,.string x.tag,.string ⟨#[]⟩,.int .i64 0,.string ⟨#[]⟩,.string ⟨#[]⟩,.string ⟨#[]⟩,.int .i64 0,.string ⟨#[]⟩,.int .i64 0] from rfl))
 have hG:=(aF (aF (aF (aF (aF (aF (aF (aF (aF (aF (aF (aF (aF (aF (cT w8 (w.heap.size)) 0 (.int .i64 1)) 1 (.string x.name)) 2 (.int .i64 x.prio)) 3 (.int .i64 x.need)) 4 (.int .i64 x.tries)) 5 (.string x.tag)) 6 (.string ⟨#[]⟩)) 7 (.int .i64 0)) 8 (.string ⟨#[]⟩)) 9 (.string ⟨#[]⟩)) 10 (.string ⟨#[]⟩)) 11 (.int .i64 0)) 12 (.string ⟨#[]⟩)) 13 (.int .i64 0))
 have y0:=(show _=(some (.int .i64 1):Option Value) from hf.cell 0)
 have y1:=(show _=(some (.string x.name):Option Value) from hf.cell 1)
 have y2:=(show _=(some (.int .i64 x.prio):Option Value) from hf.cell 2)
 have y3:=(show _=(some (.int .i64 x.need):Option Value) from hf.cell 3)
 have y4:=(show _=(some (.int .i64 x.tries):Option Value) from hf.cell 4)
 have y5:=(show _=(some (.string x.tag):Option Value) from hf.cell 5)
 have y6:=(show _=(some (.string ⟨#[]⟩):Option Value) from hf.cell 6)
 have y7:=(show _=(some (.int .i64 0):Option Value) from hf.cell 7)
 have y8:=(show _=(some (.string ⟨#[]⟩):Option Value) from hf.cell 8)
 have y9:=(show _=(some (.string ⟨#[]⟩):Option Value) from hf.cell 9)
 have y10:=(show _=(some (.string ⟨#[]⟩):Option Value) from hf.cell 10)
 have y11:=(show _=(some (.int .i64 0):Option Value) from hf.cell 11)
 have y12:=(show _=(some (.string ⟨#[]⟩):Option Value) from hf.cell 12)
 have y13:=(show _=(some (.int .i64 0):Option Value) from hf.cell 13)
 have bO:=hid (aI hB8 hG (Nat.le_refl _))
 clear hb8 hR8 hq8 hB8 hf hG HC HQ7 HR7 Hb7 d0 d1 d2 d3 d4 d5 d6 d7 d8 d9 d10 d11 d12 d13
 go_wp2
 refine bodyPost_ret (v:=.tuple #[.agg #[.int .i64 1,.string x.name,.int .i64 x.prio,.int .i64 x.need,.int .i64 x.tries,.string x.tag,.string ⟨#[]⟩,.int .i64 0,.string ⟨#[]⟩,.string ⟨#[]⟩,.string ⟨#[]⟩,.int .i64 0,.string ⟨#[]⟩,.int .i64 0],.int .i64 0]) (by simp [results,Tryz.results196,go_sem, *]) rfl ?_
 exact⟨rfl,bO.out⟩
end Go.Proofs.YtoeejfhdjmkpcaaGreatDoor
