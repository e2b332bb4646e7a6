/- Of the proof of a statement: HubF, HubG. -/
import Derived.Test.YtcpgnjmaampglaaGreatDoorWSvDo
import Derived.Test.YtcpgnjmaampglaaGreatDoorWWEnc
set_option linter.unusedVariables false
set_option linter.unusedSimpArgs false
set_option maxRecDepth 100000
set_option maxHeartbeats 8000000
/- The walks of a hub: changed, frame. -/
namespace Go.Proofs.YtcpgnjmaampglaaGreatDoor
open Go.Lib (hid)
open List (foldl_cons foldl_nil setIfInBounds_toArray set_cons_succ set_cons_zero)
open Go.RowKit
structure nH (w0 w:World) (g V:Nat) (fb:Nat→Nat) (wv:Nat→Value):Prop where
 base:Below w0.heap.size w0 w
 tabs:Tabs w0
 lo:∀ b,sE g V fb wv b→w0.heap.size≤b
section
variable {w0 w w':World} {g V:Nat} {fb:Nat→Nat} {wv wv':Nat→Value}
theorem nH.to (h:nH w0 w g V fb wv) (ht:dN g V fb wv wv' w w'):nH w0 w' g V fb wv':=by
 have hs:=h.base.size
 refine⟨h.base.trans (ht.gr.below h.lo hs),h.tabs,fun b hb=>?_⟩
 rcases hb with e | e | ⟨i,hi,e | e⟩
 · exact h.lo b (.inl e)
 · exact h.lo b (.inr (.inl e))
 · exact h.lo b (.inr (.inr ⟨i,hi,.inl e⟩))
 · rcases ht.own i hi with h1 | h1 | ⟨q,h1,h2⟩
   · rw [h1] at e; cases e
   · rw [h1] at e; exact h.lo b (.inr (.inr ⟨i,hi,.inr e⟩))
   · rw [h1] at e; injection e with e; omega
theorem nH.more (h:nH w0 w g V fb wv) (hb:Below w.heap.size w w'):nH w0 w' g V fb wv:=h.to ((dN.refl g V fb wv w).below_ hb)
theorem nH.at_ (h:nH w0 w g V fb wv):Tabs w:=h.tabs.below h.base
end
def Lp (q:cJ) (st:ah) (now:Int):Prop:=∀ (x:StA) (V:Nat) (w:World),SrvAt w 215 V st x now→Tabs w →
 Calls Tryz.prog 118 #[.pointer (some ⟨V,0,none⟩),gY q] w (Ct 215 V st (qp st now (pR st now q)) w)
theorem FS (tl:ah→List UInt8) (st:ah) (b:ByteArray) (e:Int) (cs:Nat→cu):jI tl st b e cs 0=cs:=by
 funext i; unfold jI; rw [if_neg (by omega)]
theorem oR (tl:ah→List UInt8) (st:ah) (b:ByteArray) (e:Int) (cs:Nat→cu) (n:Nat):jI tl st b e cs n n=cs n:=by
 unfold jI; rw [if_neg (by omega)]
theorem zx (tl:ah→List UInt8) (st:ah) (b:ByteArray) (e:Int) (cs:Nat→cu) (n:Nat):jI tl st b e cs (n+1)=upd (jI tl st b e cs n) n (qh tl st b e (cs n)):=by
 funext i
 unfold jI upd
 by_cases h:i=n
 · subst h; rw [if_pos (by omega),if_pos rfl]
 · rw [if_neg h]
   dsimp only
   by_cases h2:i<n
   · rw [if_pos h2,if_pos (by omega)]
   · rw [if_neg h2,if_neg (by omega)]
def QT (tl:ah→List UInt8) (g V:Nat) (fb:Nat→Nat) (wv:Nat→Value) (cs:Nat→cu) (st:ah) (x:StA) (now:Int) (b:ByteArray) (e:Int) (w:World) (i:Value) (wr:World):Prop:=
 ∃ n wv',n≤8∧i = .int .i64 ((n:Nat):Int)∧cC wr g V fb wv' (jI tl st b e cs n) st x now∧dN g V fb wv wv' w wr
theorem DZ (tl:ah→List UInt8) {g V:Nat} {fb:Nat→Nat} {wv:Nat→Value} {H:gZ} {x:StA} {w0:World} (w:World) (D:aK) (dx:eW) (h:cC w g V fb wv H.cs H.st x H.now) (hI:nH w0 w g V fb wv) (hD:dM w w.heap.size D dx) (hf1 : -9223372036854775808≤D.from_) (hf2:D.from_≤9223372036854775807)
 (ht:(∀ i,i<8→(H.cs i).aL=false)∨uf tl) (hl:∀ i,i<8→(H.cs i).waits.length≤35184372000000) :
 Calls Tryz.prog 121 #[.pointer (some ⟨g,0,none⟩),.agg (dC D dx)] w (iV g V fb wv (qP tl H D) (.tuple #[]) w):=by
 obtain⟨W,hW⟩:∃ W,w.alloc (.cells (dC D dx) 48)=W:=⟨_,rfl⟩
 have hbW:Below w.heap.size w W:=by rw [← hW]; exact (Below.refl _ _).alloc (Nat.le_refl _) _
 have hb:Blk W w.heap.size 48 (dC D dx):=by rw [← hW]; exact heap_alloc_new w _
 have HC:=hid (DB D dx W (hD.upS hbW) ((hI.more hbW).at_) hf1 hf2)
 obtain⟨c0,c1,c2,c3,c4,c5,c6,c7⟩:=Blk.c8 (hb)
 have hlW:=hb.lt
 have Hh:=hid (h.below hbW)
 have HI:=hid (hI.more hbW)
 have HI0:=hid hI
 have HT0:=hid ((dN.refl g V fb wv w).below_ hbW)
 have HW:=hid hW
 have Hl:=hid hl
 have Ht:=hid ht
 have bJ:Hid (∀ wv' w',cC w' g V fb wv' (jI tl H.st (oS D).1 (oS D).2 H.cs 8) H.st x H.now→dN g V fb wv wv' w w'→iV g V fb wv (qP tl H D) (.tuple #[]) w (.returned (.tuple #[])) w'):=hid fun wv' w' h1 h2=>⟨rfl,wv',x,h1,h2⟩
 have hbs:=Bw D
 obtain⟨b,hbe⟩:∃ b,(oS D).1=b:=⟨_,rfl⟩
 obtain⟨E,hEe⟩:∃ E,(oS D).2=E:=⟨_,rfl⟩
 unfold mS at HC
 rw [hbe,hEe] at HC bJ
 rw [hbe] at hbs
 obtain⟨CS,hCS⟩:∃ CS,H.cs=CS:=⟨_,rfl⟩
 obtain⟨ST,hST⟩:∃ ST,H.st=ST:=⟨_,rfl⟩
 obtain⟨NW,hNW⟩:∃ NW,H.now=NW:=⟨_,rfl⟩
 rw [hCS,hST,hNW] at Hh bJ
 rw [hCS] at Ht Hl
 have Hbs:=hid hbs
 clear h hI hD hf1 hf2 ht hl hbW hb hW hbe hEe hbs hCS hST hNW
 unfold dC at HC HW ⊢
 go_enter Tryz.func121,Tryz.ntmps121
 go_wp2_with fail
 try simp only [HW.out]
 clear HW
 refine Calls.mono HC.out ?_
 rintro e w1 ⟨rfl,hb1⟩
 have H1:=hid (Hh.out.below hb1)
 have HT1:=hid (HT0.out.below_ hb1)
 clear hb1 HC Hh HI HT0 c0 c1 c2 c3 c4 c5 c6 c7 hlW
 go_wp2
 go_loopw [6,7,13] (fun _ _ i wr=>QT tl g V fb wv CS ST x NW b E w i wr) (fun _ _ i _=>8 - (intOf i).toNat)
 case atStart=>exact⟨0,wv,by omega,rfl,by rw [FS]; exact H1.out,HT1.out⟩
 case round=>
  obtain⟨n,wv',hn,rfl,hA,hT⟩:=hrel
  by_cases hlt:n<8
  · have y1:wr.cell? ⟨g,1+n*4+1,none⟩=some (.bool (CS n).closed):=by rw [hA.blk.cell,lH hlt,oR]
    have y2:wr.cell? ⟨g,1+n*4+2,none⟩=some (.bool (CS n).aL):=by rw [hA.blk.cell,nR hlt,oR]
    have hlg:=hA.blk.lt
    have HA:=hid hA
    have HT:=hid hT
    have gM:Hid ((CS n).closed=true∨(CS n).aL=false→cC wr g V fb wv' (jI tl ST b E CS (n+1)) ST x NW):=hid fun hc=>by
     have e:qh tl ST b E (CS n)=jI tl ST b E CS n n:=by rw [oR]; unfold qh; rw [if_pos hc]
     rw [zx,e,qA]
     exact HA.out
    have By:Hid (∀ c,(CS n).closed=false→(CS n).aL=true→c=qh tl ST b E (CS n)→∀ wv'' w'',cC w'' g V fb wv'' (upd (jI tl ST b E CS n) n c) ST x NW→dN g V fb wv' wv'' wr w''→cC w'' g V fb wv'' (jI tl ST b E CS (n+1)) ST x NW∧dN g V fb wv wv'' w w''):=hid fun c _ _ hc wv'' w'' h1 h2=>by
     rw [zx,← hc]
     exact⟨h1,HT.out.trans h2⟩
    have hwn:ByteRow wr (wv' n) (CS n).waits:=by have:=hA.wait n hlt; rwa [oR] at this
    have hln:(CS n).waits.length≤35184372000000:=Hl.out n hlt
    have HG:Hid (E=0→Calls Tryz.prog 167 #[.pointer (some ⟨g,1+n*4,none⟩),.int .i64 2,.string b] wr (gT g (1+n*4+3) (wv' n) ((CS n).waits ++ gB 3 2 b.data.toList) wr)):=hid fun _=>D2 g (1+n*4) 123 _ (wv' n) _ 2 b wr HA.out.blk (by decide) (iB hlt) hwn (by omega) Hbs.out (by omega)
    have HTl:Hid ((CS n).aL=true→Calls Tryz.prog 120 #[.pointer (some ⟨g,0,none⟩),.pointer (some ⟨g,1+n*4,none⟩)] wr (gT g (1+n*4+3) (wv' n) ((CS n).waits ++ tl ST) wr)):=hid fun hw=>by
     rcases Ht.out with h | h
     · rw [h n hlt] at hw; cases hw
     · exact h g (1+n*4) V 123 _ (wv' n) _ ST x NW wr HA.out.blk (by decide) uZ (iB hlt) hwn (by omega) HA.out.srv (HI0.out.to HT.out).at_
    clear hA hT hwn hln
    cases hcl:(CS n).closed
    · cases hwa:(CS n).aL
      · have F:=hid (gM.out (.inr hwa))
        rw [hcl] at y1
        rw [hwa] at y2
        clear hcl hwa gM By HG HTl
        go_wp2
        go_roundw
        case rel=>exact⟨n+1,wv',by omega,by go_num,F.out,HT.out⟩
        case measure=>simp [intOf]; omega
      · by_cases hE0:E=0
        · have F:=hid (HG.out hE0)
          have F2:=hid (By.out (Lq 2 b (CS n)) hcl hwa (by unfold qh; rw [if_neg (by rw [hcl,hwa]; decide),if_pos hE0]))
          rw [hcl] at y1
          rw [hwa] at y2
          subst hE0
          clear hcl hwa gM By HG HTl
          go_wp2_with fail
          refine Calls.mono F.out ?_
          rintro e w2 hp
          obtain⟨rfl,wv2,h2,t2⟩:=hp.hub HA.out hlt
          rw [oR] at h2
          have F3:=hid (F2.out wv2 w2 h2 t2)
          clear hp h2 t2 F F2 y1 y2
          go_wp2
          go_roundw
          case rel=>exact⟨n+1,wv2,by omega,by go_num,F3.out.1,F3.out.2⟩
          case measure=>simp [intOf]; omega
        · have F:=hid (HTl.out hwa)
          have F2:=hid (By.out (NF (tl ST) (CS n)) hcl hwa (by unfold qh; rw [if_neg (by rw [hcl,hwa]; decide),if_neg hE0]))
          have d1:(E == 0)=false:=by simpa using hE0
          rw [hcl] at y1
          rw [hwa] at y2
          clear hcl hwa gM By HG HTl hE0
          go_wp2_with fail
          refine Calls.mono F.out ?_
          rintro e w2 hp
          obtain⟨rfl,wv2,h2,t2⟩:=hp.hub HA.out hlt
          rw [oR] at h2
          have F3:=hid (F2.out wv2 w2 h2 t2)
          clear hp h2 t2 F F2 y1 y2
          go_wp2
          go_roundw
          case rel=>exact⟨n+1,wv2,by omega,by go_num,F3.out.1,F3.out.2⟩
          case measure=>simp [intOf]; omega
    · have F:=hid (gM.out (.inl hcl))
      rw [hcl] at y1
      clear hcl gM By HG HTl
      go_wp2
      go_roundw
      case rel=>exact⟨n+1,wv',by omega,by go_num,F.out,HT.out⟩
      case measure=>simp [intOf]; omega
  · obtain rfl:n=8:=by omega
    have HF:=hid (bJ.out wv' wr hA hT)
    clear hA hT
    go_wp2
    go_end0
    exact HF.out
theorem cC.other {w w':World} {g V r:Nat} {fb:Nat→Nat} {wv:Nat→Value} {cs:Nat→cu} {st:ah} {x:StA} {now:Int} {t:TypeId} {c:Array Value} (h:cC w g V fb wv cs st x now) (hb:Blk w r t c) (hn:jF c) (h1:t ≠ 123) (h2:t ≠ 215) (h3:t ≠ 74) (h4:t ≠ 5) (hg:w.grownBy w' (some r)):cC w' g V fb wv cs st x now:=
 ⟨aA hg h.blk (bE h.blk hb h1.symm),⟨aA hg h.srv.blk (bE h.srv.blk hb h2.symm),(h.srv.at_.jk hb hn hg).more hg.size,h.srv.ok,h.srv.t⟩,fun i hi=>aA hg (h.feed i hi) (bE (h.feed i hi) hb h3.symm),
  fun i hi=>(h.wait i hi).keep fun b hb'=>by
   obtain⟨c',h5,_⟩:=(h.wait i hi).blk hb'
   exact hg.block b h5.lt (fun e=>by injection e with e; exact bE h5 hb h4.symm e),h.fbi,h.wvi⟩
theorem dN.new {g V r:Nat} {fb:Nat→Nat} {wv wv':Nat→Value} {w w1 w':World} (h:dN g V fb wv wv' w w1) (hg:w1.grownBy w' (some r)) (hr:w.heap.size≤r):dN g V fb wv wv' w w':=
 ⟨h.gr.trans (Gr.lF (S:=fun b=>b=r) hg fun b e=>by injection e with e; exact e.symm) fun b hb e=>by omega,fun i hi=>(h.own i hi)⟩
structure FrG where
 R:Option Nat
 D:Option Nat
 set:Bool
 dx:eW
 x:StA
def frV (g V:Nat) (q:cJ) (E rev:Int) (D:aK) (ch:Bool) (γ:FrG):Nat→Value→Prop
 | 0,u=>u = .pointer (some ⟨g,0,none⟩)
 | 1,u=>u = .pointer (some ⟨g,0,none⟩)
 | 2,u=>u = .pointer (some ⟨g,0,none⟩)
 | 3,u=>u = .pointer (some ⟨V,0,none⟩)
 | 4,u=>u = .agg #[.int .i64 q.kind,.string q.job.name,.int .i64 q.job.prio,.int .i64 q.job.need,.int .i64 q.job.tries,.string q.job.tag,.string q.node.name,.int .i64 q.node.room,.string q.node.zone,.string q.lease.job,.string q.lease.node,.int .i64 q.lease.till,.string q.name,.int .i64 q.n]
 | 5,u=>γ.set=true∧u = .tuple #[.agg #[.int .i64 E,.int .i64 rev],.agg #[.int .i64 D.from_,.int .i64 D.to_,.slice γ.dx.aj γ.dx.nj γ.dx.cj,.slice γ.dx.an γ.dx.nn γ.dx.cn,.slice γ.dx.al γ.dx.nl γ.dx.cl,.slice γ.dx.agj γ.dx.ngj γ.dx.cgj,.slice γ.dx.agn γ.dx.ngn γ.dx.cgn,.slice γ.dx.agl γ.dx.ngl γ.dx.cgl],.bool ch]
 | 6,u=>γ.set=true∧u = .tuple #[.agg #[.int .i64 E,.int .i64 rev],.agg #[.int .i64 D.from_,.int .i64 D.to_,.slice γ.dx.aj γ.dx.nj γ.dx.cj,.slice γ.dx.an γ.dx.nn γ.dx.cn,.slice γ.dx.al γ.dx.nl γ.dx.cl,.slice γ.dx.agj γ.dx.ngj γ.dx.cgj,.slice γ.dx.agn γ.dx.ngn γ.dx.cgn,.slice γ.dx.agl γ.dx.ngl γ.dx.cgl],.bool ch]
 | 7,u=>u = .agg #[.int .i64 E,.int .i64 rev]
 | 8,u=>γ.set=true∧u = .agg #[.int .i64 D.from_,.int .i64 D.to_,.slice γ.dx.aj γ.dx.nj γ.dx.cj,.slice γ.dx.an γ.dx.nn γ.dx.cn,.slice γ.dx.al γ.dx.nl γ.dx.cl,.slice γ.dx.agj γ.dx.ngj γ.dx.cgj,.slice γ.dx.agn γ.dx.ngn γ.dx.cgn,.slice γ.dx.agl γ.dx.ngl γ.dx.cgl]
 | 9,u=>u = .bool ch
 | 10,u=>∃ r,γ.R=some r∧u = .pointer (some ⟨r,0,none⟩)
 | 11,u=>∃ d,γ.D=some d∧u = .pointer (some ⟨d,0,none⟩)
 | 14,u=>u = .bool ch
 | _,_=>True
section
variable {g V:Nat} {q:cJ} {E rev:Int} {D:aK} {ch:Bool} {γ:FrG}
theorem NG (hs:γ.set=false) (dx:eW) (x:StA):∀ j v,j≠5→frV g V q E rev D ch γ j v→frV g V q E rev D ch { γ with set:=true,dx:=dx,x:=x } j v:=by
 intro j v hj h
 unfold frV at *
 split at h
 all_goals first | exact h | exact absurd rfl hj | (rw [hs] at h; exact absurd h.1 (by decide))
theorem QU (r:Nat):∀ j v,j≠10→frV g V q E rev D ch γ j v→frV g V q E rev D ch { γ with R:=some r } j v:=by
 intro j v hj h
 unfold frV at *
 split at h
 all_goals first | exact h | exact absurd rfl hj
theorem QV (r:Nat):∀ j v,j≠11→frV g V q E rev D ch γ j v→frV g V q E rev D ch { γ with D:=some r } j v:=by
 intro j v hj h
 unfold frV at *
 split at h
 all_goals first | exact h | exact absurd rfl hj
end
def rC (E rev:Int) (p:Nat):Array Value:=if p<2 then #[.int .i64 0,.int .i64 0] else #[.int .i64 E,.int .i64 rev]
def deC (D:aK) (dx:eW) (p:Nat):Array Value:=if p<3 then nQ else dC D dx
theorem NH (E rev:Int) (p:Nat):jF (rC E rev p):=by
 unfold rC; split
 · exact sW 0 0
 · exact sW E rev
theorem Lr (D:aK) (dx:eW) (p:Nat):jF (deC D dx p):=by
 unfold deC; split
 · exact yc zD zA
 · exact yc D dx
structure mA (w0:World) (g V:Nat) (fb:Nat→Nat) (wv:Nat→Value) (H:gZ) (x0:StA) (Q:Nat) (q:cJ) (S:DE) (D:aK) (p:Nat) (γ:FrG) (w:World):Prop where
 tw:dN g V fb wv wv w0 w
 h0:p=0→γ.set=false∧cC w g V fb wv H.cs H.st x0 H.now
 h1:1≤p→cC w g V fb wv H.cs S.st γ.x S.now∧dM w w.heap.size D γ.dx
 q:Blk w Q 65 (eM q)
 r:∀ r,γ.R=some r→w0.heap.size≤r∧Blk w r 224 (rC S.e S.st.rev p)
 d:∀ d,γ.D=some d→w0.heap.size≤d∧Blk w d 48 (deC D γ.dx p)
section
variable {w0 w w':World} {g V:Nat} {fb:Nat→Nat} {wv:Nat→Value} {H:gZ} {x0:StA} {Q:Nat} {q:cJ} {S:DE} {D:aK} {p:Nat} {γ:FrG}
theorem Ls (D:aK) (dx dx':eW) {p:Nat} (hp:p<3):deC D dx p=deC D dx' 1:=by unfold deC; rw [if_pos hp,if_pos (by decide)]
theorem QW (E rev:Int) {p:Nat} (hp:p<2):rC E rev p=rC E rev 1:=by unfold rC; rw [if_pos hp,if_pos (by decide)]
theorem mA.drew (h:mA w0 g V fb wv H x0 Q q S D p γ w):mA w0 g V fb wv H x0 Q q S D p γ w.drew:=by
 have hb:Below w.heap.size w w.drew:=(Below.refl _ _).drew
 exact⟨h.tw.below_ hb,fun e=>⟨(h.h0 e).1,(h.h0 e).2.below hb⟩,fun e=>⟨(h.h1 e).1.below hb,(h.h1 e).2.upS hb⟩,h.q,h.r,h.d⟩
theorem mA.c0 (h:mA w0 g V fb wv H x0 Q q S D p γ w):w.cell? ⟨g,0,none⟩=some (.pointer (some ⟨V,0,none⟩)):=by
 rcases Nat.eq_zero_or_pos p with e | e
 · rw [(h.h0 e).2.blk.cell]; exact uZ
 · rw [(h.h1 e).1.blk.cell]; exact uZ
theorem mA.PP (h:mA w0 g V fb wv H x0 Q q S D p γ w) (hp:p<2):mA w0 g V fb wv H x0 Q q S D p { γ with R:=some w.heap.size } (w.alloc (.cells #[.int .i64 0,.int .i64 0] 224)):=by
 have hb:Below w.heap.size w (w.alloc (.cells #[.int .i64 0,.int .i64 0] 224)):=(Below.refl _ _).alloc (Nat.le_refl _) _
 refine⟨h.tw.below_ hb,fun e=>⟨(h.h0 e).1,(h.h0 e).2.below hb⟩,fun e=>⟨(h.h1 e).1.below hb,(h.h1 e).2.upS hb⟩,h.q.below hb h.q.lt,fun r hr=>?_,fun d hd=>⟨(h.d d hd).1,(h.d d hd).2.below hb (h.d d hd).2.lt⟩⟩
 injection hr with hr
 subst hr
 refine⟨h.tw.gr.size,?_⟩
 unfold rC
 rw [if_pos hp]
 exact heap_alloc_new w _
theorem mA.PQ (h:mA w0 g V fb wv H x0 Q q S D p γ w) (hp:p<3):mA w0 g V fb wv H x0 Q q S D p { γ with D:=some w.heap.size } (w.alloc (.cells nQ 48)):=by
 have hb:Below w.heap.size w (w.alloc (.cells nQ 48)):=(Below.refl _ _).alloc (Nat.le_refl _) _
 refine⟨h.tw.below_ hb,fun e=>⟨(h.h0 e).1,(h.h0 e).2.below hb⟩,fun e=>⟨(h.h1 e).1.below hb,(h.h1 e).2.upS hb⟩,h.q.below hb h.q.lt,fun r hr=>⟨(h.r r hr).1,(h.r r hr).2.below hb (h.r r hr).2.lt⟩,fun d hd=>?_⟩
 injection hd with hd
 subst hd
 refine⟨h.tw.gr.size,?_⟩
 unfold deC
 rw [if_pos hp]
 exact heap_alloc_new w _
theorem mA.asked (h:mA w0 g V fb wv H x0 Q q S D 0 γ w) {dx:eW} {x':StA} (hd:dM w' w'.heap.size D dx) (hb:Blk w' V 215 (AQ S.st x' S.now)) (hs:StAt w' w'.heap.size S.st x') (hc:ay S.st=0) (ht:0≤S.now∧S.now≤1099511627776) (hg:w.grownBy w' (some V)) :
 mA w0 g V fb wv H x0 Q q S D 1 { γ with set:=true,dx:=dx,x:=x' } w':=by
 obtain⟨_,h2⟩:=h.h0 rfl
 obtain⟨h3,h4⟩:=h2.asked hg hb hs hc ht
 refine⟨h.tw.gr_ h4,fun e=>absurd e (by decide),fun _=>⟨h3,hd⟩,aA hg h.q (bE h.q h2.srv.blk (by decide)),fun r hr=>⟨(h.r r hr).1,?_⟩,fun d hd'=>⟨(h.d d hd').1,?_⟩⟩
 · rw [← QW S.e S.st.rev (p:=0) (by decide)]; exact aA hg (h.r r hr).2 (bE (h.r r hr).2 h2.srv.blk (by decide))
 · rw [← Ls D γ.dx dx (p:=0) (by decide)]; exact aA hg (h.d d hd').2 (bE (h.d d hd').2 h2.srv.blk (by decide))
theorem mA.PA (h:mA w0 g V fb wv H x0 Q q S D 1 γ w) {r:Nat} (hr:γ.R=some r) (hg:w.grownBy w' (some r)) (hb:Blk w' r 224 #[.int .i64 S.e,.int .i64 S.st.rev]):mA w0 g V fb wv H x0 Q q S D 2 γ w':=by
 obtain⟨h1,h2⟩:=h.r r hr
 obtain⟨h3,h4⟩:=h.h1 (Nat.le_refl _)
 have hn:=NH S.e S.st.rev 1
 refine⟨h.tw.new hg h1,fun e=>absurd e (by decide),fun _=>⟨h3.other h2 hn (by decide) (by decide) (by decide) (by decide) hg,(h4.jk h2 hn hg).more hg.size⟩,aA hg h.q (bE h.q h2 (by decide)),fun r' hr'=>?_,fun d hd=>⟨(h.d d hd).1,?_⟩⟩
 · rw [hr] at hr'
   injection hr' with hr'
   subst hr'
   exact⟨h1,hb⟩
 · rw [Ls D γ.dx γ.dx (p:=2) (by decide)]; exact aA hg (h.d d hd).2 (bE (h.d d hd).2 h2 (by decide))
theorem mA.PB (h:mA w0 g V fb wv H x0 Q q S D 2 γ w) {d:Nat} (hd:γ.D=some d) (hg:w.grownBy w' (some d)) (hb:Blk w' d 48 (dC D γ.dx)):mA w0 g V fb wv H x0 Q q S D 3 γ w':=by
 obtain⟨h1,h2⟩:=h.d d hd
 obtain⟨h3,h4⟩:=h.h1 (by decide)
 have hn:=Lr D γ.dx 2
 refine⟨h.tw.new hg h1,fun e=>absurd e (by decide),fun _=>⟨h3.other h2 hn (by decide) (by decide) (by decide) (by decide) hg,(h4.jk h2 hn hg).more hg.size⟩,aA hg h.q (bE h.q h2 (by decide)),fun r hr=>⟨(h.r r hr).1,aA hg (h.r r hr).2 (bE (h.r r hr).2 h2 (by decide))⟩,fun d' hd'=>?_⟩
 rw [hd] at hd'
 injection hd' with hd'
 subst hd'
 exact⟨h1,hb⟩
end
theorem cC.Lt {w:World} {g V b:Nat} {fb:Nat→Nat} {wv:Nat→Value} {cs:Nat→cu} {st:ah} {x:StA} {now:Int} {t:TypeId} {c:Array Value} (h:cC w g V fb wv cs st x now) (hb:Blk w b t c) (h1:t ≠ 123) (h2:t ≠ 215) (h3:t ≠ 74) (h4:t ≠ 5):¬ sE g V fb wv b:=by
 rintro (e | e | ⟨i,hi,e | e⟩)
 · exact bE hb h.blk h1 e
 · exact bE hb h.srv.blk h2 e
 · exact bE hb (h.feed i hi) h3 e
 · obtain⟨c',h5,_⟩:=(h.wait i hi).blk e
   exact h4 (yB hb h5)
theorem Lu {st:ah} {now:Int} {q:cJ} (h:mZ q):(qp st now (pR st now q)).ch=false:=by
 have hd:doR st now q=(0,st,now):=by
  unfold mZ at h
  unfold doR
  rw [if_neg (by omega),if_neg (by omega),if_neg (by omega),if_neg (by omega),if_neg (by omega),if_neg (by omega),if_neg (by omega)]
 unfold pR
 by_cases h0:kB q=0
 · rw [if_pos h0,hd]
   unfold qp
   rw [if_pos rfl,if_pos ⟨rfl,rfl,rfl⟩]
 · rw [if_neg h0]
   unfold qp
   rw [if_neg h0]
theorem dM.grew {w w':World} {D:aK} {dx:eW} (h:dM w w.heap.size D dx) {v v':Value} {l:List UInt8} (hr:ByteRow w v l) (hg:dE w w' v v'):dM w' w'.heap.size D dx:=by
 cases hv:v.ownBlock with
 | none=>
  have:=hg.grown
  rw [hv] at this
  exact h.upS ⟨this.os,this.tape,this.output,this.size,fun k hk=>this.block k hk (by simp)⟩
 | some b=>
  obtain⟨c,h1,h2⟩:=hr.blk hv
  have:=hg.grown
  rw [hv] at this
  exact (h.jk h1 h2 this).more this.size
theorem gT.del {g V k:Nat} {fb:Nat→Nat} {wv:Nat→Value} {cs:Nat→cu} {st:ah} {x:StA} {now:Int} {w w':World} {e:Ending} {L:List UInt8} {D:aK} {dx:eW} (hp:gT g (1+k*4+3) (wv k) L w e w') (h:cC w g V fb wv cs st x now) (hk:k<8) (hd:dM w w.heap.size D dx):dM w' w'.heap.size D dx:=by
 obtain⟨_,w1,v',h2,h3,rfl⟩:=hp
 have hset:=aC w1 g (1+k*4+3) v'
 exact ((hd.grew (h.wait k hk) h3).jk (qB h.blk (by decide) (h.wait k hk) h3) h.Fl hset).more hset.size
theorem Lv (tl:ah→List UInt8) {g V k:Nat} {fb:Nat→Nat} {wv:Nat→Value} {H:gZ} {x:StA} {wb:World} (w:World) (pay:ByteArray) (q:cJ) (h:cC w g V fb wv H.cs H.st x H.now) (hk:k<8) (hI:nH wb w g V fb wv)
 (hrq:∀ W,Tabs W→Calls Tryz.prog 117 #[.string pay] W (oK q 0 W)) (hok:ROk q) (hdo:Lp q H.st H.now) (ht:((∀ i,i<8→(H.cs i).aL=false)∧¬ mZ q)∨uf tl) (htl:∀ st,(tl st).length≤7000) (hl:∀ i,i<8→(H.cs i).waits.length≤35184371000000) :
 Calls Tryz.prog 57 #[.pointer (some ⟨g,0,none⟩),.pointer (some ⟨g,1+k*4,none⟩),.agg #[.int .i64 3,.int .i64 3,.string pay]] w (iV g V fb wv (ng tl H k q) (.tuple #[]) w):=by
 obtain⟨W,hW⟩:∃ W,w.alloc (.cells #[.int .i64 3,.int .i64 3,.string pay] 43)=W:=⟨_,rfl⟩
 have hbW:Below w.heap.size w W:=by rw [← hW]; exact (Below.refl _ _).alloc (Nat.le_refl _) _
 have hb:Blk W w.heap.size 43 #[.int .i64 3,.int .i64 3,.string pay]:=by rw [← hW]; exact heap_alloc_new w _
 have HDc:=hid (hrq W (hI.more hbW).at_)
 have c0:W.cell? ⟨w.heap.size,0,none⟩=some (.int .i64 3):=hb.cell 0
 have c1:W.cell? ⟨w.heap.size,1,none⟩=some (.int .i64 3):=hb.cell 1
 have c2:W.cell? ⟨w.heap.size,2,none⟩=some (.string pay):=hb.cell 2
 have hlW:=hb.lt
 have HW:=hid hW
 have Hh:=hid (h.below hbW)
 have HI:=hid (hI.more hbW)
 have HT0:=hid ((dN.refl g V fb wv w).below_ hbW)
 have Hl:=hid hl
 have Ht:=hid ht
 have Htl:=hid htl
 have Hok:=hid hok
 have HIw0:=hid hI
 clear hbW hb hW h hI hrq hl ht htl hok
 go_enter Tryz.func57,Tryz.ntmps57
 go_wp2_with fail
 try simp only [HW.out]
 clear HW
 refine Calls.mono HDc.out ?_
 rintro e w2 ⟨rfl,hb2⟩
 obtain⟨w3,hw3⟩:∃ w3,w2.alloc (.cells (eM q) 65)=w3:=⟨_,rfl⟩
 have hb3:Below w2.heap.size w2 w3:=by rw [← hw3]; exact (Below.refl _ _).alloc (Nat.le_refl _) _
 have hq3:Blk w3 w2.heap.size 65 (eM q):=by rw [← hw3]; exact heap_alloc_new w2 _
 have H3:=hid ((Hh.out.below hb2).below hb3)
 have HI3:=hid ((HI.out.more hb2).more hb3)
 have HT3:=hid ((HT0.out.below_ hb2).below_ hb3)
 have Hsv:=hid H3.out.srv.ok
 obtain⟨S,hS⟩:∃ S,qp H.st H.now (pR H.st H.now q)=S:=⟨_,rfl⟩
 obtain⟨D,hD⟩:∃ D,(if S.ch=true then cF H.st S.st else zD)=D:=⟨_,rfl⟩
 have H0:=hid (show mA w3 g V fb wv H x w2.heap.size q S D 0 ⟨none,none,false,zA,x⟩ w3 from ⟨dN.refl _ _ _ _ _,fun _=>⟨rfl,H3.out⟩,fun e=>absurd e (by decide),hq3,(fun r e=>by cases e),(fun r e=>by cases e)⟩)
 have NI:=NJ (q:=q) H3.out.srv.ok H3.out.srv.t
 have HDo:=hid (fun (wx:World) (γ:FrG) (hp:mA w3 g V fb wv H x w2.heap.size q S D 0 γ wx)=>show Calls Tryz.prog 118 #[.pointer (some ⟨V,0,none⟩),.agg (Ie q)] wx (fun e w'=>∃ dx x',e = .returned (.tuple #[.agg #[.int .i64 S.e,.int .i64 S.st.rev],.agg #[.int .i64 D.from_,.int .i64 D.to_,.slice dx.aj dx.nj dx.cj,.slice dx.an dx.nn dx.cn,.slice dx.al dx.nl dx.cl,.slice dx.agj dx.ngj dx.cgj,.slice dx.agn dx.ngn dx.cgn,.slice dx.agl dx.ngl dx.cgl],.bool S.ch])∧mA w3 g V fb wv H x w2.heap.size q S D 1 { γ with set:=true,dx:=dx,x:=x' } w') from by
  refine (hdo x V wx (hp.h0 rfl).2.srv (HI3.out.to hp.tw).at_).mono ?_
  rw [hS]
  rintro e w' ⟨D',dx,x',rfl,hD',hdx,hv,hs,hg⟩
  have e1:D'=D:=hD'.trans hD
  subst e1
  rw [hS] at NI
  exact⟨dx,x',rfl,hp.asked hdx hv hs NI.1 NI.2 hg⟩)
 have Hw3:=hid (show (w2.alloc (.cells (Ie q) 65))=w3 from hw3)
 have HS:=hid hS
 have HDe:=hid hD
 have hlq3:=hq3.lt
 clear hw3 hb2 hb3 hq3 hS hD NI Hh HI HT0 HDc c0 c1 c2
 unfold gY
 unfold eM
 go_wp2_with fail
 simp only [Hw3.out]
 clear Hw3
 refine rq (Γ:=FrG) 79 (fun γ=>frV g V q S.e S.st.rev D S.ch γ) [5,12,13] (fun p γ wx=>mA w3 g V fb wv H x w2.heap.size q S D p γ wx) ⟨none,none,false,zA,x⟩ H0.out.drew ?_ ?_
 · clear H0
   refine⟨?_,?_,?_,?_,?_,?_,?_,?_,?_,?_,?_,?_,?_,?_,?_,trivial⟩
   · exact ok0 0 3 0 rfl fun _=>rfl
   · exact ok1 0 3 0 35 rfl rfl (fun _ _ h=>h) fun _=>rfl
   · exact ok1 0 3 1 36 rfl rfl (fun _ _ h=>h) fun _=>rfl
   · refine okQ 0 3 fun p γ a wx hpl hph hp hk=>?_
     obtain⟨u1,h1,rfl⟩:=hk.g 2 37 rfl rfl
     have hc:=hp.c0
     simp [go_sem,Oper.wp,execOp,Act.eval,h1,hc]
     exact⟨_,rfl,γ,fun _ _ _ h=>h,rfl,hp⟩
   · refine okQ 0 3 fun p γ a wx hpl hph hp hk=>?_
     have h1:=hk.k 6 rfl
     obtain⟨hc0,hc1,hc2,hc3,hc4,hc5,hc6,hc7,hc8,hc9,PR,PS,PT,PU⟩:=Blk.c14 (hp.q)
     simp [go_sem,Oper.wp,execOp,Act.eval,h1,hc0,hc1,hc2,hc3,hc4,hc5,hc6,hc7,hc8,hc9,PR,PS,PT,PU]
     exact⟨_,rfl,γ,fun _ _ _ h=>h,rfl,hp⟩
   · refine .inl ⟨0,rfl,fun γ a wx hp hk=>bG rfl ?_⟩
     obtain⟨u1,h1,rfl⟩:=hk.g 3 38 rfl rfl
     obtain⟨u2,h2,rfl⟩:=hk.g 4 39 rfl rfl
     simp [go_sem,Oper.wp,execOp,Act.eval,h1,h2]
     obtain⟨hs0,hA⟩:=hp.h0 rfl
     refine (HDo.out wx γ hp).mono ?_
     rintro e w' ⟨dx,x',rfl,hp'⟩
     exact⟨_,rfl,_,NG hs0 dx x',⟨rfl,rfl⟩,hp'⟩
   · refine okQ 0 3 fun p γ a wx hpl hph hp hk=>?_
     obtain⟨u1,h1,xu,rfl⟩:=hk.g 5 40 rfl rfl
     simp [go_sem,Oper.wp,execOp,Act.eval,h1]
     exact⟨_,rfl,γ,fun _ _ _ h=>h,⟨xu,rfl⟩,hp⟩
   · refine okQ 0 3 fun p γ a wx hpl hph hp hk=>?_
     obtain⟨u1,h1,xu,rfl⟩:=hk.g 6 34 rfl rfl
     simp [go_sem,Oper.wp,execOp,Act.eval,h1]
     exact⟨_,rfl,γ,fun _ _ _ h=>h,rfl,hp⟩
   · refine okQ 0 3 fun p γ a wx hpl hph hp hk=>?_
     obtain⟨u1,h1,xu,rfl⟩:=hk.g 6 34 rfl rfl
     simp [go_sem,Oper.wp,execOp,Act.eval,h1]
     exact⟨_,rfl,γ,fun _ _ _ h=>h,⟨xu,rfl⟩,hp⟩
   · refine okQ 0 3 fun p γ a wx hpl hph hp hk=>?_
     obtain⟨u1,h1,xu,rfl⟩:=hk.g 6 34 rfl rfl
     simp [go_sem,Oper.wp,execOp,Act.eval,h1]
     exact⟨_,rfl,γ,fun _ _ _ h=>h,rfl,hp⟩
   · refine okQ 0 1 fun p γ a wx hpl hph hp hk=>?_
     simp [go_sem,Oper.wp,execOp,Act.eval]
     exact⟨_,rfl,_,QU _,⟨_,rfl,rfl⟩,hp.PP (by omega)⟩
   · refine okQ 0 1 fun p γ a wx hpl hph hp hk=>?_
     simp [go_sem,Oper.wp,execOp,Act.eval]
     exact⟨_,rfl,_,QV _,⟨_,rfl,rfl⟩,hp.PQ (by omega)⟩
   · refine .inl ⟨1,rfl,fun γ a wx hp hk=>bG rfl ?_⟩
     obtain⟨u1,h1,r1,er1,rfl⟩:=hk.g 10 8 rfl rfl
     obtain⟨u2,h2,rfl⟩:=hk.g 7 41 rfl rfl
     have hB:Blk wx r1 224 #[.int .i64 0,.int .i64 0]:=(hp.r r1 er1).2
     obtain⟨z0,z1⟩:=Blk.z2 (hB)
     obtain⟨c0,c1⟩:=Blk.c2 (hB)
     have hfin:=hp.PA er1 (aO (aO (gF wx r1) 0 (.int .i64 S.e)) 1 (.int .i64 S.st.rev)) (Blk.eq ((hB.set 0 (.int .i64 S.e)).set 1 (.int .i64 S.st.rev)) rfl)
     clear hB hp
     simp [go_sem,Oper.wp,execOp,Act.eval,h1,h2,c0,c1,z0,z1]
     exact⟨.int .i64 0,γ,fun _ _ _ h=>h,trivial,hfin⟩
   · refine .inl ⟨2,rfl,fun γ a wx hp hk=>bG rfl ?_⟩
     obtain⟨u1,h1,d1,ed1,rfl⟩:=hk.g 11 9 rfl rfl
     obtain⟨u2,h2,In,rfl⟩:=hk.g 8 42 rfl rfl
     have hB:Blk wx d1 48 nQ:=(hp.d d1 ed1).2
     obtain⟨z0,z1,z2,z3,z4,z5,z6,z7⟩:=Blk.z8 (hB)
     obtain⟨c0,c1,c2,c3,c4,c5,c6,c7⟩:=Blk.c8 (hB)
     have hfin:=hp.PB ed1 (aO (aO (aO (aO (aO (aO (aO (aO (gF wx d1) 0 (.int .i64 D.from_)) 1 (.int .i64 D.to_)) 2 (.slice γ.dx.aj γ.dx.nj γ.dx.cj)) 3 (.slice γ.dx.an γ.dx.nn γ.dx.cn)) 4 (.slice γ.dx.al γ.dx.nl γ.dx.cl)) 5 (.slice γ.dx.agj γ.dx.ngj γ.dx.cgj)) 6 (.slice γ.dx.agn γ.dx.ngn γ.dx.cgn)) 7 (.slice γ.dx.agl γ.dx.ngl γ.dx.cgl)) (Blk.eq ((((((((hB.set 0 (.int .i64 D.from_)).set 1 (.int .i64 D.to_)).set 2 (.slice γ.dx.aj γ.dx.nj γ.dx.cj)).set 3 (.slice γ.dx.an γ.dx.nn γ.dx.cn)).set 4 (.slice γ.dx.al γ.dx.nl γ.dx.cl)).set 5 (.slice γ.dx.agj γ.dx.ngj γ.dx.cgj)).set 6 (.slice γ.dx.agn γ.dx.ngn γ.dx.cgn)).set 7 (.slice γ.dx.agl γ.dx.ngl γ.dx.cgl)) rfl)
     clear hB hp
     simp [go_sem,Oper.wp,execOp,Act.eval,h1,h2,c0,c1,c2,c3,c4,c5,c6,c7,z0,z1,z2,z3,z4,z5,z6,z7]
     exact⟨.int .i64 0,γ,fun _ _ _ h=>h,trivial,hfin⟩
   · exact ok1 0 3 9 43 rfl rfl (fun _ _ h=>h) fun _=>rfl
 intro γ a wy hd
 have hph:=hd.ph
 obtain⟨fv,rfl,hfv⟩:=hd.frame [35,36,37,38,39,40,34,41,42,43,8,9,10] rfl
 obtain⟨R,eR,h8⟩:=hfv 10 _ 8 rfl rfl
 obtain⟨DD,eD,h9⟩:=hfv 11 _ 9 rfl rfl
 have h10:fv 10 = .bool S.ch:=hfv 14 _ 10 rfl rfl
 clear hd hfv H0 HDo
 simp only [foldl_cons,foldl_nil,setIfInBounds_toArray,set_cons_succ,set_cons_zero,h8,h9,h10]
 clear h8 h9 h10
 obtain⟨hA,hdl⟩:=hph.h1 (by decide)
 have hrb:Blk wy R 224 #[.int .i64 S.e,.int .i64 S.st.rev]:=(hph.r R eR).2
 have hdb:Blk wy DD 48 (dC D γ.dx):=(hph.d DD eD).2
 have hqb:=hph.q
 have HTy:=hid (HT3.out.trans hph.tw)
 have HR:=hid (zy g (1+k*4) 123 _ (wv k) _ S.e S.st.rev wy hA.blk (by decide) (iB hk) (hA.wait k hk) (by have:=Hl.out k hk; omega))
 obtain⟨r0,r1⟩:=Blk.c2 (hrb)
 have hlr:=hrb.lt
 have HA:=hid hA
 have Hdl:=hid hdl
 have Hrb:=hid hrb
 have Hdb:=hid hdb
 have Hqb:=hid hqb
 clear hph hA hdl hrb hdb hqb H3 HT3 eR eD
 go_wp2_with fail
 refine Calls.mono HR.out ?_
 rintro e w5 hp
 have hd5:=hp.del HA.out hk Hdl.out
 obtain⟨rfl,wv5,h5,t5⟩:=hp.hub HA.out hk
 have h5:cC w5 g V fb wv5 (upd H.cs k (nY S.e S.st.rev (H.cs k))) S.st γ.x S.now:=h5
 have PV:=t5.gr.blk Hrb.out (HA.out.Lt Hrb.out (by decide) (by decide) (by decide) (by decide))
 have PW:=t5.gr.blk Hqb.out (HA.out.Lt Hqb.out (by decide) (by decide) (by decide) (by decide))
 have PX:=t5.gr.blk Hdb.out (HA.out.Lt Hdb.out (by decide) (by decide) (by decide) (by decide))
 have T5:=HTy.out.trans t5
 have HD5:=hid hd5
 have H5:=hid h5
 have HT5:=hid T5
 have HIw:nH wb w g V fb wv:=HIw0.out
 have HI5:=hid (HIw.to T5)
 have PY:=hid PV
 have D3:=hid PW
 have HDb5:=hid PX
 have hlr5:=PV.lt
 have hlq5:=PW.lt
 have hld5:=PX.lt
 have hwl:(nY S.e S.st.rev (H.cs k)).waits.length≤35184371100000:=by
  have h1:=Hl.out k hk
  have h2:=rJ 3 4 (jX S.e S.st.rev).1.data.toList (by have:=nI S.e S.st.rev; simp; omega)
  show ((H.cs k).waits ++ gB 3 4 _).length≤_
  rw [List.length_append]; omega
 have Hwl:=hid hwl
 clear hp h5 t5 PV PW PX T5 hd5 HIw hwl HR r0 r1 hlr HA Hdl Hrb Hdb Hqb HTy
 by_cases hE:S.e=0∧mZ q
 · have hTA:uf tl:=Ht.out.resolve_left (fun h=>h.2 hE.2)
   have hch:S.ch=false:=by rw [← HS.out]; exact Lu hE.2
   have hw5:ByteRow w5 (wv5 k) (nY S.e S.st.rev (H.cs k)).waits:=by have:=H5.out.wait k hk; rwa [cL] at this
   have HTl:=hid (hTA g (1+k*4) V 123 _ (wv5 k) _ S.st γ.x S.now w5 H5.out.blk (by decide) uZ (iB hk) hw5 (by have:=Hwl.out; omega) H5.out.srv HI5.out.at_)
   have r0:w5.cell? ⟨R,0,none⟩=some (.int .i64 0):=by rw [← hE.1]; exact PY.out.cell 0
   obtain⟨AC,hAC⟩:∃ AC,lW tl q S (H.cs k)=AC:=⟨_,rfl⟩
   have HAC:=hid hAC
   have HE:=hid hE
   rw [hch]
   clear hTA hw5 hAC
   rcases hE.2 with hkd | hkd
   all_goals clear hE
   · have q0:w5.cell? ⟨w2.heap.size,0,none⟩=some (.int .i64 8):=by rw [← hkd]; exact D3.out.cell 0
     have Hkd:=hid hkd
     have Hch:=hid hch
     clear hkd hch
     go_wp2_with fail
     refine Calls.mono HTl.out ?_
     rintro e w6 hp6
     obtain⟨rfl,wv6,h6,t6⟩:=hp6.hub H5.out hk
     rw [xZ] at h6
     simp only [cL] at h6
     have FT:=t6.gr.blk D3.out (H5.out.Lt D3.out (by decide) (by decide) (by decide) (by decide))
     have q6:w6.cell? ⟨w2.heap.size,0,none⟩=some (.int .i64 8):=by rw [← Hkd.out]; exact FT.cell 0
     have hlq6:=FT.lt
     have y6:w6.cell? ⟨g,1+k*4+2,none⟩=some (.bool (H.cs k).aL):=by rw [h6.blk.cell,nR hk,cL]; rfl
     have z6:w6.frozen? ⟨g,1+k*4+2,none⟩=false:=h6.blk.thaw _
     have hlg:=h6.blk.lt
     have H6:=hid h6
     have HT6:=hid (HT5.out.trans t6)
     clear hp6 h6 t6 FT HTl r0 q0
     have bJ:Hid (∀ b,b=((H.cs k).aL || decide (q.kind=9))→iV g V fb wv (ng tl H k q) (.tuple #[]) w (.returned (.tuple #[])) (w6.setCell ⟨g,1+k*4+2,none⟩ (.bool b))):=hid fun b hb=>by
      obtain⟨h7,g7⟩:=H6.out.set1 hk b
      refine⟨rfl,wv6,γ.x,?_,HT6.out.gr_ g7⟩
      unfold ng
      dsimp only
      rw [HS.out,if_neg (by rw [Hch.out]; decide)]
      dsimp only
      unfold lW
      rw [if_pos HE.out]
      subst hb
      exact h7
     cases hw:(H.cs k).aL
     all_goals
      rw [hw] at y6
      have F:=hid (bJ.out _ (by rw [hw,Hkd.out]))
      clear hw bJ
      go_wp2
      go_end0
      exact F.out
   · have q0:w5.cell? ⟨w2.heap.size,0,none⟩=some (.int .i64 9):=by rw [← hkd]; exact D3.out.cell 0
     have Hkd:=hid hkd
     have Hch:=hid hch
     clear hkd hch
     go_wp2_with fail
     refine Calls.mono HTl.out ?_
     rintro e w6 hp6
     obtain⟨rfl,wv6,h6,t6⟩:=hp6.hub H5.out hk
     rw [xZ] at h6
     simp only [cL] at h6
     have FT:=t6.gr.blk D3.out (H5.out.Lt D3.out (by decide) (by decide) (by decide) (by decide))
     have q6:w6.cell? ⟨w2.heap.size,0,none⟩=some (.int .i64 9):=by rw [← Hkd.out]; exact FT.cell 0
     have hlq6:=FT.lt
     have y6:w6.cell? ⟨g,1+k*4+2,none⟩=some (.bool (H.cs k).aL):=by rw [h6.blk.cell,nR hk,cL]; rfl
     have z6:w6.frozen? ⟨g,1+k*4+2,none⟩=false:=h6.blk.thaw _
     have hlg:=h6.blk.lt
     have H6:=hid h6
     have HT6:=hid (HT5.out.trans t6)
     clear hp6 h6 t6 FT HTl r0 q0
     have bJ:Hid (∀ b,b=((H.cs k).aL || decide (q.kind=9))→iV g V fb wv (ng tl H k q) (.tuple #[]) w (.returned (.tuple #[])) (w6.setCell ⟨g,1+k*4+2,none⟩ (.bool b))):=hid fun b hb=>by
      obtain⟨h7,g7⟩:=H6.out.set1 hk b
      refine⟨rfl,wv6,γ.x,?_,HT6.out.gr_ g7⟩
      unfold ng
      dsimp only
      rw [HS.out,if_neg (by rw [Hch.out]; decide)]
      dsimp only
      unfold lW
      rw [if_pos HE.out]
      subst hb
      exact h7
     cases hw:(H.cs k).aL
     all_goals
      rw [hw] at y6
      have F:=hid (bJ.out _ (by rw [hw,Hkd.out]))
      clear hw bJ
      go_wp2
      go_end0
      exact F.out
 · have hasks:lW tl q S (H.cs k)=nY S.e S.st.rev (H.cs k):=by unfold lW; rw [if_neg hE]
   have HAS:=hid hasks
   have HNE:=hid hE
   clear hasks hE
   have r0:w5.cell? ⟨R,0,none⟩=some (.int .i64 S.e):=PY.out.cell 0
   have q0:w5.cell? ⟨w2.heap.size,0,none⟩=some (.int .i64 q.kind):=D3.out.cell 0
   have Hno:Hid (S.ch=false→iV g V fb wv (ng tl H k q) (.tuple #[]) w (.returned (.tuple #[])) w5):=hid fun hch=>by
    refine⟨rfl,wv5,γ.x,?_,HT5.out⟩
    unfold ng
    dsimp only
    rw [HS.out,if_neg (by rw [hch]; decide),HAS.out]
    exact H5.out
   have FU:Hid (S.ch=true→Calls Tryz.prog 121 #[.pointer (some ⟨g,0,none⟩),.agg #[.int .i64 D.from_,.int .i64 D.to_,.slice γ.dx.aj γ.dx.nj γ.dx.cj,.slice γ.dx.an γ.dx.nn γ.dx.cn,.slice γ.dx.al γ.dx.nl γ.dx.cl,.slice γ.dx.agj γ.dx.ngj γ.dx.cgj,.slice γ.dx.agn γ.dx.ngn γ.dx.cgn,.slice γ.dx.agl γ.dx.ngl γ.dx.cgl]] w5 (iV g V fb wv (ng tl H k q) (.tuple #[]) w)):=hid fun hch=>by
    have hD1:cF H.st S.st=D:=by have:=HDe.out; rwa [if_pos hch] at this
    have hfr:D.from_=H.st.rev:=by rw [← hD1]; rfl
    have hrv:=aZ.1 (cP.1 Hsv.out).1
    refine (DZ tl (H:=⟨S.st,S.now,upd H.cs k (nY S.e S.st.rev (H.cs k))⟩) w5 D γ.dx H5.out HI5.out HD5.out (by omega) (by omega) ?_ ?_).mono ?_
    · rcases Ht.out with h | h
      · refine .inl fun i hi=>?_
        show (upd H.cs k _ i).aL=false
        by_cases e:i=k
        · subst e; rw [cL]; exact h.1 i hi
        · rw [upd_ne _ _ e]; exact h.1 i hi
      · exact .inr h
    · intro i hi
      show (upd H.cs k _ i).waits.length≤_
      by_cases e:i=k
      · subst e; rw [cL]; have:=Hwl.out; omega
      · rw [upd_ne _ _ e]; have:=Hl.out i hi; omega
    · rintro e w' ⟨he,wv',x',h1,h2⟩
      refine⟨he,wv',x',?_,HT5.out.trans h2⟩
      unfold ng
      dsimp only
      rw [HS.out,if_pos hch,HAS.out,hD1]
      exact h1
   clear HD5 H5 HT5 HI5 PY D3 Hwl Ht Htl Hl HDe HS HAS
   obtain⟨a0,a1,a2,a3,a4,a5,a6,a7⟩:=Blk.c8 (HDb5.out)
   clear HDb5
   obtain⟨E,hEe⟩:∃ E,S.e=E:=⟨_,rfl⟩
   obtain⟨CH,hCH⟩:∃ CH,S.ch=CH:=⟨_,rfl⟩
   obtain⟨KD,hKD⟩:∃ KD,q.kind=KD:=⟨_,rfl⟩
   rw [hCH] at Hno FU ⊢
   rw [hEe] at r0
   rw [hKD] at q0
   have hcase:(E=0∧KD≠8∧KD≠9)∨E≠0:=by
    by_cases e:E=0
    · refine .inl ⟨e,fun h=>HNE.out ⟨by rw [hEe,e],.inl (by rw [hKD,h])⟩,fun h=>HNE.out ⟨by rw [hEe,e],.inr (by rw [hKD,h])⟩⟩
    · exact .inr e
   clear hEe hCH hKD HNE
   rcases hcase with ⟨rfl,h8,h9⟩ | hne
   · have d8:(KD == 8)=false:=by simpa using h8
     have d9:(KD == 9)=false:=by simpa using h9
     clear h8 h9
     cases CH
     · have F:=hid (Hno.out rfl)
       clear Hno FU
       go_wp2
       go_end0
       exact F.out
     · have F:=hid (FU.out rfl)
       clear Hno FU
       go_wp2_with fail
       refine Calls.mono F.out ?_
       rintro e w' hp
       have P:=hid hp
       obtain⟨rfl,_⟩:=hp
       clear F
       go_wp2
       go_end0
       exact P.out
   · have d0:(E == 0)=false:=by simpa using hne
     clear hne
     cases CH
     · have F:=hid (Hno.out rfl)
       clear Hno FU
       go_wp2
       go_end0
       exact F.out
     · have F:=hid (FU.out rfl)
       clear Hno FU
       go_wp2_with fail
       refine Calls.mono F.out ?_
       rintro e w' hp
       have P:=hid hp
       obtain⟨rfl,_⟩:=hp
       clear F
       go_wp2
       go_end0
       exact P.out
end Go.Proofs.YtcpgnjmaampglaaGreatDoor
