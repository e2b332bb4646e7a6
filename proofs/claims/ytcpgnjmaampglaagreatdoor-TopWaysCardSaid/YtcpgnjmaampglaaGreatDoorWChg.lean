/- Of the proof of a statement: HubMem, Chg. -/
import Derived.Shelf.SlSortCmp.NoneTotal
import Derived.Test.YtcpgnjmaampglaaGreatDoorWPlSrv
import Derived.Test.YtcpgnjmaampglaaGreatDoorWVals
set_option linter.unusedVariables false
set_option linter.unusedSimpArgs false
set_option maxRecDepth 100000
set_option maxHeartbeats 8000000
/- A hub in memory: its block, the server, the feeds, what waits. -/
namespace Go.Proofs.YtcpgnjmaampglaaGreatDoor
open Go.Lib (hid)
open Go.RowKit
open Go.RowKit Go.Sort
structure Gr (S:Nat→Prop) (w w':World):Prop where
 os:w'.os=w.os
 tape:w'.tape=w.tape
 output:w'.output=w.output
 size:w.heap.size≤w'.heap.size
 block:∀ k,k<w.heap.size→¬ S k→w'.heap[k]? = w.heap[k]?
section
variable {S S':Nat→Prop} {w w' w'':World}
theorem Gr.refl (S:Nat→Prop) (w:World):Gr S w w:=⟨rfl,rfl,rfl,Nat.le_refl _,fun _ _ _=>rfl⟩
theorem Gr.of_below (S:Nat→Prop) (h:Below w.heap.size w w'):Gr S w w':=⟨h.os,h.tape,h.output,h.size,fun k hk _=>h.block k hk⟩
theorem Gr.lF {row:Option Nat} (h:w.grownBy w' row) (hs:∀ g,row=some g→S g):Gr S w w':=⟨h.os,h.tape,h.output,h.size,fun k hk hn=>h.block k hk (fun e=>hn (hs k e.symm))⟩
theorem Gr.trans (h:Gr S w w') (k:Gr S' w' w'') (hs:∀ b,b<w.heap.size→S' b→S b):Gr S w w'':=
 ⟨k.os.trans h.os,k.tape.trans h.tape,k.output.trans h.output,Nat.le_trans h.size k.size,fun b hb hn=>(k.block b (Nat.lt_of_lt_of_le hb h.size) (fun e=>hn (hs b hb e))).trans (h.block b hb hn)⟩
theorem Gr.below {B:Nat} (h:Gr S w w') (hs:∀ b,S b→B≤b) (hB:B≤w.heap.size):Below B w w':=⟨h.os,h.tape,h.output,h.size,fun k hk=>h.block k (by omega) (fun e=>by have:=hs k e; omega)⟩
theorem Gr.blk {k:Nat} {t:TypeId} {cs:Array Value} (h:Gr S w w') (hk:Blk w k t cs) (hn:¬ S k):Blk w' k t cs:=(h.block k hk.lt hn).trans hk
end
structure cu where
 rest:ByteArray
 far:Nat
 stuck:Nat
 closed:Bool
 aL:Bool
 waits:List UInt8
def upd {α:Type} (f:Nat→α) (k:Nat) (v:α):Nat→α:=fun i=>if i=k then v else f i
theorem cL {α:Type} (f:Nat→α) (k:Nat) (v:α):upd f k v k=v:=by unfold upd; rw [if_pos rfl]
theorem upd_ne {α:Type} (f:Nat→α) {k i:Nat} (v:α) (h:i≠k):upd f k v i=f i:=by unfold upd; rw [if_neg h]
theorem xZ {α:Type} (f:Nat→α) (k:Nat) (v v':α):upd (upd f k v) k v'=upd f k v':=by
 funext i; unfold upd; split <;> rfl
theorem qA {α:Type} (f:Nat→α) (k:Nat):upd f k (f k)=f:=by
 funext i; unfold upd; split
 · subst_vars; rfl
 · rfl
def l7 (fb:Nat) (c:cu) (v:Value):List Value:=[.pointer (some ⟨fb,0,none⟩),.bool c.closed,.bool c.aL,v]
def lG (V:Nat) (fb:Nat→Nat) (wv:Nat→Value) (cs:Nat→cu):Array Value:=
 (.pointer (some ⟨V,0,none⟩) :: (l7 (fb 0) (cs 0) (wv 0) ++ l7 (fb 1) (cs 1) (wv 1) ++ l7 (fb 2) (cs 2) (wv 2) ++ l7 (fb 3) (cs 3) (wv 3) ++ l7 (fb 4) (cs 4) (wv 4) ++ l7 (fb 5) (cs 5) (wv 5) ++ l7 (fb 6) (cs 6) (wv 6) ++ l7 (fb 7) (cs 7) (wv 7))).toArray
section
variable {V:Nat} {fb:Nat→Nat} {wv:Nat→Value} {cs:Nat→cu} {k:Nat}
theorem lt8 (h:k<8):k=0∨k=1∨k=2∨k=3∨k=4∨k=5∨k=6∨k=7:=by omega
theorem uZ:(lG V fb wv cs)[0]? = some (.pointer (some ⟨V,0,none⟩)):=rfl
theorem IR (h:k<8):(lG V fb wv cs)[1+k*4]? = some (.pointer (some ⟨fb k,0,none⟩)):=by rcases lt8 h with rfl | rfl | rfl | rfl | rfl | rfl | rfl | rfl <;> rfl
theorem lH (h:k<8):(lG V fb wv cs)[1+k*4+1]? = some (.bool (cs k).closed):=by rcases lt8 h with rfl | rfl | rfl | rfl | rfl | rfl | rfl | rfl <;> rfl
theorem nR (h:k<8):(lG V fb wv cs)[1+k*4+2]? = some (.bool (cs k).aL):=by rcases lt8 h with rfl | rfl | rfl | rfl | rfl | rfl | rfl | rfl <;> rfl
theorem iB (h:k<8):(lG V fb wv cs)[1+k*4+3]? = some (wv k):=by rcases lt8 h with rfl | rfl | rfl | rfl | rfl | rfl | rfl | rfl <;> rfl
theorem rX (h:k<8) (v:Value) (c:cu) (h1:c.closed=(cs k).closed) (h2:c.aL=(cs k).aL):(lG V fb wv cs).setIfInBounds (1+k*4+3) v=lG V fb (upd wv k v) (upd cs k c):=by
 rcases lt8 h with rfl | rfl | rfl | rfl | rfl | rfl | rfl | rfl <;> simp [lG,l7,upd,h1,h2]
theorem yA (h:k<8) (c:cu) (h2:c.aL=(cs k).aL):(lG V fb wv cs).setIfInBounds (1+k*4+1) (.bool c.closed)=lG V fb wv (upd cs k c):=by
 rcases lt8 h with rfl | rfl | rfl | rfl | rfl | rfl | rfl | rfl <;> simp [lG,l7,upd,h2]
theorem u7 (h:k<8) (c:cu) (h2:c.closed=(cs k).closed):(lG V fb wv cs).setIfInBounds (1+k*4+2) (.bool c.aL)=lG V fb wv (upd cs k c):=by
 rcases lt8 h with rfl | rfl | rfl | rfl | rfl | rfl | rfl | rfl <;> simp [lG,l7,upd,h2]
theorem IS (h:k<8) (c:cu) (h1:c.closed=(cs k).closed) (h2:c.aL=(cs k).aL):lG V fb wv cs=lG V fb wv (upd cs k c):=by
 rcases lt8 h with rfl | rfl | rfl | rfl | rfl | rfl | rfl | rfl <;> simp [lG,l7,upd,h1,h2]
theorem KB {f:Nat} {c:cu} {v u:Value} (hu:u ∈ l7 f c v):(∃ p,u = .pointer p)∨(∃ b,u = .bool b)∨u=v:=by
 simp only [l7,List.mem_cons,List.not_mem_nil,or_false] at hu
 rcases hu with rfl | rfl | rfl | rfl
 · exact .inl ⟨_,rfl⟩
 · exact .inr (.inl ⟨_,rfl⟩)
 · exact .inr (.inl ⟨_,rfl⟩)
 · exact .inr (.inr rfl)
theorem IT (hv:∀ i,i<8→∃ A n c,wv i = .slice A n c):jF (lG V fb wv cs):=mO (by
 intro u hu s e
 subst e
 simp only [lG,List.mem_toArray,List.mem_cons,List.mem_append] at hu
 have H:∀ i,i<8→(Value.string s) ∉ l7 (fb i) (cs i) (wv i):=by
  intro i hi hu
  rcases KB hu with ⟨p,h⟩ | ⟨p,h⟩ | h
  · cases h
  · cases h
  · obtain⟨A,n,c,h2⟩:=hv i hi
    rw [h2] at h; cases h
 rcases hu with h | ((((((h | h) | h) | h) | h) | h) | h) | h
 · cases h
 all_goals exact H _ (by decide) h)
end
structure cC (w:World) (g V:Nat) (fb:Nat→Nat) (wv:Nat→Value) (cs:Nat→cu) (st:ah) (x:StA) (now:Int):Prop where
 blk:Blk w g 123 (lG V fb wv cs)
 srv:SrvAt w 215 V st x now
 feed:∀ i,i<8→gX w (fb i) (cs i).rest ((cs i).far:Int) ((cs i).stuck:Int)
 wait:∀ i,i<8→ByteRow w (wv i) (cs i).waits
 fbi:∀ i j,i<8→j<8→fb i=fb j→i=j
 wvi:∀ i j b,i<8→j<8→(wv i).ownBlock=some b→(wv j).ownBlock=some b→i=j
def sE (g V:Nat) (fb:Nat→Nat) (wv:Nat→Value) (k:Nat):Prop:=k=g∨k=V∨∃ i,i<8∧(k=fb i∨(wv i).ownBlock=some k)
theorem yB {w:World} {g:Nat} {t t':TypeId} {cs cs':Array Value} (h:Blk w g t cs) (h':Blk w g t' cs'):t=t':=by
 unfold Blk at h h'
 rw [h] at h'
 simp only [Option.some.injEq,Obj.cells.injEq] at h'
 exact h'.2.1
theorem bE {w:World} {g g':Nat} {t t':TypeId} {cs cs':Array Value} (h:Blk w g t cs) (h':Blk w g' t' cs') (ht:t≠t'):g≠g':=fun e=>by subst e; exact ht (yB h h')
section
variable {w w':World} {g V k:Nat} {fb:Nat→Nat} {wv:Nat→Value} {cs:Nat→cu} {st:ah} {x:StA} {now:Int}
theorem cC.below (h:cC w g V fb wv cs st x now) (hb:Below w.heap.size w w'):cC w' g V fb wv cs st x now:=
 ⟨h.blk.below hb h.blk.lt,h.srv.below hb,fun i hi=>Blk.below (h.feed i hi) hb (Blk.lt (h.feed i hi)),fun i hi=>(h.wait i hi).keep fun b hb'=>hb.block b (by obtain⟨c,h1,_⟩:=(h.wait i hi).blk hb'; exact h1.lt),h.fbi,h.wvi⟩
theorem cC.Fl (h:cC w g V fb wv cs st x now):jF (lG V fb wv cs):=IT fun i hi=>by obtain⟨A,c,e⟩:=(h.wait i hi).shape; exact⟨_,_,_,e⟩
theorem StAt.grew (h:StAt w w.heap.size st x) {v v':Value} {l:List UInt8} (hr:ByteRow w v l) (hg:dE w w' v v'):StAt w' w'.heap.size st x:=by
 cases hv:v.ownBlock with
 | none=>
  have:=hg.grown
  rw [hv] at this
  exact h.upS ⟨this.os,this.tape,this.output,this.size,fun k hk=>this.block k hk (by simp)⟩
 | some b=>
  obtain⟨c,h1,h2⟩:=hr.blk hv
  have:=hg.grown
  rw [hv] at this
  exact (h.jk h1 h2 this).more this.size
theorem qB {b:Nat} {t:TypeId} {c:Array Value} (h:Blk w b t c) (ht:t ≠ 5) {v v':Value} {l:List UInt8} (hr:ByteRow w v l) (hg:dE w w' v v'):Blk w' b t c:=
 (hg.grown.block b h.lt (fun e=>by obtain⟨c',h1,_⟩:=hr.blk e.symm; exact ht (yB h h1))).trans h
theorem cC.put (h:cC w g V fb wv cs st x now) (hk:k<8) {v':Value} {l':List UInt8} {w1:World} (hg:dE w w1 (wv k) v') (hr:ByteRow w1 v' l') :
 cC (w1.setCell ⟨g,1+k*4+3,none⟩ v') g V fb (upd wv k v') (upd cs k { cs k with waits:=l' }) st x now∧Blk w1 g 123 (lG V fb wv cs)∧Gr (sE g V fb wv) w (w1.setCell ⟨g,1+k*4+3,none⟩ v'):=by
 have hw:=h.wait k hk
 have b1:=qB h.blk (by decide) hw hg
 have b2:=qB h.srv.blk (by decide) hw hg
 have s1:=h.srv.at_.grew hw hg
 have hgV:g≠V:=bE h.blk h.srv.blk (by decide)
 have hset:=aC w1 g (1+k*4+3) v'
 have hn:=h.Fl
 have hgb:∀ b c,Blk w1 b 5 c→b≠g:=fun b c hb=>(bE b1 hb (by decide)).symm
 have hcs:∀ i,i≠k→upd cs k { cs k with waits:=l' } i=cs i:=fun i hi=>upd_ne _ _ hi
 have hwv:∀ i,i≠k→upd wv k v' i=wv i:=fun i hi=>upd_ne _ _ hi
 refine⟨⟨?_,⟨aA hset b2 hgV.symm,(s1.jk b1 hn hset).more hset.size,h.srv.ok,h.srv.t⟩,fun i hi=>?_,fun i hi=>?_,h.fbi,fun i j b hi hj h1 h2=>?_⟩,b1,?_⟩
 · rw [← rX hk v' { cs k with waits:=l' } rfl rfl]
   exact b1.set _ _
 · have hf:=qB (h.feed i hi) (by decide) hw hg
   have hf':gX (w1.setCell ⟨g,1+k*4+3,none⟩ v') (fb i) (cs i).rest ((cs i).far:Int) ((cs i).stuck:Int):=aA hset hf (bE hf b1 (by decide))
   by_cases e:i=k
   · subst e; rw [cL]; exact hf'
   · rw [hcs i e]; exact hf'
 · by_cases e:i=k
   · subst e
     rw [cL,cL]
     exact hr.keep fun b hb=>hset.block b (by obtain⟨c,h1,_⟩:=hr.blk hb; exact h1.lt) (fun e=>by obtain⟨c,h1,_⟩:=hr.blk hb; injection e with e; exact hgb b c h1 e)
   · rw [hcs i e,hwv i e]
     refine (h.wait i hi).keep fun b hb=>?_
     obtain⟨c,h1,_⟩:=(h.wait i hi).blk hb
     have e1:=hg.grown.block b h1.lt (fun e'=>e (h.wvi i k b hi hk hb e'.symm))
     have h1':Blk w1 b 5 c:=e1.trans h1
     exact (hset.block b h1'.lt (fun e=>by injection e with e; exact hgb b c h1' e)).trans e1
 · have key:∀ i,i<8→i≠k→(wv i).ownBlock=some b→v'.ownBlock=some b→False:=by
    intro i hi hik h1 h2
    rcases hg.own with e | ⟨q,e,hq⟩
    · rw [e] at h2; exact hik (h.wvi i k b hi hk h1 h2)
    · rw [e] at h2
      injection h2 with h2
      subst h2
      obtain⟨c,h3,_⟩:=(h.wait i hi).blk h1
      exact absurd h3.lt (by omega)
   by_cases ei:i=k
   · by_cases ej:j=k
     · omega
     · subst ei; rw [cL] at h1; rw [hwv j ej] at h2; exact absurd (key j hj ej h2 h1) id
   · by_cases ej:j=k
     · subst ej; rw [cL] at h2; rw [hwv i ei] at h1; exact absurd (key i hi ei h1 h2) id
     · rw [hwv i ei] at h1; rw [hwv j ej] at h2; exact h.wvi i j b hi hj h1 h2
 · exact (Gr.lF (S:=sE g V fb wv) hg.grown fun b e=>.inr (.inr ⟨k,hk,.inr e⟩)).trans (Gr.lF (S:=sE g V fb wv) hset fun b e=>by injection e with e; exact .inl e.symm) fun _ _ h=>h
theorem cC.cell (h:cC w g V fb wv cs st x now) (hk:k<8) {j:Nat} {u:Value} {c:cu} {v:Value} (hc:(lG V fb wv cs).setIfInBounds j u=lG V fb (upd wv k v) (upd cs k c)) (h1:c.rest=(cs k).rest) (h2:c.far=(cs k).far) (h3:c.stuck=(cs k).stuck) (hv:(v=wv k∧c.waits=(cs k).waits)∨(v = .slice none 0 0∧c.waits=[])) :
 cC (w.setCell ⟨g,j,none⟩ u) g V fb (upd wv k v) (upd cs k c) st x now∧Gr (sE g V fb wv) w (w.setCell ⟨g,j,none⟩ u):=by
 have hset:=aC w g j u
 have hgV:g≠V:=bE h.blk h.srv.blk (by decide)
 have keep:∀ i,i<8→ByteRow (w.setCell ⟨g,j,none⟩ u) (wv i) (cs i).waits:=fun i hi=>(h.wait i hi).keep fun b hb=>by
  obtain⟨c,h4,_⟩:=(h.wait i hi).blk hb
  exact hset.block b h4.lt (fun e=>by injection e with e; exact bE h.blk h4 (by decide) e.symm)
 refine⟨⟨?_,⟨aA hset h.srv.blk hgV.symm,(h.srv.at_.jk h.blk h.Fl hset).more hset.size,h.srv.ok,h.srv.t⟩,fun i hi=>?_,fun i hi=>?_,h.fbi,fun i j b hi hj h4 h5=>?_⟩,Gr.lF hset fun b e=>by injection e with e; exact .inl e.symm⟩
 · rw [← hc]; exact h.blk.set _ _
 · have hf:gX (w.setCell ⟨g,j,none⟩ u) (fb i) (cs i).rest ((cs i).far:Int) ((cs i).stuck:Int):=aA hset (h.feed i hi) (bE (h.feed i hi) h.blk (by decide))
   by_cases e:i=k
   · subst e; rw [cL,h1,h2,h3]; exact hf
   · rw [upd_ne _ _ e]; exact hf
 · by_cases e:i=k
   · subst e
     rw [cL,cL]
     rcases hv with ⟨rfl,e⟩ | ⟨rfl,e⟩
     · rw [e]; exact keep i hi
     · rw [e]; exact .nil _
   · rw [upd_ne _ _ e,upd_ne _ _ e]; exact keep i hi
 · have key:∀ i,(upd wv k v i).ownBlock=some b→(wv i).ownBlock=some b:=by
    intro i h6
    by_cases e:i=k
    · subst e
      rw [cL] at h6
      rcases hv with ⟨rfl,_⟩ | ⟨rfl,_⟩
      · exact h6
      · cases h6
    · rw [upd_ne _ _ e] at h6; exact h6
   exact h.wvi i j b hi hj (key i h4) (key j h5)
theorem cC.pushed (h:cC w g V fb wv cs st x now) (hk:k<8) {c:cu} (hg:w.grownBy w' (some (fb k))) (hf:gX w' (fb k) c.rest (c.far:Int) (c.stuck:Int)) (h1:c.closed=(cs k).closed) (h2:c.aL=(cs k).aL) (h3:c.waits=(cs k).waits) :
 cC w' g V fb wv (upd cs k c) st x now∧Gr (sE g V fb wv) w w':=by
 have hgF:g≠fb k:=bE h.blk (h.feed k hk) (by decide)
 have hVF:V≠fb k:=bE h.srv.blk (h.feed k hk) (by decide)
 refine⟨⟨?_,⟨aA hg h.srv.blk hVF,(h.srv.at_.tL (h.feed k hk) hg).more hg.size,h.srv.ok,h.srv.t⟩,fun i hi=>?_,fun i hi=>?_,h.fbi,h.wvi⟩,Gr.lF hg fun b e=>by injection e with e; exact .inr (.inr ⟨k,hk,.inl e.symm⟩)⟩
 · rw [← IS hk c h1 h2]; exact aA hg h.blk hgF
 · by_cases e:i=k
   · subst e; rw [cL]; exact hf
   · rw [upd_ne _ _ e]; exact aA hg (h.feed i hi) (fun e'=>e (h.fbi i k hi hk e'))
 · have:(upd cs k c i).waits=(cs i).waits:=by
    by_cases e:i=k
    · subst e; rw [cL]; exact h3
    · rw [upd_ne _ _ e]
   rw [this]
   refine (h.wait i hi).keep fun b hb=>?_
   obtain⟨c,h4,_⟩:=(h.wait i hi).blk hb
   exact hg.block b h4.lt (fun e=>by injection e with e; exact bE (h.feed k hk) h4 (by decide) e.symm)
theorem cC.asked (h:cC w g V fb wv cs st x now) {st':ah} {x':StA} {now':Int} (hg:w.grownBy w' (some V)) (hb:Blk w' V 215 (AQ st' x' now')) (hs:StAt w' w'.heap.size st' x') (hc:ay st'=0) (ht:0≤now'∧now'≤1099511627776) :
 cC w' g V fb wv cs st' x' now'∧Gr (sE g V fb wv) w w':=by
 have hgV:g≠V:=bE h.blk h.srv.blk (by decide)
 refine⟨⟨aA hg h.blk hgV,⟨hb,hs,hc,ht⟩,fun i hi=>aA hg (h.feed i hi) (bE (h.feed i hi) h.srv.blk (by decide)),fun i hi=>?_,h.fbi,h.wvi⟩,Gr.lF hg fun b e=>by injection e with e; exact .inr (.inl e.symm)⟩
 refine (h.wait i hi).keep fun b hb=>?_
 obtain⟨c,h4,_⟩:=(h.wait i hi).blk hb
 exact hg.block b h4.lt (fun e=>by injection e with e; exact bE h.srv.blk h4 (by decide) e.symm)
end
structure dN (g V:Nat) (fb:Nat→Nat) (wv wv':Nat→Value) (w w':World):Prop where
 gr:Gr (sE g V fb wv) w w'
 own:∀ i,i<8→(wv' i).ownBlock=none∨(wv' i).ownBlock=(wv i).ownBlock∨∃ b,(wv' i).ownBlock=some b∧w.heap.size≤b
section
variable {g V:Nat} {fb:Nat→Nat} {wv wv' wv'':Nat→Value} {w w' w'':World}
theorem dN.refl (g V:Nat) (fb:Nat→Nat) (wv:Nat→Value) (w:World):dN g V fb wv wv w w:=⟨Gr.refl _ _,fun _ _=>.inr (.inl rfl)⟩
theorem dN.trans (h:dN g V fb wv wv' w w') (k:dN g V fb wv' wv'' w' w''):dN g V fb wv wv'' w w'':=by
 refine⟨h.gr.trans k.gr fun b hb hs=>?_,fun i hi=>?_⟩
 · rcases hs with e | e | ⟨i,hi,e | e⟩
   · exact .inl e
   · exact .inr (.inl e)
   · exact .inr (.inr ⟨i,hi,.inl e⟩)
   · rcases h.own i hi with h1 | h1 | ⟨q,h1,h2⟩
     · rw [h1] at e; cases e
     · rw [h1] at e; exact .inr (.inr ⟨i,hi,.inr e⟩)
     · rw [h1] at e; injection e with e; omega
 · rcases k.own i hi with h1 | h1 | ⟨q,h1,h2⟩
   · exact .inl h1
   · rw [h1]; exact h.own i hi
   · exact .inr (.inr ⟨q,h1,Nat.le_trans h.gr.size h2⟩)
theorem dN.below_ (h:dN g V fb wv wv' w w') (hb:Below w'.heap.size w' w''):dN g V fb wv wv' w w'':=h.trans ⟨Gr.of_below _ hb,fun _ _=>.inr (.inl rfl)⟩
end
instance:Inhabited aB:=⟨⟨⟨#[]⟩,0,0,0,⟨#[]⟩⟩⟩
instance:Inhabited av:=⟨⟨⟨#[]⟩,0,⟨#[]⟩⟩⟩
instance:Inhabited ak:=⟨⟨⟨#[]⟩,⟨#[]⟩,0⟩⟩
theorem nT (a b:ByteArray) (w:World):Calls Tryz.prog 107 #[.string a,.string b] w fun e w'=>e = .returned (.int .i64 (oq a b))∧∃ q os',w'=grow (w.drewN q) os':=
 (wR a b w).mono fun _ _ ⟨he,hw⟩=>⟨he,0,#[],by rw [grow_empty]; exact hw.symm⟩
def x9 {α:Type} (T:TypeId) (sz:Nat) (enc:α→List Value) (l:List α) (w:World) (e:Ending) (w':World):Prop:=
 ∃ A c,e = .returned (.slice A l.length c)∧w'.ownsRow w.heap.size T sz (.slice A l.length c) l.length (au enc l)∧Below w.heap.size w w'
theorem Cd (name:ByteArray) (prio:Int) (need:Int) (tries:Int) (tag:ByteArray) (w:World):Calls Tryz.prog 49 #[.agg #[.string name,.int .i64 prio,.int .i64 need,.int .i64 tries,.string tag]] w fun e w'=>e = .returned (.string name)∧∃ q os',w'=grow (w.drewN q) os':=by
 go_enter Tryz.func49,Tryz.ntmps49
 go_wp2
 go_ret
 exact⟨rfl,0,_,by rw [alloc_eq_grow]; rfl⟩
theorem AR (name:ByteArray) (room:Int) (zone:ByteArray) (w:World):Calls Tryz.prog 51 #[.agg #[.string name,.int .i64 room,.string zone]] w fun e w'=>e = .returned (.string name)∧∃ q os',w'=grow (w.drewN q) os':=by
 go_enter Tryz.func51,Tryz.ntmps51
 go_wp2
 go_ret
 exact⟨rfl,0,_,by rw [alloc_eq_grow]; rfl⟩
theorem yC (job:ByteArray) (node:ByteArray) (till:Int) (w:World):Calls Tryz.prog 53 #[.agg #[.string job,.string node,.int .i64 till]] w fun e w'=>e = .returned (.string job)∧∃ q os',w'=grow (w.drewN q) os':=by
 go_enter Tryz.func53,Tryz.ntmps53
 go_wp2
 go_ret
 exact⟨rfl,0,_,by rw [alloc_eq_grow]; rfl⟩
theorem pE :
 (∀ (fL:ByteArray) (ou:Int) (ow:Int) (kF:Int) (vg:ByteArray) (dO:ByteArray) (lI:Int) (lJ:Int) (iC:Int) (qC:ByteArray) (kb:Nat) (w:World) (hk:w.cell? ⟨kb,0,none⟩=some (.func (.func 49) #[] #[])),Calls Tryz.prog 106 #[.agg #[.string fL,.int .i64 ou,.int .i64 ow,.int .i64 kF,.string vg],.agg #[.string dO,.int .i64 lI,.int .i64 lJ,.int .i64 iC,.string qC],.pointer (some ⟨kb,0,none⟩)] w fun e w'=>e = .returned (.int .i64 (oq fL dO))∧∃ q os',w'=grow (w.drewN q) os') ∧
 (∀ (fL:ByteArray) (oz:Int) (oA:ByteArray) (dO:ByteArray) (lK:Int) (lL:ByteArray) (kb:Nat) (w:World) (hk:w.cell? ⟨kb,0,none⟩=some (.func (.func 51) #[] #[])),Calls Tryz.prog 110 #[.agg #[.string fL,.int .i64 oz,.string oA],.agg #[.string dO,.int .i64 lK,.string lL],.pointer (some ⟨kb,0,none⟩)] w fun e w'=>e = .returned (.int .i64 (oq fL dO))∧∃ q os',w'=grow (w.drewN q) os') ∧
 (∀ (sF:ByteArray) (oB:ByteArray) (oC:Int) (pF:ByteArray) (lM:ByteArray) (lN:Int) (kb:Nat) (w:World) (hk:w.cell? ⟨kb,0,none⟩=some (.func (.func 53) #[] #[])),Calls Tryz.prog 113 #[.agg #[.string sF,.string oB,.int .i64 oC],.agg #[.string pF,.string lM,.int .i64 lN],.pointer (some ⟨kb,0,none⟩)] w fun e w'=>e = .returned (.int .i64 (oq sF pF))∧∃ q os',w'=grow (w.drewN q) os'):=by
 refine⟨@fun fL ou ow kF vg dO lI lJ iC qC kb w hk=>(fun(jM0:Unit)=>?_) (),@fun fL oz oA dO lK lL kb w hk=>(fun(jM1 jM3:Unit)=>?_) () (),@fun sF oB oC pF lM lN kb w hk=>(fun(jM2 jM3:Unit)=>?_) () ()⟩<;>(
 have hkl:kb<w.heap.size:=block_lt_of_cell hk
 first
  |(
   guard_hyp jM0
   obtain⟨w1,hw1⟩:∃ w1,(w.alloc (.cells #[.string fL,.int .i64 ou,.int .i64 ow,.int .i64 kF,.string vg] 59)).alloc (.cells #[.string dO,.int .i64 lI,.int .i64 lJ,.int .i64 iC,.string qC] 59)=w1:=⟨_,rfl⟩)
  |(
   guard_hyp jM1
   obtain⟨w1,hw1⟩:∃ w1,(w.alloc (.cells #[.string fL,.int .i64 oz,.string oA] 61)).alloc (.cells #[.string dO,.int .i64 lK,.string lL] 61)=w1:=⟨_,rfl⟩)
  |(
   guard_hyp jM2
   obtain⟨w1,hw1⟩:∃ w1,(w.alloc (.cells #[.string sF,.string oB,.int .i64 oC] 63)).alloc (.cells #[.string pF,.string lM,.int .i64 lN] 63)=w1:=⟨_,rfl⟩)
 have hb1:Below w.heap.size w w1:=by rw [← hw1]; exact ((Below.refl _ _).alloc (Nat.le_refl _) _).alloc (by simp) _
 have hs1:w1.heap.size=w.heap.size+2:=by rw [← hw1]; simp
 first
  |(
   guard_hyp jM0
   have hX:Blk w1 w.heap.size 59 #[.string fL,.int .i64 ou,.int .i64 ow,.int .i64 kF,.string vg]:=by rw [← hw1]; exact Blk.alloc (show Blk _ _ _ _ from heap_alloc_new w _) _
   have hY:Blk w1 (w.heap.size+1) 59 #[.string dO,.int .i64 lI,.int .i64 lJ,.int .i64 iC,.string qC]:=by
    rw [← hw1]
    have h:=heap_alloc_new (w.alloc (.cells #[.string fL,.int .i64 ou,.int .i64 ow,.int .i64 kF,.string vg] 59)) (.cells #[.string dO,.int .i64 lI,.int .i64 lJ,.int .i64 iC,.string qC] 59)
    rwa [show (w.alloc (.cells #[.string fL,.int .i64 ou,.int .i64 ow,.int .i64 kF,.string vg] 59)).heap.size=w.heap.size+1 by simp] at h
   have hg1:w1=grow w #[.cells #[.string fL,.int .i64 ou,.int .i64 ow,.int .i64 kF,.string vg] 59,.cells #[.string dO,.int .i64 lI,.int .i64 lJ,.int .i64 iC,.string qC] 59]:=by rw [← hw1,alloc_eq_grow,alloc_eq_grow,grow_grow]; rfl)
  |(
   guard_hyp jM1
   have hX:Blk w1 w.heap.size 61 #[.string fL,.int .i64 oz,.string oA]:=by rw [← hw1]; exact Blk.alloc (show Blk _ _ _ _ from heap_alloc_new w _) _
   have hY:Blk w1 (w.heap.size+1) 61 #[.string dO,.int .i64 lK,.string lL]:=by
    rw [← hw1]
    have h:=heap_alloc_new (w.alloc (.cells #[.string fL,.int .i64 oz,.string oA] 61)) (.cells #[.string dO,.int .i64 lK,.string lL] 61)
    rwa [show (w.alloc (.cells #[.string fL,.int .i64 oz,.string oA] 61)).heap.size=w.heap.size+1 by simp] at h
   have hg1:w1=grow w #[.cells #[.string fL,.int .i64 oz,.string oA] 61,.cells #[.string dO,.int .i64 lK,.string lL] 61]:=by rw [← hw1,alloc_eq_grow,alloc_eq_grow,grow_grow]; rfl)
  |(
   guard_hyp jM2
   have hX:Blk w1 w.heap.size 63 #[.string sF,.string oB,.int .i64 oC]:=by rw [← hw1]; exact Blk.alloc (show Blk _ _ _ _ from heap_alloc_new w _) _
   have hY:Blk w1 (w.heap.size+1) 63 #[.string pF,.string lM,.int .i64 lN]:=by
    rw [← hw1]
    have h:=heap_alloc_new (w.alloc (.cells #[.string sF,.string oB,.int .i64 oC] 63)) (.cells #[.string pF,.string lM,.int .i64 lN] 63)
    rwa [show (w.alloc (.cells #[.string sF,.string oB,.int .i64 oC] 63)).heap.size=w.heap.size+1 by simp] at h
   have hg1:w1=grow w #[.cells #[.string sF,.string oB,.int .i64 oC] 63,.cells #[.string pF,.string lM,.int .i64 lN] 63]:=by rw [← hw1,alloc_eq_grow,alloc_eq_grow,grow_grow]; rfl)
 first|(guard_hyp jM2;have b0:=fun d os=>cell_grown (w:=w1) (a:=⟨w.heap.size,0,none⟩) (v:=.string sF) (by rw [hs1]; simp) (hX.cell 0) d os)|have b0:=fun d os=>cell_grown (w:=w1) (a:=⟨w.heap.size,0,none⟩) (v:=.string fL) (by rw [hs1]; simp) (hX.cell 0) d os
 first|(guard_hyp jM2;have c0:=fun d os=>cell_grown (w:=w1) (a:=⟨w.heap.size+1,0,none⟩) (v:=.string pF) (by rw [hs1]; simp) (hY.cell 0) d os)|have c0:=fun d os=>cell_grown (w:=w1) (a:=⟨w.heap.size+1,0,none⟩) (v:=.string dO) (by rw [hs1]; simp) (hY.cell 0) d os
 first
  |(
   guard_hyp jM0
   have b1:=fun d os=>cell_grown (w:=w1) (a:=⟨w.heap.size,1,none⟩) (v:=.int .i64 ou) (by rw [hs1]; simp) (hX.cell 1) d os
   have c1:=fun d os=>cell_grown (w:=w1) (a:=⟨w.heap.size+1,1,none⟩) (v:=.int .i64 lI) (by rw [hs1]; simp) (hY.cell 1) d os
   have b2:=fun d os=>cell_grown (w:=w1) (a:=⟨w.heap.size,2,none⟩) (v:=.int .i64 ow) (by rw [hs1]; simp) (hX.cell 2) d os
   have c2:=fun d os=>cell_grown (w:=w1) (a:=⟨w.heap.size+1,2,none⟩) (v:=.int .i64 lJ) (by rw [hs1]; simp) (hY.cell 2) d os)
  |(
   guard_hyp jM2
   have b1:=fun d os=>cell_grown (w:=w1) (a:=⟨w.heap.size,1,none⟩) (v:=.string oB) (by rw [hs1]; simp) (hX.cell 1) d os
   have c1:=fun d os=>cell_grown (w:=w1) (a:=⟨w.heap.size+1,1,none⟩) (v:=.string lM) (by rw [hs1]; simp) (hY.cell 1) d os)
  |skip
 first|(guard_hyp jM0;have b3:=fun d os=>cell_grown (w:=w1) (a:=⟨w.heap.size,3,none⟩) (v:=.int .i64 kF) (by rw [hs1]; simp) (hX.cell 3) d os)|(guard_hyp jM1;have b1:=fun d os=>cell_grown (w:=w1) (a:=⟨w.heap.size,1,none⟩) (v:=.int .i64 oz) (by rw [hs1]; simp) (hX.cell 1) d os)|have b2:=fun d os=>cell_grown (w:=w1) (a:=⟨w.heap.size,2,none⟩) (v:=.int .i64 oC) (by rw [hs1]; simp) (hX.cell 2) d os
 first|(guard_hyp jM0;have c3:=fun d os=>cell_grown (w:=w1) (a:=⟨w.heap.size+1,3,none⟩) (v:=.int .i64 iC) (by rw [hs1]; simp) (hY.cell 3) d os)|(guard_hyp jM1;have c1:=fun d os=>cell_grown (w:=w1) (a:=⟨w.heap.size+1,1,none⟩) (v:=.int .i64 lK) (by rw [hs1]; simp) (hY.cell 1) d os)|have c2:=fun d os=>cell_grown (w:=w1) (a:=⟨w.heap.size+1,2,none⟩) (v:=.int .i64 lN) (by rw [hs1]; simp) (hY.cell 2) d os
 first
  |(
   guard_hyp jM0
   have b4:=fun d os=>cell_grown (w:=w1) (a:=⟨w.heap.size,4,none⟩) (v:=.string vg) (by rw [hs1]; simp) (hX.cell 4) d os
   have c4:=fun d os=>cell_grown (w:=w1) (a:=⟨w.heap.size+1,4,none⟩) (v:=.string qC) (by rw [hs1]; simp) (hY.cell 4) d os)
  |(
   guard_hyp jM1
   have b2:=fun d os=>cell_grown (w:=w1) (a:=⟨w.heap.size,2,none⟩) (v:=.string oA) (by rw [hs1]; simp) (hX.cell 2) d os
   have c2:=fun d os=>cell_grown (w:=w1) (a:=⟨w.heap.size+1,2,none⟩) (v:=.string lL) (by rw [hs1]; simp) (hY.cell 2) d os)
  |skip
 first|(guard_hyp jM0;have k0:=fun d os=>cell_grown (w:=w1) (a:=⟨kb,0,none⟩) (v:=.func (.func 49) #[] #[]) (by show kb<w1.heap.size; rw [hs1]; omega) ((hb1.cell (p:=⟨kb,0,none⟩) hkl).trans hk) d os)|(guard_hyp jM1;have k0:=fun d os=>cell_grown (w:=w1) (a:=⟨kb,0,none⟩) (v:=.func (.func 51) #[] #[]) (by show kb<w1.heap.size; rw [hs1]; omega) ((hb1.cell (p:=⟨kb,0,none⟩) hkl).trans hk) d os)|have k0:=fun d os=>cell_grown (w:=w1) (a:=⟨kb,0,none⟩) (v:=.func (.func 53) #[] #[]) (by show kb<w1.heap.size; rw [hs1]; omega) ((hb1.cell (p:=⟨kb,0,none⟩) hkl).trans hk) d os
 have HW:=hid hw1
 have HG:=hid hg1
 clear hw1 hg1 hb1 hX hY hk hkl hs1
 first|(guard_hyp jM0;go_enter Tryz.func106,Tryz.ntmps106)|(guard_hyp jM1;go_enter Tryz.func110,Tryz.ntmps110)|go_enter Tryz.func113,Tryz.ntmps113
 go_wp2_with fail
 rw [HW.out]
 refine wp_region_quiet_grown (by kernel_rfl) (by kernel_rfl) ?_
 first
  |(
   guard_hyp jM0
   repeat (quiet_step (first | (go_at_call 49; exact Calls.grown_of (Cd _ _ _ _ _ _)) | (go_at_call 107; exact Calls.grown_of (nT _ _ _)))))
  |(
   guard_hyp jM1
   repeat (quiet_step (first | (go_at_call 51; exact Calls.grown_of (AR _ _ _ _)) | (go_at_call 107; exact Calls.grown_of (nT _ _ _)))))
  |(
   guard_hyp jM2
   repeat (quiet_step (first | (go_at_call 53; exact Calls.grown_of (yC _ _ _ _)) | (go_at_call 107; exact Calls.grown_of (nT _ _ _)))))
 refine wpQuiet_nil ?_
 intro _ hw'
 obtain⟨⟨nq,osq⟩,hw''⟩:=hw'
 subst hw''
 have HE:=hid (show ∃ q os',grow (w1.drewN nq) osq=grow (w.drewN q) os' from ⟨nq,_,by rw [HG.out]; show grow (grow (w.drewN nq) _) osq=_; rw [grow_grow]⟩)
 first
  |(
   guard_hyp jM0
   clear b0 c0 b1 c1 b2 c2 b3 c3 b4 c4 k0)
  |(
   guard_hyp jM3
   clear b0 c0 b1 c1 b2 c2 k0)
 dsimp only
 generalize grow (w1.drewN nq) osq=w2 at HE ⊢
 go_wp2
 go_ret
 exact⟨rfl,HE.out⟩)
theorem vk :
 (∀ (Bm b nn kb:Nat) (hnn:nn≤1000) (rows set:List aB) (gone:List ByteArray) (w:World) (hm:w.cell? ⟨Bm,0,none⟩=some (.map (some b))) (hM:bT w b nn (fun s=>(eA aB.name rows gone set s).map (fun x:aB=>Value.agg (aH x).toArray))) (hkb:w.cell? ⟨kb,0,none⟩=some (.func (.func 49) #[] #[])) (hr:aT aB.name rows) (hs:aT aB.name set),Calls Tryz.prog 104 #[.func (.func 152) #[] #[.pointer (some ⟨Bm,0,none⟩)],.func (.func 106) #[] #[.pointer (some ⟨kb,0,none⟩)]] w (x9 59 5 aH (bR aB.name rows set gone) w)) ∧
 (∀ (Bm b nn kb:Nat) (hnn:nn≤1000) (rows set:List av) (gone:List ByteArray) (w:World) (hm:w.cell? ⟨Bm,0,none⟩=some (.map (some b))) (hM:bT w b nn (fun s=>(eA av.name rows gone set s).map (fun x:av=>Value.agg (aI x).toArray))) (hkb:w.cell? ⟨kb,0,none⟩=some (.func (.func 51) #[] #[])) (hr:aT av.name rows) (hs:aT av.name set),Calls Tryz.prog 108 #[.func (.func 156) #[] #[.pointer (some ⟨Bm,0,none⟩)],.func (.func 110) #[] #[.pointer (some ⟨kb,0,none⟩)]] w (x9 61 3 aI (bR av.name rows set gone) w)) ∧
 (∀ (Bm b nn kb:Nat) (hnn:nn≤1000) (rows set:List ak) (gone:List ByteArray) (w:World) (hm:w.cell? ⟨Bm,0,none⟩=some (.map (some b))) (hM:bT w b nn (fun s=>(eA ak.job rows gone set s).map (fun x:ak=>Value.agg (aE x).toArray))) (hkb:w.cell? ⟨kb,0,none⟩=some (.func (.func 53) #[] #[])) (hr:aT ak.job rows) (hs:aT ak.job set),Calls Tryz.prog 111 #[.func (.func 159) #[] #[.pointer (some ⟨Bm,0,none⟩)],.func (.func 113) #[] #[.pointer (some ⟨kb,0,none⟩)]] w (x9 63 3 aE (bR ak.job rows set gone) w)):=by
 refine⟨@fun Bm b nn kb hnn rows set gone w hm hM hkb hr hs=>(fun(jM0:Unit)=>?_) (),@fun Bm b nn kb hnn rows set gone w hm hM hkb hr hs=>(fun(jM1:Unit)=>?_) (),@fun Bm b nn kb hnn rows set gone w hm hM hkb hr hs=>(fun(jM2:Unit)=>?_) ()⟩<;>(
 first|(guard_hyp jM0;have HC:=hid (Dp Bm b nn hnn _ (fun s x h=>yD h) w hm hM))|(guard_hyp jM1;have HC:=hid (Ce Bm b nn hnn _ (fun s x h=>yD h) w hm hM))|have HC:=hid (AS Bm b nn hnn _ (fun s x h=>yD h) w hm hM)
 have hkl:kb<w.heap.size:=block_lt_of_cell hkb
 have HKb:=hid hkb
 have HR:=hid (And.intro hr hs)
 clear hm hM hkb hr hs
 first|(guard_hyp jM0;go_enter Tryz.func104,Tryz.ntmps104)|(guard_hyp jM1;go_enter Tryz.func108,Tryz.ntmps108)|go_enter Tryz.func111,Tryz.ntmps111
 go_wp2_with fail
 refine Calls.mono HC.out ?_
 rintro e W ⟨A,c,xs,rfl,O0,hlen,hrow,hb⟩
 have Hb:=hid hb
 have jP:=hid hrow
 have wS:=hid O0
 clear HC O0 hb
 rcases hrow.2 with ⟨hv,hz⟩ | ⟨g,cap,cur,hv,hbase,hgb,r1,r2,r3,r4⟩
 · have hxs:xs=[]:=List.eq_nil_of_length_eq_zero hz
   subst hxs
   first|(guard_hyp jM0;have hL:bR aB.name rows set gone=[]:=?_)|(guard_hyp jM1;have hL:bR av.name rows set gone=[]:=?_)|have hL:bR ak.job rows set gone=[]:=?_
   rotate_left
   ·first|(guard_hyp jM0;have h:=mg (d':=(#[]:Array aB)) HR.out.1 HR.out.2 wS.out.1 wS.out.2 ⟨rfl,fun _ _=>rfl,by simp⟩ (fun i j _ _ h=>absurd h (by simp)))|(guard_hyp jM1;have h:=mg (d':=(#[]:Array av)) HR.out.1 HR.out.2 wS.out.1 wS.out.2 ⟨rfl,fun _ _=>rfl,by simp⟩ (fun i j _ _ h=>absurd h (by simp)))|have h:=mg (d':=(#[]:Array ak)) HR.out.1 HR.out.2 wS.out.1 wS.out.2 ⟨rfl,fun _ _=>rfl,by simp⟩ (fun i j _ _ h=>absurd h (by simp))
    rw [← h]
   have HL:=hid hL
   clear hL
   injection hv with hA _ hc
   subst hA
   subst hc
   clear hrow
   go_wp2_with fail
   first|(guard_hyp jM0;refine Calls.mono (show Calls Tryz.prog 151 #[.slice none 0 0,.func (.func 106) #[] #[.pointer (some ⟨kb,0,none⟩)]] W _ from AnyF.slices_SortFunc_none { yE with } none 0 _ W) ?_)|(guard_hyp jM1;refine Calls.mono (show Calls Tryz.prog 155 #[.slice none 0 0,.func (.func 110) #[] #[.pointer (some ⟨kb,0,none⟩)]] W _ from AnyF.slices_SortFunc_none { wT with } none 0 _ W) ?_)|refine Calls.mono (show Calls Tryz.prog 158 #[.slice none 0 0,.func (.func 113) #[] #[.pointer (some ⟨kb,0,none⟩)]] W _ from AnyF.slices_SortFunc_none { tM with } none 0 _ W) ?_
   rintro e w' ⟨rfl,rfl⟩
   go_wp2
   go_ret
   unfold x9
   rw [HL.out]
   exact⟨none,0,rfl,jP.out,Hb.out⟩
 · injection hv with hA _ hc
   subst hA
   subst hc
   have hgl:g<W.heap.size:=(Array.getElem?_eq_some_iff.1 hgb).1
   first|(guard_hyp jM0;have IU:W.cell? ⟨kb,0,none⟩=some (.func (.func 49) #[] #[]):=(Hb.out.cell (p:=⟨kb,0,none⟩) hkl).trans HKb.out)|(guard_hyp jM1;have IU:W.cell? ⟨kb,0,none⟩=some (.func (.func 51) #[] #[]):=(Hb.out.cell (p:=⟨kb,0,none⟩) hkl).trans HKb.out)|have IU:W.cell? ⟨kb,0,none⟩=some (.func (.func 53) #[] #[]):=(Hb.out.cell (p:=⟨kb,0,none⟩) hkl).trans HKb.out
   have hne:kb≠g:=by omega
   first
    |(
     guard_hyp jM0
     have HS:=AnyQ.slices_SortFunc yE 5 Tryz.isAgg59 Tryz.sizeOf59 aH aN kE (cfK aB.name) (Pt aB.name) 106 #[.pointer (some ⟨kb,0,none⟩)] g 0 c xs.toArray W (Go.Proofs.enters_of Tryz.func106 (by kernel_rfl) rfl)
      (fun m os dk _ x y=>by
       obtain⟨fL,ou,ow,kF,vg⟩:=x
       obtain⟨dO,lI,lJ,iC,qC⟩:=y
       exact pE.1 fL ou ow kF vg dO lI lJ iC qC kb _ (gS (fP dk) hne IU))
      (sG aN (by decide) hgb r4) hgl (by simp; omega))
    |(
     guard_hyp jM1
     have HS:=AnyQ.slices_SortFunc wT 3 Tryz.isAgg61 Tryz.sizeOf61 aI bF jv (cfK av.name) (Pt av.name) 110 #[.pointer (some ⟨kb,0,none⟩)] g 0 c xs.toArray W (Go.Proofs.enters_of Tryz.func110 (by kernel_rfl) rfl)
      (fun m os dk _ x y=>by
       obtain⟨fL,oz,oA⟩:=x
       obtain⟨dO,lK,lL⟩:=y
       exact pE.2.1 fL oz oA dO lK lL kb _ (gS (fP dk) hne IU))
      (sG bF (by decide) hgb r4) hgl (by simp; omega))
    |(
     guard_hyp jM2
     have HS:=AnyQ.slices_SortFunc tM 3 Tryz.isAgg63 Tryz.sizeOf63 aE bB iA (cfK ak.job) (Pt ak.job) 113 #[.pointer (some ⟨kb,0,none⟩)] g 0 c xs.toArray W (Go.Proofs.enters_of Tryz.func113 (by kernel_rfl) rfl)
      (fun m os dk _ x y=>by
       obtain⟨sF,oB,oC⟩:=x
       obtain⟨pF,lM,lN⟩:=y
       exact pE.2.2 sF oB oC pF lM lN kb _ (gS (fP dk) hne IU))
      (sG bB (by decide) hgb r4) hgl (by simp; omega))
   first|(guard_hyp jM0;change Calls Tryz.prog 151 _ _ _ at HS)|(guard_hyp jM1;change Calls Tryz.prog 155 _ _ _ at HS)|change Calls Tryz.prog 158 _ _ _ at HS
   have HS:=hid HS
   first|(guard_hyp jM0;have HX:=hid (fun (d':Array aB) (hd:d'.size=xs.length) (k:Nat) (os:Array Obj)=>qD (n:=k) (os:=os) (d:=d') aN (by decide) hd hbase hgb r1 r2 r3))|(guard_hyp jM1;have HX:=hid (fun (d':Array av) (hd:d'.size=xs.length) (k:Nat) (os:Array Obj)=>qD (n:=k) (os:=os) (d:=d') bF (by decide) hd hbase hgb r1 r2 r3))|have HX:=hid (fun (d':Array ak) (hd:d'.size=xs.length) (k:Nat) (os:Array Obj)=>qD (n:=k) (os:=os) (d:=d') bB (by decide) hd hbase hgb r1 r2 r3)
   first|(guard_hyp jM0;have HB:=hid (fun (d':Array aB) (k:Nat) (os:Array Obj)=>below_grown Hb.out (fP (enc:=aH) (k:=5) (n:=k) (os:=os) d') hbase))|(guard_hyp jM1;have HB:=hid (fun (d':Array av) (k:Nat) (os:Array Obj)=>below_grown Hb.out (fP (enc:=aI) (k:=3) (n:=k) (os:=os) d') hbase))|have HB:=hid (fun (d':Array ak) (k:Nat) (os:Array Obj)=>below_grown Hb.out (fP (enc:=aE) (k:=3) (n:=k) (os:=os) d') hbase)
   clear hrow hgb r1 r2 r3 r4 IU hne
   simp only [List.size_toArray] at HS
   go_wp2_with fail
   refine Calls.mono HS.out ?_
   rintro e w' ⟨rfl,d',k,os,hp,ho,rfl⟩
   have hd:=mg HR.out.1 HR.out.2 wS.out.1 wS.out.2 hp ho
   have hsz:d'.size=xs.length:=by simpa using hp.1
   have h1:=HX.out d' hsz k os
   first|(guard_hyp jM0;have hll:(bR aB.name rows set gone).length=xs.length:=by rw [← hd]; simpa using hsz)|(guard_hyp jM1;have hll:(bR av.name rows set gone).length=xs.length:=by rw [← hd]; simpa using hsz)|have hll:(bR ak.job rows set gone).length=xs.length:=by rw [← hd]; simpa using hsz
   rw [hd] at h1
   have H1:=hid h1
   have H2:=hid (HB.out d' k os)
   have HL:=hid hll
   clear hp ho hd h1 hll HX HB HS hsz
   first|(guard_hyp jM0;generalize sortWorldK aH 5 W g 0 k d' os=w2 at H1 H2 ⊢)|(guard_hyp jM1;generalize sortWorldK aI 3 W g 0 k d' os=w2 at H1 H2 ⊢)|generalize sortWorldK aE 3 W g 0 k d' os=w2 at H1 H2 ⊢
   go_wp2
   go_ret
   exact⟨some ⟨g,0,none⟩,c,by rw [HL.out]; rfl,by rw [HL.out]; exact H1.out,H2.out⟩)
end Go.Proofs.YtcpgnjmaampglaaGreatDoor
