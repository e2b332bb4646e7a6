/- Of the proof of a statement: HubMem. -/
import Derived.Test.YtbllgmociapjeaaGreatDoorVArgSt
import Derived.Test.YtbllgmociapjeaaGreatDoorVRcE
set_option linter.unusedVariables false
set_option linter.unusedSimpArgs false
set_option maxRecDepth 100000
set_option maxHeartbeats 8000000
/- A hub in memory: its block, the server, the feeds, what waits. -/
namespace Go.Proofs.YtbllgmociapjeaaGreatDoor
open Go.Lib (hid)
open Go.RowKit
structure Gr (S:Nat→Prop) (w w':World):Prop where
 os:w'.os=w.os
 tape:w'.tape=w.tape
 output:w'.output=w.output
 size:w.heap.size≤w'.heap.size
 block:∀ k,k<w.heap.size→¬ S k→w'.heap[k]? = w.heap[k]?
section
variable {S S':Nat→Prop} {w w' w'':World}
theorem Gr.refl (S:Nat→Prop) (w:World):Gr S w w:=⟨rfl,rfl,rfl,Nat.le_refl _,fun _ _ _=>rfl⟩
theorem Gr.of_below (S:Nat→Prop) (h:Below w.heap.size w w'):Gr S w w':=⟨h.os,h.tape,h.output,h.size,fun k hk _=>h.block k hk⟩
theorem Gr.kr {row:Option Nat} (h:w.grownBy w' row) (hs:∀ g,row=some g→S g):Gr S w w':=⟨h.os,h.tape,h.output,h.size,fun k hk hn=>h.block k hk (fun e=>hn (hs k e.symm))⟩
theorem Gr.trans (h:Gr S w w') (k:Gr S' w' w'') (hs:∀ b,b<w.heap.size→S' b→S b):Gr S w w'':=
 ⟨k.os.trans h.os,k.tape.trans h.tape,k.output.trans h.output,Nat.le_trans h.size k.size,fun b hb hn=>(k.block b (Nat.lt_of_lt_of_le hb h.size) (fun e=>hn (hs b hb e))).trans (h.block b hb hn)⟩
theorem Gr.below {B:Nat} (h:Gr S w w') (hs:∀ b,S b→B≤b) (hB:B≤w.heap.size):Below B w w':=⟨h.os,h.tape,h.output,h.size,fun k hk=>h.block k (by omega) (fun e=>by have:=hs k e; omega)⟩
theorem Gr.blk {k:Nat} {t:TypeId} {cs:Array Value} (h:Gr S w w') (hk:Blk w k t cs) (hn:¬ S k):Blk w' k t cs:=(h.block k hk.lt hn).trans hk
end
structure bQ where
 rest:ByteArray
 far:Nat
 stuck:Nat
 closed:Bool
 aH:Bool
 waits:List UInt8
def upd {α:Type} (f:Nat→α) (k:Nat) (v:α):Nat→α:=fun i=>if i=k then v else f i
theorem bB {α:Type} (f:Nat→α) (k:Nat) (v:α):upd f k v k=v:=by unfold upd; rw [if_pos rfl]
theorem upd_ne {α:Type} (f:Nat→α) {k i:Nat} (v:α) (h:i≠k):upd f k v i=f i:=by unfold upd; rw [if_neg h]
theorem qH {α:Type} (f:Nat→α) (k:Nat) (v v':α):upd (upd f k v) k v'=upd f k v':=by
 funext i; unfold upd; split <;> rfl
theorem nQ {α:Type} (f:Nat→α) (k:Nat):upd f k (f k)=f:=by
 funext i; unfold upd; split
 · subst_vars; rfl
 · rfl
def kM (fb:Nat) (c:bQ) (v:Value):List Value:=[.pointer (some ⟨fb,0,none⟩),.bool c.closed,.bool c.aH,v]
def ku (V:Nat) (fb:Nat→Nat) (wv:Nat→Value) (cs:Nat→bQ):Array Value:=
 (.pointer (some ⟨V,0,none⟩) :: (kM (fb 0) (cs 0) (wv 0) ++ kM (fb 1) (cs 1) (wv 1) ++ kM (fb 2) (cs 2) (wv 2) ++ kM (fb 3) (cs 3) (wv 3) ++ kM (fb 4) (cs 4) (wv 4) ++ kM (fb 5) (cs 5) (wv 5) ++ kM (fb 6) (cs 6) (wv 6) ++ kM (fb 7) (cs 7) (wv 7))).toArray
section
variable {V:Nat} {fb:Nat→Nat} {wv:Nat→Value} {cs:Nat→bQ} {k:Nat}
theorem lt8 (h:k<8):k=0∨k=1∨k=2∨k=3∨k=4∨k=5∨k=6∨k=7:=by omega
theorem rU:(ku V fb wv cs)[0]? = some (.pointer (some ⟨V,0,none⟩)):=rfl
theorem D7 (h:k<8):(ku V fb wv cs)[1+k*4]? = some (.pointer (some ⟨fb k,0,none⟩)):=by rcases lt8 h with rfl | rfl | rfl | rfl | rfl | rfl | rfl | rfl <;> rfl
theorem iZ (h:k<8):(ku V fb wv cs)[1+k*4+1]? = some (.bool (cs k).closed):=by rcases lt8 h with rfl | rfl | rfl | rfl | rfl | rfl | rfl | rfl <;> rfl
theorem mo (h:k<8):(ku V fb wv cs)[1+k*4+2]? = some (.bool (cs k).aH):=by rcases lt8 h with rfl | rfl | rfl | rfl | rfl | rfl | rfl | rfl <;> rfl
theorem fX (h:k<8):(ku V fb wv cs)[1+k*4+3]? = some (wv k):=by rcases lt8 h with rfl | rfl | rfl | rfl | rfl | rfl | rfl | rfl <;> rfl
theorem pO (h:k<8) (v:Value) (c:bQ) (h1:c.closed=(cs k).closed) (h2:c.aH=(cs k).aH):(ku V fb wv cs).setIfInBounds (1+k*4+3) v=ku V fb (upd wv k v) (upd cs k c):=by
 rcases lt8 h with rfl | rfl | rfl | rfl | rfl | rfl | rfl | rfl <;> simp [ku,kM,upd,h1,h2]
theorem uM (h:k<8) (c:bQ) (h2:c.aH=(cs k).aH):(ku V fb wv cs).setIfInBounds (1+k*4+1) (.bool c.closed)=ku V fb wv (upd cs k c):=by
 rcases lt8 h with rfl | rfl | rfl | rfl | rfl | rfl | rfl | rfl <;> simp [ku,kM,upd,h2]
theorem rX (h:k<8) (c:bQ) (h2:c.closed=(cs k).closed):(ku V fb wv cs).setIfInBounds (1+k*4+2) (.bool c.aH)=ku V fb wv (upd cs k c):=by
 rcases lt8 h with rfl | rfl | rfl | rfl | rfl | rfl | rfl | rfl <;> simp [ku,kM,upd,h2]
theorem D8 (h:k<8) (c:bQ) (h1:c.closed=(cs k).closed) (h2:c.aH=(cs k).aH):ku V fb wv cs=ku V fb wv (upd cs k c):=by
 rcases lt8 h with rfl | rfl | rfl | rfl | rfl | rfl | rfl | rfl <;> simp [ku,kM,upd,h1,h2]
theorem Ga {f:Nat} {c:bQ} {v u:Value} (hu:u ∈ kM f c v):(∃ p,u = .pointer p)∨(∃ b,u = .bool b)∨u=v:=by
 simp only [kM,List.mem_cons,List.not_mem_nil,or_false] at hu
 rcases hu with rfl | rfl | rfl | rfl
 · exact .inl ⟨_,rfl⟩
 · exact .inr (.inl ⟨_,rfl⟩)
 · exact .inr (.inl ⟨_,rfl⟩)
 · exact .inr (.inr rfl)
theorem D9 (hv:∀ i,i<8→∃ A n c,wv i = .slice A n c):jf (ku V fb wv cs):=lH (by
 intro u hu s e
 subst e
 simp only [ku,List.mem_toArray,List.mem_cons,List.mem_append] at hu
 have H:∀ i,i<8→(Value.string s) ∉ kM (fb i) (cs i) (wv i):=by
  intro i hi hu
  rcases Ga hu with ⟨p,h⟩ | ⟨p,h⟩ | h
  · cases h
  · cases h
  · obtain⟨A,n,c,h2⟩:=hv i hi
    rw [h2] at h; cases h
 rcases hu with h | ((((((h | h) | h) | h) | h) | h) | h) | h
 · cases h
 all_goals exact H _ (by decide) h)
end
structure bL (w:World) (g V:Nat) (fb:Nat→Nat) (wv:Nat→Value) (cs:Nat→bQ) (st:ah) (x:StA) (now:Int):Prop where
 blk:Blk w g 89 (ku V fb wv cs)
 srv:SrvAt w 136 V st x now
 feed:∀ i,i<8→iX w (fb i) (cs i).rest ((cs i).far:Int) ((cs i).stuck:Int)
 wait:∀ i,i<8→ByteRow w (wv i) (cs i).waits
 fbi:∀ i j,i<8→j<8→fb i=fb j→i=j
 wvi:∀ i j b,i<8→j<8→(wv i).ownBlock=some b→(wv j).ownBlock=some b→i=j
def nP (g V:Nat) (fb:Nat→Nat) (wv:Nat→Value) (k:Nat):Prop:=k=g∨k=V∨∃ i,i<8∧(k=fb i∨(wv i).ownBlock=some k)
theorem vJ {w:World} {g:Nat} {t t':TypeId} {cs cs':Array Value} (h:Blk w g t cs) (h':Blk w g t' cs'):t=t':=by
 unfold Blk at h h'
 rw [h] at h'
 simp only [Option.some.injEq,Obj.cells.injEq] at h'
 exact h'.2.1
theorem aZ {w:World} {g g':Nat} {t t':TypeId} {cs cs':Array Value} (h:Blk w g t cs) (h':Blk w g' t' cs') (ht:t≠t'):g≠g':=fun e=>by subst e; exact ht (vJ h h')
section
variable {w w':World} {g V k:Nat} {fb:Nat→Nat} {wv:Nat→Value} {cs:Nat→bQ} {st:ah} {x:StA} {now:Int}
theorem bL.below (h:bL w g V fb wv cs st x now) (hb:Below w.heap.size w w'):bL w' g V fb wv cs st x now:=
 ⟨h.blk.below hb h.blk.lt,h.srv.below hb,fun i hi=>Blk.below (h.feed i hi) hb (Blk.lt (h.feed i hi)),fun i hi=>(h.wait i hi).keep fun b hb'=>hb.block b (by obtain⟨c,h1,_⟩:=(h.wait i hi).blk hb'; exact h1.lt),h.fbi,h.wvi⟩
theorem bL.BW (h:bL w g V fb wv cs st x now):jf (ku V fb wv cs):=D9 fun i hi=>by obtain⟨A,c,e⟩:=(h.wait i hi).shape; exact⟨_,_,_,e⟩
theorem StAt.grew (h:StAt w w.heap.size st x) {v v':Value} {l:List UInt8} (hr:ByteRow w v l) (hg:bZ w w' v v'):StAt w' w'.heap.size st x:=by
 cases hv:v.ownBlock with
 | none=>
  have:=hg.grown
  rw [hv] at this
  exact h.upS ⟨this.os,this.tape,this.output,this.size,fun k hk=>this.block k hk (by simp)⟩
 | some b=>
  obtain⟨c,h1,h2⟩:=hr.blk hv
  have:=hg.grown
  rw [hv] at this
  exact (h.gR h1 h2 this).more this.size
theorem mL {b:Nat} {t:TypeId} {c:Array Value} (h:Blk w b t c) (ht:t ≠ 5) {v v':Value} {l:List UInt8} (hr:ByteRow w v l) (hg:bZ w w' v v'):Blk w' b t c:=
 (hg.grown.block b h.lt (fun e=>by obtain⟨c',h1,_⟩:=hr.blk e.symm; exact ht (vJ h h1))).trans h
theorem bL.put (h:bL w g V fb wv cs st x now) (hk:k<8) {v':Value} {l':List UInt8} {w1:World} (hg:bZ w w1 (wv k) v') (hr:ByteRow w1 v' l') :
 bL (w1.setCell ⟨g,1+k*4+3,none⟩ v') g V fb (upd wv k v') (upd cs k { cs k with waits:=l' }) st x now∧Blk w1 g 89 (ku V fb wv cs)∧Gr (nP g V fb wv) w (w1.setCell ⟨g,1+k*4+3,none⟩ v'):=by
 have hw:=h.wait k hk
 have b1:=mL h.blk (by decide) hw hg
 have b2:=mL h.srv.blk (by decide) hw hg
 have s1:=h.srv.at_.grew hw hg
 have hgV:g≠V:=aZ h.blk h.srv.blk (by decide)
 have hset:=bE w1 g (1+k*4+3) v'
 have hn:=h.BW
 have hgb:∀ b c,Blk w1 b 5 c→b≠g:=fun b c hb=>(aZ b1 hb (by decide)).symm
 have hcs:∀ i,i≠k→upd cs k { cs k with waits:=l' } i=cs i:=fun i hi=>upd_ne _ _ hi
 have hwv:∀ i,i≠k→upd wv k v' i=wv i:=fun i hi=>upd_ne _ _ hi
 refine⟨⟨?_,⟨aD hset b2 hgV.symm,(s1.gR b1 hn hset).more hset.size,h.srv.ok,h.srv.t⟩,fun i hi=>?_,fun i hi=>?_,h.fbi,fun i j b hi hj h1 h2=>?_⟩,b1,?_⟩
 · rw [← pO hk v' { cs k with waits:=l' } rfl rfl]
   exact b1.set _ _
 · have hf:=mL (h.feed i hi) (by decide) hw hg
   have hf':iX (w1.setCell ⟨g,1+k*4+3,none⟩ v') (fb i) (cs i).rest ((cs i).far:Int) ((cs i).stuck:Int):=aD hset hf (aZ hf b1 (by decide))
   by_cases e:i=k
   · subst e; rw [bB]; exact hf'
   · rw [hcs i e]; exact hf'
 · by_cases e:i=k
   · subst e
     rw [bB,bB]
     exact hr.keep fun b hb=>hset.block b (by obtain⟨c,h1,_⟩:=hr.blk hb; exact h1.lt) (fun e=>by obtain⟨c,h1,_⟩:=hr.blk hb; injection e with e; exact hgb b c h1 e)
   · rw [hcs i e,hwv i e]
     refine (h.wait i hi).keep fun b hb=>?_
     obtain⟨c,h1,_⟩:=(h.wait i hi).blk hb
     have e1:=hg.grown.block b h1.lt (fun e'=>e (h.wvi i k b hi hk hb e'.symm))
     have h1':Blk w1 b 5 c:=e1.trans h1
     exact (hset.block b h1'.lt (fun e=>by injection e with e; exact hgb b c h1' e)).trans e1
 · have key:∀ i,i<8→i≠k→(wv i).ownBlock=some b→v'.ownBlock=some b→False:=by
    intro i hi hik h1 h2
    rcases hg.own with e | ⟨q,e,hq⟩
    · rw [e] at h2; exact hik (h.wvi i k b hi hk h1 h2)
    · rw [e] at h2
      injection h2 with h2
      subst h2
      obtain⟨c,h3,_⟩:=(h.wait i hi).blk h1
      exact absurd h3.lt (by omega)
   by_cases ei:i=k
   · by_cases ej:j=k
     · omega
     · subst ei; rw [bB] at h1; rw [hwv j ej] at h2; exact absurd (key j hj ej h2 h1) id
   · by_cases ej:j=k
     · subst ej; rw [bB] at h2; rw [hwv i ei] at h1; exact absurd (key i hi ei h1 h2) id
     · rw [hwv i ei] at h1; rw [hwv j ej] at h2; exact h.wvi i j b hi hj h1 h2
 · exact (Gr.kr (S:=nP g V fb wv) hg.grown fun b e=>.inr (.inr ⟨k,hk,.inr e⟩)).trans (Gr.kr (S:=nP g V fb wv) hset fun b e=>by injection e with e; exact .inl e.symm) fun _ _ h=>h
theorem bL.cell (h:bL w g V fb wv cs st x now) (hk:k<8) {j:Nat} {u:Value} {c:bQ} {v:Value} (hc:(ku V fb wv cs).setIfInBounds j u=ku V fb (upd wv k v) (upd cs k c)) (h1:c.rest=(cs k).rest) (h2:c.far=(cs k).far) (h3:c.stuck=(cs k).stuck) (hv:(v=wv k∧c.waits=(cs k).waits)∨(v = .slice none 0 0∧c.waits=[])) :
 bL (w.setCell ⟨g,j,none⟩ u) g V fb (upd wv k v) (upd cs k c) st x now∧Gr (nP g V fb wv) w (w.setCell ⟨g,j,none⟩ u):=by
 have hset:=bE w g j u
 have hgV:g≠V:=aZ h.blk h.srv.blk (by decide)
 have keep:∀ i,i<8→ByteRow (w.setCell ⟨g,j,none⟩ u) (wv i) (cs i).waits:=fun i hi=>(h.wait i hi).keep fun b hb=>by
  obtain⟨c,h4,_⟩:=(h.wait i hi).blk hb
  exact hset.block b h4.lt (fun e=>by injection e with e; exact aZ h.blk h4 (by decide) e.symm)
 refine⟨⟨?_,⟨aD hset h.srv.blk hgV.symm,(h.srv.at_.gR h.blk h.BW hset).more hset.size,h.srv.ok,h.srv.t⟩,fun i hi=>?_,fun i hi=>?_,h.fbi,fun i j b hi hj h4 h5=>?_⟩,Gr.kr hset fun b e=>by injection e with e; exact .inl e.symm⟩
 · rw [← hc]; exact h.blk.set _ _
 · have hf:iX (w.setCell ⟨g,j,none⟩ u) (fb i) (cs i).rest ((cs i).far:Int) ((cs i).stuck:Int):=aD hset (h.feed i hi) (aZ (h.feed i hi) h.blk (by decide))
   by_cases e:i=k
   · subst e; rw [bB,h1,h2,h3]; exact hf
   · rw [upd_ne _ _ e]; exact hf
 · by_cases e:i=k
   · subst e
     rw [bB,bB]
     rcases hv with ⟨rfl,e⟩ | ⟨rfl,e⟩
     · rw [e]; exact keep i hi
     · rw [e]; exact .nil _
   · rw [upd_ne _ _ e,upd_ne _ _ e]; exact keep i hi
 · have key:∀ i,(upd wv k v i).ownBlock=some b→(wv i).ownBlock=some b:=by
    intro i h6
    by_cases e:i=k
    · subst e
      rw [bB] at h6
      rcases hv with ⟨rfl,_⟩ | ⟨rfl,_⟩
      · exact h6
      · cases h6
    · rw [upd_ne _ _ e] at h6; exact h6
   exact h.wvi i j b hi hj (key i h4) (key j h5)
theorem bL.pushed (h:bL w g V fb wv cs st x now) (hk:k<8) {c:bQ} (hg:w.grownBy w' (some (fb k))) (hf:iX w' (fb k) c.rest (c.far:Int) (c.stuck:Int)) (h1:c.closed=(cs k).closed) (h2:c.aH=(cs k).aH) (h3:c.waits=(cs k).waits) :
 bL w' g V fb wv (upd cs k c) st x now∧Gr (nP g V fb wv) w w':=by
 have hgF:g≠fb k:=aZ h.blk (h.feed k hk) (by decide)
 have hVF:V≠fb k:=aZ h.srv.blk (h.feed k hk) (by decide)
 refine⟨⟨?_,⟨aD hg h.srv.blk hVF,(h.srv.at_.ru (h.feed k hk) hg).more hg.size,h.srv.ok,h.srv.t⟩,fun i hi=>?_,fun i hi=>?_,h.fbi,h.wvi⟩,Gr.kr hg fun b e=>by injection e with e; exact .inr (.inr ⟨k,hk,.inl e.symm⟩)⟩
 · rw [← D8 hk c h1 h2]; exact aD hg h.blk hgF
 · by_cases e:i=k
   · subst e; rw [bB]; exact hf
   · rw [upd_ne _ _ e]; exact aD hg (h.feed i hi) (fun e'=>e (h.fbi i k hi hk e'))
 · have:(upd cs k c i).waits=(cs i).waits:=by
    by_cases e:i=k
    · subst e; rw [bB]; exact h3
    · rw [upd_ne _ _ e]
   rw [this]
   refine (h.wait i hi).keep fun b hb=>?_
   obtain⟨c,h4,_⟩:=(h.wait i hi).blk hb
   exact hg.block b h4.lt (fun e=>by injection e with e; exact aZ (h.feed k hk) h4 (by decide) e.symm)
theorem bL.asked (h:bL w g V fb wv cs st x now) {st':ah} {x':StA} {now':Int} (hg:w.grownBy w' (some V)) (hb:Blk w' V 136 (wY st' x' now')) (hs:StAt w' w'.heap.size st' x') (hc:aE st'=0) (ht:0≤now'∧now'≤1099511627776) :
 bL w' g V fb wv cs st' x' now'∧Gr (nP g V fb wv) w w':=by
 have hgV:g≠V:=aZ h.blk h.srv.blk (by decide)
 refine⟨⟨aD hg h.blk hgV,⟨hb,hs,hc,ht⟩,fun i hi=>aD hg (h.feed i hi) (aZ (h.feed i hi) h.srv.blk (by decide)),fun i hi=>?_,h.fbi,h.wvi⟩,Gr.kr hg fun b e=>by injection e with e; exact .inr (.inl e.symm)⟩
 refine (h.wait i hi).keep fun b hb=>?_
 obtain⟨c,h4,_⟩:=(h.wait i hi).blk hb
 exact hg.block b h4.lt (fun e=>by injection e with e; exact aZ h.srv.blk h4 (by decide) e.symm)
end
structure cT (g V:Nat) (fb:Nat→Nat) (wv wv':Nat→Value) (w w':World):Prop where
 gr:Gr (nP g V fb wv) w w'
 own:∀ i,i<8→(wv' i).ownBlock=none∨(wv' i).ownBlock=(wv i).ownBlock∨∃ b,(wv' i).ownBlock=some b∧w.heap.size≤b
section
variable {g V:Nat} {fb:Nat→Nat} {wv wv' wv'':Nat→Value} {w w' w'':World}
theorem cT.refl (g V:Nat) (fb:Nat→Nat) (wv:Nat→Value) (w:World):cT g V fb wv wv w w:=⟨Gr.refl _ _,fun _ _=>.inr (.inl rfl)⟩
theorem cT.trans (h:cT g V fb wv wv' w w') (k:cT g V fb wv' wv'' w' w''):cT g V fb wv wv'' w w'':=by
 refine⟨h.gr.trans k.gr fun b hb hs=>?_,fun i hi=>?_⟩
 · rcases hs with e | e | ⟨i,hi,e | e⟩
   · exact .inl e
   · exact .inr (.inl e)
   · exact .inr (.inr ⟨i,hi,.inl e⟩)
   · rcases h.own i hi with h1 | h1 | ⟨q,h1,h2⟩
     · rw [h1] at e; cases e
     · rw [h1] at e; exact .inr (.inr ⟨i,hi,.inr e⟩)
     · rw [h1] at e; injection e with e; omega
 · rcases k.own i hi with h1 | h1 | ⟨q,h1,h2⟩
   · exact .inl h1
   · rw [h1]; exact h.own i hi
   · exact .inr (.inr ⟨q,h1,Nat.le_trans h.gr.size h2⟩)
theorem cT.below_ (h:cT g V fb wv wv' w w') (hb:Below w'.heap.size w' w''):cT g V fb wv wv' w w'':=h.trans ⟨Gr.of_below _ hb,fun _ _=>.inr (.inl rfl)⟩
end
end Go.Proofs.YtbllgmociapjeaaGreatDoor
