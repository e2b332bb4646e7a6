/- Of the proof of a statement: ButFd, HubMem, ReqE1, WServeL. -/
import Derived.Test.YtoeejfhdjmkpcaaGreatDoorUByteRow
set_option linter.unusedVariables false
set_option linter.unusedSimpArgs false
set_option maxRecDepth 100000
set_option maxHeartbeats 8000000
/- Rows that begin with a text do not lie in a feed's block. -/
namespace Go.Proofs.YtoeejfhdjmkpcaaGreatDoor
open Go.Lib (hid)
open Go.RowKit
theorem aQ.tF {W w2:World} {B g sz n:Nat} {rest:ByteArray} {a st:Int} {A:Option Addr} {xs:List Value} (h:aQ W B sz A n xs) (hb:jm W g rest a st) (h0:0<n→∃ s,xs[0]? = some (.string s)) (h1:0<n→∃ (j:Nat) (u:Value),xs[j]? = some u∧(#[.string rest,.int .i64 a,.int .i64 st]:Array Value)[j]? ≠ some u)
 (hg:W.grownBy w2 (some g)):aQ w2 B sz A n xs:=
 ⟨h.len,fun hn=>by
  obtain⟨b,off,e,hB,hr⟩:=h.at_ hn
  obtain⟨s,hs⟩:=h0 hn
  obtain⟨j,u,hu,hne⟩:=h1 hn
  have c0:=hr 0 _ hs
  have cj:=hr j _ hu
  have hbg:b≠g:=fun e=>by
   subst e
   rw [Blk.cell hb] at c0 cj
   have ho:off=0:=by
    rcases off with _ | _ | _ | off
    · rfl
    · simp at c0
    · simp at c0
    · simp at c0
   subst ho
   rw [Nat.zero_add] at cj
   exact hne cj
  exact⟨b,off,e,hB,fun j u hu=>hg.cell (hr j u hu) (fun e=>hbg (by simpa using e))⟩⟩
theorem AB {α:Type} {enc:α→List Value} {l:List α} {n:Nat} (h:l.length=n) (hn:0<n):∃ a,∀ (j:Nat) u,(enc a)[j]? = some u→(au enc l)[j]? = some u:=by
 cases l with
 | nil=>simp at h; omega
 | cons a l=>
  refine⟨a,fun j u hu=>?_⟩
  obtain⟨hlt,_⟩:=List.getElem?_eq_some_iff.1 hu
  unfold au
  rw [List.flatMap_cons,List.getElem?_append_left hlt]; exact hu
theorem StAt.tF {W w2:World} {B g:Nat} {rest:ByteArray} {a st:Int} {s:ak} {x:StA} (h:StAt W B s x) (hb:jm W g rest a st) (hg:W.grownBy w2 (some g)):StAt w2 B s x:=
 ⟨h.j.tF hb (uw h.lj) (fun hn=>by obtain⟨a,ha⟩:=AB (enc:=aJ) h.lj hn; exact⟨3,_,ha 3 _ rfl,by simp⟩) hg,
  h.n.tF hb (qZ h.ln) (fun hn=>by obtain⟨a,ha⟩:=AB (enc:=aB) h.ln hn; exact⟨2,_,ha 2 _ rfl,by simp⟩) hg,
  h.l.tF hb (oS h.ll) (fun hn=>by obtain⟨a,ha⟩:=AB (enc:=ay) h.ll hn; exact⟨1,_,ha 1 _ rfl,by simp⟩) hg,
  h.lj,h.ln,h.ll,h.bj,h.bn,h.bl,h.oj,h.on_,h.ol⟩
end Go.Proofs.YtoeejfhdjmkpcaaGreatDoor
/- A hub in memory: its block, the server, the feeds, what waits. -/
namespace Go.Proofs.YtoeejfhdjmkpcaaGreatDoor
open Go.Lib (hid)
open Go.RowKit
structure Gr (S:Nat→Prop) (w w':World):Prop where
 os:w'.os=w.os
 tape:w'.tape=w.tape
 output:w'.output=w.output
 size:w.heap.size≤w'.heap.size
 block:∀ k,k<w.heap.size→¬ S k→w'.heap[k]? = w.heap[k]?
section
variable {S S':Nat→Prop} {w w' w'':World}
theorem Gr.refl (S:Nat→Prop) (w:World):Gr S w w:=⟨rfl,rfl,rfl,Nat.le_refl _,fun _ _ _=>rfl⟩
theorem Gr.of_below (S:Nat→Prop) (h:Below w.heap.size w w'):Gr S w w':=⟨h.os,h.tape,h.output,h.size,fun k hk _=>h.block k hk⟩
theorem Gr.kK {row:Option Nat} (h:w.grownBy w' row) (hs:∀ g,row=some g→S g):Gr S w w':=⟨h.os,h.tape,h.output,h.size,fun k hk hn=>h.block k hk (fun e=>hn (hs k e.symm))⟩
theorem Gr.trans (h:Gr S w w') (k:Gr S' w' w'') (hs:∀ b,b<w.heap.size→S' b→S b):Gr S w w'':=
 ⟨k.os.trans h.os,k.tape.trans h.tape,k.output.trans h.output,Nat.le_trans h.size k.size,fun b hb hn=>(k.block b (Nat.lt_of_lt_of_le hb h.size) (fun e=>hn (hs b hb e))).trans (h.block b hb hn)⟩
theorem Gr.below {B:Nat} (h:Gr S w w') (hs:∀ b,S b→B≤b) (hB:B≤w.heap.size):Below B w w':=⟨h.os,h.tape,h.output,h.size,fun k hk=>h.block k (by omega) (fun e=>by have:=hs k e; omega)⟩
theorem Gr.blk {k:Nat} {t:TypeId} {cs:Array Value} (h:Gr S w w') (hk:Blk w k t cs) (hn:¬ S k):Blk w' k t cs:=(h.block k hk.lt hn).trans hk
end
structure cu where
 rest:ByteArray
 far:Nat
 stuck:Nat
 closed:Bool
 aN:Bool
 waits:List UInt8
def upd {α:Type} (f:Nat→α) (k:Nat) (v:α):Nat→α:=fun i=>if i=k then v else f i
theorem cJ {α:Type} (f:Nat→α) (k:Nat) (v:α):upd f k v k=v:=by unfold upd; rw [if_pos rfl]
theorem upd_ne {α:Type} (f:Nat→α) {k i:Nat} (v:α) (h:i≠k):upd f k v i=f i:=by unfold upd; rw [if_neg h]
theorem wS {α:Type} (f:Nat→α) (k:Nat) (v v':α):upd (upd f k v) k v'=upd f k v':=by
 funext i; unfold upd; split <;> rfl
theorem pI {α:Type} (f:Nat→α) (k:Nat):upd f k (f k)=f:=by
 funext i; unfold upd; split
 · subst_vars; rfl
 · rfl
def lA (fb:Nat) (c:cu) (v:Value):List Value:=[.pointer (some ⟨fb,0,none⟩),.bool c.closed,.bool c.aN,v]
def kL (V:Nat) (fb:Nat→Nat) (wv:Nat→Value) (cs:Nat→cu):Array Value:=
 (.pointer (some ⟨V,0,none⟩) :: (lA (fb 0) (cs 0) (wv 0) ++ lA (fb 1) (cs 1) (wv 1) ++ lA (fb 2) (cs 2) (wv 2) ++ lA (fb 3) (cs 3) (wv 3) ++ lA (fb 4) (cs 4) (wv 4) ++ lA (fb 5) (cs 5) (wv 5) ++ lA (fb 6) (cs 6) (wv 6) ++ lA (fb 7) (cs 7) (wv 7))).toArray
section
variable {V:Nat} {fb:Nat→Nat} {wv:Nat→Value} {cs:Nat→cu} {k:Nat}
theorem lt8 (h:k<8):k=0∨k=1∨k=2∨k=3∨k=4∨k=5∨k=6∨k=7:=by omega
theorem uS:(kL V fb wv cs)[0]? = some (.pointer (some ⟨V,0,none⟩)):=rfl
theorem FD (h:k<8):(kL V fb wv cs)[1+k*4]? = some (.pointer (some ⟨fb k,0,none⟩)):=by rcases lt8 h with rfl | rfl | rfl | rfl | rfl | rfl | rfl | rfl <;> rfl
theorem kJ (h:k<8):(kL V fb wv cs)[1+k*4+1]? = some (.bool (cs k).closed):=by rcases lt8 h with rfl | rfl | rfl | rfl | rfl | rfl | rfl | rfl <;> rfl
theorem mX (h:k<8):(kL V fb wv cs)[1+k*4+2]? = some (.bool (cs k).aN):=by rcases lt8 h with rfl | rfl | rfl | rfl | rfl | rfl | rfl | rfl <;> rfl
theorem iH (h:k<8):(kL V fb wv cs)[1+k*4+3]? = some (wv k):=by rcases lt8 h with rfl | rfl | rfl | rfl | rfl | rfl | rfl | rfl <;> rfl
theorem qQ (h:k<8) (v:Value) (c:cu) (h1:c.closed=(cs k).closed) (h2:c.aN=(cs k).aN):(kL V fb wv cs).setIfInBounds (1+k*4+3) v=kL V fb (upd wv k v) (upd cs k c):=by
 rcases lt8 h with rfl | rfl | rfl | rfl | rfl | rfl | rfl | rfl <;> simp [kL,lA,upd,h1,h2]
theorem xV (h:k<8) (c:cu) (h2:c.aN=(cs k).aN):(kL V fb wv cs).setIfInBounds (1+k*4+1) (.bool c.closed)=kL V fb wv (upd cs k c):=by
 rcases lt8 h with rfl | rfl | rfl | rfl | rfl | rfl | rfl | rfl <;> simp [kL,lA,upd,h2]
theorem uT (h:k<8) (c:cu) (h2:c.closed=(cs k).closed):(kL V fb wv cs).setIfInBounds (1+k*4+2) (.bool c.aN)=kL V fb wv (upd cs k c):=by
 rcases lt8 h with rfl | rfl | rfl | rfl | rfl | rfl | rfl | rfl <;> simp [kL,lA,upd,h2]
theorem FE (h:k<8) (c:cu) (h1:c.closed=(cs k).closed) (h2:c.aN=(cs k).aN):kL V fb wv cs=kL V fb wv (upd cs k c):=by
 rcases lt8 h with rfl | rfl | rfl | rfl | rfl | rfl | rfl | rfl <;> simp [kL,lA,upd,h1,h2]
theorem Iy {f:Nat} {c:cu} {v u:Value} (hu:u ∈ lA f c v):(∃ p,u = .pointer p)∨(∃ b,u = .bool b)∨u=v:=by
 simp only [lA,List.mem_cons,List.not_mem_nil,or_false] at hu
 rcases hu with rfl | rfl | rfl | rfl
 · exact .inl ⟨_,rfl⟩
 · exact .inr (.inl ⟨_,rfl⟩)
 · exact .inr (.inl ⟨_,rfl⟩)
 · exact .inr (.inr rfl)
theorem FF (hv:∀ i,i<8→∃ A n c,wv i = .slice A n c):jC (kL V fb wv cs):=lV (by
 intro u hu s e
 subst e
 simp only [kL,List.mem_toArray,List.mem_cons,List.mem_append] at hu
 have H:∀ i,i<8→(Value.string s) ∉ lA (fb i) (cs i) (wv i):=by
  intro i hi hu
  rcases Iy hu with ⟨p,h⟩ | ⟨p,h⟩ | h
  · cases h
  · cases h
  · obtain⟨A,n,c,h2⟩:=hv i hi
    rw [h2] at h; cases h
 rcases hu with h | ((((((h | h) | h) | h) | h) | h) | h) | h
 · cases h
 all_goals exact H _ (by decide) h)
end
structure cC (w:World) (g V:Nat) (fb:Nat→Nat) (wv:Nat→Value) (cs:Nat→cu) (st:ak) (x:StA) (now:Int):Prop where
 blk:Blk w g 184 (kL V fb wv cs)
 srv:SrvAt w 109 V st x now
 feed:∀ i,i<8→jm w (fb i) (cs i).rest ((cs i).far:Int) ((cs i).stuck:Int)
 wait:∀ i,i<8→ByteRow w (wv i) (cs i).waits
 fbi:∀ i j,i<8→j<8→fb i=fb j→i=j
 wvi:∀ i j b,i<8→j<8→(wv i).ownBlock=some b→(wv j).ownBlock=some b→i=j
def rQ (g V:Nat) (fb:Nat→Nat) (wv:Nat→Value) (k:Nat):Prop:=k=g∨k=V∨∃ i,i<8∧(k=fb i∨(wv i).ownBlock=some k)
theorem xT {w:World} {g:Nat} {t t':TypeId} {cs cs':Array Value} (h:Blk w g t cs) (h':Blk w g t' cs'):t=t':=by
 unfold Blk at h h'
 rw [h] at h'
 simp only [Option.some.injEq,Obj.cells.injEq] at h'
 exact h'.2.1
theorem bE {w:World} {g g':Nat} {t t':TypeId} {cs cs':Array Value} (h:Blk w g t cs) (h':Blk w g' t' cs') (ht:t≠t'):g≠g':=fun e=>by subst e; exact ht (xT h h')
section
variable {w w':World} {g V k:Nat} {fb:Nat→Nat} {wv:Nat→Value} {cs:Nat→cu} {st:ak} {x:StA} {now:Int}
theorem cC.below (h:cC w g V fb wv cs st x now) (hb:Below w.heap.size w w'):cC w' g V fb wv cs st x now:=
 ⟨h.blk.below hb h.blk.lt,h.srv.below hb,fun i hi=>Blk.below (h.feed i hi) hb (Blk.lt (h.feed i hi)),fun i hi=>(h.wait i hi).keep fun b hb'=>hb.block b (by obtain⟨c,h1,_⟩:=(h.wait i hi).blk hb'; exact h1.lt),h.fbi,h.wvi⟩
theorem cC.Dm (h:cC w g V fb wv cs st x now):jC (kL V fb wv cs):=FF fun i hi=>by obtain⟨A,c,e⟩:=(h.wait i hi).shape; exact⟨_,_,_,e⟩
theorem StAt.grew (h:StAt w w.heap.size st x) {v v':Value} {l:List UInt8} (hr:ByteRow w v l) (hg:cE w w' v v'):StAt w' w'.heap.size st x:=by
 cases hv:v.ownBlock with
 | none=>
  have:=hg.grown
  rw [hv] at this
  exact h.upS ⟨this.os,this.tape,this.output,this.size,fun k hk=>this.block k hk (by simp)⟩
 | some b=>
  obtain⟨c,h1,h2⟩:=hr.blk hv
  have:=hg.grown
  rw [hv] at this
  exact (h.gS h1 h2 this).more this.size
theorem pJ {b:Nat} {t:TypeId} {c:Array Value} (h:Blk w b t c) (ht:t ≠ 5) {v v':Value} {l:List UInt8} (hr:ByteRow w v l) (hg:cE w w' v v'):Blk w' b t c:=
 (hg.grown.block b h.lt (fun e=>by obtain⟨c',h1,_⟩:=hr.blk e.symm; exact ht (xT h h1))).trans h
theorem cC.put (h:cC w g V fb wv cs st x now) (hk:k<8) {v':Value} {l':List UInt8} {w1:World} (hg:cE w w1 (wv k) v') (hr:ByteRow w1 v' l') :
 cC (w1.setCell ⟨g,1+k*4+3,none⟩ v') g V fb (upd wv k v') (upd cs k { cs k with waits:=l' }) st x now∧Blk w1 g 184 (kL V fb wv cs)∧Gr (rQ g V fb wv) w (w1.setCell ⟨g,1+k*4+3,none⟩ v'):=by
 have hw:=h.wait k hk
 have b1:=pJ h.blk (by decide) hw hg
 have b2:=pJ h.srv.blk (by decide) hw hg
 have s1:=h.srv.at_.grew hw hg
 have hgV:g≠V:=bE h.blk h.srv.blk (by decide)
 have hset:=aD w1 g (1+k*4+3) v'
 have hn:=h.Dm
 have hgb:∀ b c,Blk w1 b 5 c→b≠g:=fun b c hb=>(bE b1 hb (by decide)).symm
 have hcs:∀ i,i≠k→upd cs k { cs k with waits:=l' } i=cs i:=fun i hi=>upd_ne _ _ hi
 have hwv:∀ i,i≠k→upd wv k v' i=wv i:=fun i hi=>upd_ne _ _ hi
 refine⟨⟨?_,⟨aE hset b2 hgV.symm,(s1.gS b1 hn hset).more hset.size,h.srv.ok,h.srv.t⟩,fun i hi=>?_,fun i hi=>?_,h.fbi,fun i j b hi hj h1 h2=>?_⟩,b1,?_⟩
 · rw [← qQ hk v' { cs k with waits:=l' } rfl rfl]
   exact b1.set _ _
 · have hf:=pJ (h.feed i hi) (by decide) hw hg
   have hf':jm (w1.setCell ⟨g,1+k*4+3,none⟩ v') (fb i) (cs i).rest ((cs i).far:Int) ((cs i).stuck:Int):=aE hset hf (bE hf b1 (by decide))
   by_cases e:i=k
   · subst e; rw [cJ]; exact hf'
   · rw [hcs i e]; exact hf'
 · by_cases e:i=k
   · subst e
     rw [cJ,cJ]
     exact hr.keep fun b hb=>hset.block b (by obtain⟨c,h1,_⟩:=hr.blk hb; exact h1.lt) (fun e=>by obtain⟨c,h1,_⟩:=hr.blk hb; injection e with e; exact hgb b c h1 e)
   · rw [hcs i e,hwv i e]
     refine (h.wait i hi).keep fun b hb=>?_
     obtain⟨c,h1,_⟩:=(h.wait i hi).blk hb
     have e1:=hg.grown.block b h1.lt (fun e'=>e (h.wvi i k b hi hk hb e'.symm))
     have h1':Blk w1 b 5 c:=e1.trans h1
     exact (hset.block b h1'.lt (fun e=>by injection e with e; exact hgb b c h1' e)).trans e1
 · have key:∀ i,i<8→i≠k→(wv i).ownBlock=some b→v'.ownBlock=some b→False:=by
    intro i hi hik h1 h2
    rcases hg.own with e | ⟨q,e,hq⟩
    · rw [e] at h2; exact hik (h.wvi i k b hi hk h1 h2)
    · rw [e] at h2
      injection h2 with h2
      subst h2
      obtain⟨c,h3,_⟩:=(h.wait i hi).blk h1
      exact absurd h3.lt (by omega)
   by_cases ei:i=k
   · by_cases ej:j=k
     · omega
     · subst ei; rw [cJ] at h1; rw [hwv j ej] at h2; exact absurd (key j hj ej h2 h1) id
   · by_cases ej:j=k
     · subst ej; rw [cJ] at h2; rw [hwv i ei] at h1; exact absurd (key i hi ei h1 h2) id
     · rw [hwv i ei] at h1; rw [hwv j ej] at h2; exact h.wvi i j b hi hj h1 h2
 · exact (Gr.kK (S:=rQ g V fb wv) hg.grown fun b e=>.inr (.inr ⟨k,hk,.inr e⟩)).trans (Gr.kK (S:=rQ g V fb wv) hset fun b e=>by injection e with e; exact .inl e.symm) fun _ _ h=>h
theorem cC.cell (h:cC w g V fb wv cs st x now) (hk:k<8) {j:Nat} {u:Value} {c:cu} {v:Value} (hc:(kL V fb wv cs).setIfInBounds j u=kL V fb (upd wv k v) (upd cs k c)) (h1:c.rest=(cs k).rest) (h2:c.far=(cs k).far) (h3:c.stuck=(cs k).stuck) (hv:(v=wv k∧c.waits=(cs k).waits)∨(v = .slice none 0 0∧c.waits=[])) :
 cC (w.setCell ⟨g,j,none⟩ u) g V fb (upd wv k v) (upd cs k c) st x now∧Gr (rQ g V fb wv) w (w.setCell ⟨g,j,none⟩ u):=by
 have hset:=aD w g j u
 have hgV:g≠V:=bE h.blk h.srv.blk (by decide)
 have keep:∀ i,i<8→ByteRow (w.setCell ⟨g,j,none⟩ u) (wv i) (cs i).waits:=fun i hi=>(h.wait i hi).keep fun b hb=>by
  obtain⟨c,h4,_⟩:=(h.wait i hi).blk hb
  exact hset.block b h4.lt (fun e=>by injection e with e; exact bE h.blk h4 (by decide) e.symm)
 refine⟨⟨?_,⟨aE hset h.srv.blk hgV.symm,(h.srv.at_.gS h.blk h.Dm hset).more hset.size,h.srv.ok,h.srv.t⟩,fun i hi=>?_,fun i hi=>?_,h.fbi,fun i j b hi hj h4 h5=>?_⟩,Gr.kK hset fun b e=>by injection e with e; exact .inl e.symm⟩
 · rw [← hc]; exact h.blk.set _ _
 · have hf:jm (w.setCell ⟨g,j,none⟩ u) (fb i) (cs i).rest ((cs i).far:Int) ((cs i).stuck:Int):=aE hset (h.feed i hi) (bE (h.feed i hi) h.blk (by decide))
   by_cases e:i=k
   · subst e; rw [cJ,h1,h2,h3]; exact hf
   · rw [upd_ne _ _ e]; exact hf
 · by_cases e:i=k
   · subst e
     rw [cJ,cJ]
     rcases hv with ⟨rfl,e⟩ | ⟨rfl,e⟩
     · rw [e]; exact keep i hi
     · rw [e]; exact .nil _
   · rw [upd_ne _ _ e,upd_ne _ _ e]; exact keep i hi
 · have key:∀ i,(upd wv k v i).ownBlock=some b→(wv i).ownBlock=some b:=by
    intro i h6
    by_cases e:i=k
    · subst e
      rw [cJ] at h6
      rcases hv with ⟨rfl,_⟩ | ⟨rfl,_⟩
      · exact h6
      · cases h6
    · rw [upd_ne _ _ e] at h6; exact h6
   exact h.wvi i j b hi hj (key i h4) (key j h5)
theorem cC.pushed (h:cC w g V fb wv cs st x now) (hk:k<8) {c:cu} (hg:w.grownBy w' (some (fb k))) (hf:jm w' (fb k) c.rest (c.far:Int) (c.stuck:Int)) (h1:c.closed=(cs k).closed) (h2:c.aN=(cs k).aN) (h3:c.waits=(cs k).waits) :
 cC w' g V fb wv (upd cs k c) st x now∧Gr (rQ g V fb wv) w w':=by
 have hgF:g≠fb k:=bE h.blk (h.feed k hk) (by decide)
 have hVF:V≠fb k:=bE h.srv.blk (h.feed k hk) (by decide)
 refine⟨⟨?_,⟨aE hg h.srv.blk hVF,(h.srv.at_.tF (h.feed k hk) hg).more hg.size,h.srv.ok,h.srv.t⟩,fun i hi=>?_,fun i hi=>?_,h.fbi,h.wvi⟩,Gr.kK hg fun b e=>by injection e with e; exact .inr (.inr ⟨k,hk,.inl e.symm⟩)⟩
 · rw [← FE hk c h1 h2]; exact aE hg h.blk hgF
 · by_cases e:i=k
   · subst e; rw [cJ]; exact hf
   · rw [upd_ne _ _ e]; exact aE hg (h.feed i hi) (fun e'=>e (h.fbi i k hi hk e'))
 · have:(upd cs k c i).waits=(cs i).waits:=by
    by_cases e:i=k
    · subst e; rw [cJ]; exact h3
    · rw [upd_ne _ _ e]
   rw [this]
   refine (h.wait i hi).keep fun b hb=>?_
   obtain⟨c,h4,_⟩:=(h.wait i hi).blk hb
   exact hg.block b h4.lt (fun e=>by injection e with e; exact bE (h.feed k hk) h4 (by decide) e.symm)
theorem cC.asked (h:cC w g V fb wv cs st x now) {st':ak} {x':StA} {now':Int} (hg:w.grownBy w' (some V)) (hb:Blk w' V 109 (wZ st' x' now')) (hs:StAt w' w'.heap.size st' x') (hc:aG st'=0) (ht:0≤now'∧now'≤1099511627776) :
 cC w' g V fb wv cs st' x' now'∧Gr (rQ g V fb wv) w w':=by
 have hgV:g≠V:=bE h.blk h.srv.blk (by decide)
 refine⟨⟨aE hg h.blk hgV,⟨hb,hs,hc,ht⟩,fun i hi=>aE hg (h.feed i hi) (bE (h.feed i hi) h.srv.blk (by decide)),fun i hi=>?_,h.fbi,h.wvi⟩,Gr.kK hg fun b e=>by injection e with e; exact .inr (.inl e.symm)⟩
 refine (h.wait i hi).keep fun b hb=>?_
 obtain⟨c,h4,_⟩:=(h.wait i hi).blk hb
 exact hg.block b h4.lt (fun e=>by injection e with e; exact bE h.srv.blk h4 (by decide) e.symm)
end
structure dO (g V:Nat) (fb:Nat→Nat) (wv wv':Nat→Value) (w w':World):Prop where
 gr:Gr (rQ g V fb wv) w w'
 own:∀ i,i<8→(wv' i).ownBlock=none∨(wv' i).ownBlock=(wv i).ownBlock∨∃ b,(wv' i).ownBlock=some b∧w.heap.size≤b
section
variable {g V:Nat} {fb:Nat→Nat} {wv wv' wv'':Nat→Value} {w w' w'':World}
theorem dO.refl (g V:Nat) (fb:Nat→Nat) (wv:Nat→Value) (w:World):dO g V fb wv wv w w:=⟨Gr.refl _ _,fun _ _=>.inr (.inl rfl)⟩
theorem dO.trans (h:dO g V fb wv wv' w w') (k:dO g V fb wv' wv'' w' w''):dO g V fb wv wv'' w w'':=by
 refine⟨h.gr.trans k.gr fun b hb hs=>?_,fun i hi=>?_⟩
 · rcases hs with e | e | ⟨i,hi,e | e⟩
   · exact .inl e
   · exact .inr (.inl e)
   · exact .inr (.inr ⟨i,hi,.inl e⟩)
   · rcases h.own i hi with h1 | h1 | ⟨q,h1,h2⟩
     · rw [h1] at e; cases e
     · rw [h1] at e; exact .inr (.inr ⟨i,hi,.inr e⟩)
     · rw [h1] at e; injection e with e; omega
 · rcases k.own i hi with h1 | h1 | ⟨q,h1,h2⟩
   · exact .inl h1
   · rw [h1]; exact h.own i hi
   · exact .inr (.inr ⟨q,h1,Nat.le_trans h.gr.size h2⟩)
theorem dO.below_ (h:dO g V fb wv wv' w w') (hb:Below w'.heap.size w' w''):dO g V fb wv wv' w w'':=h.trans ⟨Gr.of_below _ hb,fun _ _=>.inr (.inl rfl)⟩
end
end Go.Proofs.YtoeejfhdjmkpcaaGreatDoor
/- req.Encode at a job that is put. -/
namespace Go.Proofs.YtoeejfhdjmkpcaaGreatDoor
open Go.Lib (hid)
open Go.RowKit
theorem Iz (base g P:Nat) (l:List UInt8) (x:aA) (w:World) (hp:Blk w P 327 #[.string x.name,.int .i64 x.prio,.int .i64 x.need,.int .i64 x.tries,.string x.tag]) (hx:C8 x) (h:gZ w base g l) (hl:l.length≤90000000) :
 Calls Tryz.prog 468 #[.pointer (some ⟨P,0,none⟩),.pointer (some ⟨g,0,none⟩)] w (kr base g (l ++ gL x 3) w):=by
 have HJ:=hid (show Calls Tryz.prog 62 #[.pointer (some ⟨g,0,none⟩),.agg #[.string x.name,.int .i64 x.prio,.int .i64 x.need,.int .i64 x.tries,.string x.tag],.int .i64 3] w _ from IA base g l x 3 w (by decide) (by decide) hx h hl)
 obtain⟨p0,p1,p2,p3,p4⟩:=Blk.c5 (hp)
 have hlp:=hp.lt
 clear hp hx h hl
 go_enter Tryz.func468,Tryz.ntmps468
 go_wp2_with fail
 refine Calls.mono HJ.out ?_
 rintro e w1 hp
 have HP:=hid hp
 obtain⟨rfl,_⟩:=hp
 clear HJ p0 p1 p2 p3 p4
 go_wp2
 go_end0
 exact HP.out
theorem IB {x:aA} (h:fE x=0):C8 x:=by
 have hz:=gP h
 have h1:=eO hz.1
 have h2:=jS hz.2.1
 exact⟨by omega,by omega,by omega,by omega,by omega⟩
def EncQ (q:aU) (L:List UInt8) (w:World) (e:Ending) (w':World):Prop:=e = .returned (.tuple #[.string (BA L),.int .i64 0])∧Below w.heap.size w w'
theorem IC (q:aU) (w:World) (hq:q.kind=1) (hok:ROk q) (hT:Tabs w) (h0:eF q=0) :
 Calls Tryz.prog 56 #[bT q] w (EncQ q (bJ 1 ++ gL q.job 3) w):=by
 obtain⟨W,hW⟩:∃ W,w.alloc (.cells (aT q) 40)=W:=⟨_,rfl⟩
 have hb:Blk W w.heap.size 40 (aT q):=by rw [← hW]; exact heap_alloc_new w _
 have hbW:Below w.heap.size w W:=by rw [← hW]; exact (Below.refl _ _).alloc (Nat.le_refl _) _
 have hck:=xq q W hq hok (hT.below hbW)
 rw [h0] at hck
 have hjE:fE q.job=0:=by
  have how:q8 q=⟨q.kind,q.job,dZ,cV,⟨#[]⟩,0⟩:=by unfold q8; simp [hq]
  have hpe:eV q=fE q.job:=by unfold eV; simp [hq]
  unfold eF at h0
  rw [if_neg (by rw [hq]; decide)] at h0
  split at h0
  · cases h0
  · rw [hpe] at h0; exact h0
 have HJW:=hid (IB hjE)
 obtain⟨c0,c1,c2,c3,c4,c5,c6,c7,c8,c9,c10,c11,c12,c13⟩:=Blk.c14 (hb)
 have hlt:=hb.lt
 have HCk:=hid hck
 have Hb:=hid hb
 have HbW:=hid hbW
 have HT:=hid hT
 have HW:=hid hW
 have Hq:=hid hq
 clear hb hbW hT hW hck hok h0 hjE hq
 unfold bT at HCk ⊢
 unfold aT at HCk HW ⊢
 go_enter Tryz.func56,Tryz.ntmps56
 go_wp2_with fail
 try simp only [HW.out]
 clear HW
 refine Calls.mono HCk.out ?_
 rintro e w1 ⟨rfl,hb1⟩
 have hB1:=HbW.out.trans (hb1.mono HbW.out.size)
 have hQ1:=Hb.out.below hb1 Hb.out.lt
 obtain⟨w2,hw2⟩:∃ w2,w1.alloc (.cells #[.slice none 0 0] 131)=w2:=⟨_,rfl⟩
 have hb2:Below w1.heap.size w1 w2:=by rw [← hw2]; exact (Below.refl _ _).alloc (Nat.le_refl _) _
 have hT2:=HT.out.below (hB1.trans (hb2.mono hB1.size))
 have hlts:=(HT.out.below hB1).lts
 have hwr:gZ w2 w1.heap.size w1.heap.size []:=⟨⟨Nat.le_refl _,none,0,0,by rw [← hw2]; exact heap_alloc_new w1 _,World.ownsRow_nil _ _ _ _⟩,hT2,hlts.1,hlts.2,hb2.size⟩
 have hQ2:=hQ1.below hb2 hQ1.lt
 have HN:=hid (pA w1.heap.size w1.heap.size [] 1 w2 (by omega) hwr (by simp))
 have k0:w1.cell? ⟨w.heap.size,0,none⟩=some (.int .i64 1):=by rw [← Hq.out]; exact hQ1.cell 0
 have hlt2:=hQ1.lt
 have HB2:=hid (hB1.trans (hb2.mono hB1.size))
 have HQ2:=hid hQ2
 have Hw2:=hid hw2
 have Hsz:=hid hb2.size
 have Km:=hid hQ1.lt
 clear hb1 hB1 hQ1 hb2 hT2 hlts hwr hQ2 hw2 HCk Hb HbW c0 c1 c2 c3 c4 c5 c6 c7 c8 c9 c10 c11 c12 c13 hlt
 go_wp2_with fail
 try simp only [Hw2.out]
 clear Hw2
 refine Calls.mono HN.out ?_
 rintro e w3 ⟨rfl,hwr3,hk3⟩
 have hQ3:Blk w3 w.heap.size 40 (aT q):=hk3.blk HQ2.out (by decide) (Nat.ne_of_lt Km.out)
 obtain⟨d0,d1,d2,d3,d4,d5,d6,d7,d8,d9,d10,d11,d12,d13⟩:=Blk.c14 (hQ3)
 have hlt3:=hQ3.lt
 have HP:=hid (show Calls Tryz.prog 133 #[.agg (yW q)] w3 _ from Dq q w3 Hq.out)
 have Hwr3:=hid hwr3
 have Hk3:=hid hk3
 clear hwr3 hk3 hQ3 HN HQ2 k0 hlt2
 have hm : ∀ w P, (method 606 325 (.pointer (some ⟨P, 0, none⟩)) "bracken/req.put").run Tryz.prog w = .ok (468, .pointer (some ⟨P, 0, none⟩)) w := fun _ _ => by kernel_rfl
 go_wp2_with fail
 refine Calls.mono HP.out ?_
 rintro e w4 ⟨P,rfl,hP,hpb,hb4⟩
 have hwr4:=Hwr3.out.below hb4
 have hl4:([] ++ bJ (Int.toNat 1)).length≤90000000:=by rw [List.nil_append]; have:=dM (Int.toNat 1); omega
 have HPut:=hid (Iz w1.heap.size w1.heap.size P _ q.job w4 hpb HJW.out hwr4 hl4)
 have Ko:=Hk3.out.below (Nat.le_refl _) Hsz.out
 have HB4:=hid ((HB2.out.trans (Ko.mono (Nat.le_of_lt Km.out))).trans (hb4.mono (HB2.out.trans (Ko.mono (Nat.le_of_lt Km.out))).size))
 have Hs4:=hid (Nat.le_trans Hsz.out (Nat.le_trans Ko.size hb4.size))
 clear hP hpb hb4 hwr4 hl4 Ko HP Hwr3 Hk3 d0 d1 d2 d3 d4 d5 d6 d7 d8 d9 d10 d11 d12 d13 hlt3
 go_wp2_with fail
 refine Calls.mono HPut.out ?_
 rintro e w5 ⟨rfl,hwr5,hk5⟩
 have HK5:=hid (HB4.out.trans ((hk5.below (Nat.le_refl _) Hs4.out).mono (Nat.le_of_lt Km.out)))
 obtain⟨_,AA,m,cc,hBW,ho⟩:=hwr5.at_
 have z0:w5.cell? ⟨w1.heap.size,0,none⟩=some (.slice AA m cc):=hBW.cell 0
 have hlw5:=hBW.lt
 have hrun:=iE (P:=Tryz.prog) Tryz.underlying129 Tryz.underlying5 Tryz.underlying9 ho
 clear hwr5 hk5 hBW ho HPut hm
 go_wp2
 go_ret2
 exact⟨rfl,HK5.out⟩
end Go.Proofs.YtoeejfhdjmkpcaaGreatDoor
/- Words for the walks of laws that ask a server. -/
namespace Go.Proofs.YtoeejfhdjmkpcaaGreatDoor
open Go.Lib (hid)
open Go.RowKit
theorem L7 {q:aU} (h:sF q):ROk q:=⟨h.job.1,h.job.2.2.2.2,h.node.1,h.node.2.2,h.lease.1,h.lease.2.1,h.name⟩
theorem AD {ops:Array Oper} {o p:Oper} {a:Act} {j t:Nat} {b:Bool} (h1:ops[j]? = some p) (h2:p.dst=some t) (h3:a.tmps[t]? = some (.bool b)) (h4:o.guard=some (j,b)):Region.wanted o (yielded ops a.tmps)=true:=by
 unfold Region.wanted yielded
 rw [h4]
 simp only [h1,Option.bind_some,h2,h3]
 cases b <;> rfl
theorem Dr {P:Program} {ops:Array Oper} {o p:Oper} {a:Act} {w:World} {j t:Nat} (b:Bool) {K:Act→World→Prop} {Q:Exit→Act→World→Prop} (h1:ops[j]? = some p) (h2:p.dst=some t) (h4:o.guard=some (j,b)) (h3:∃ u,a.tmps[t]? = some u∧u = .bool b) (ht:o.wp P a w K Q):ou P ops o a w K Q:=by
 obtain⟨u,h3,rfl⟩:=h3
 unfold ou
 rw [AD h1 h2 h3 h4,if_pos rfl]
 exact ht
theorem okR {Γ:Type} {P:Program} {ops:Array Oper} {V:Γ→Nat→Value→Prop} {a0:Act} {S:List Nat} {Ph:Nat→Γ→World→Prop} {Q:Exit→Act→World→Prop} {i:Nat} {o p0:Oper} (b:Bool) (j t:Nat) (h1:ops[j]? = some p0) (h2:p0.dst=some t) (hg:o.guard=some (j,b)) (hv:∀ γ u,V γ j u→u = .bool b)
 (h:∀ p γ a w,0≤p→p≤0→Ph p γ w→Knows ops (V γ) a0 i o a→o.wp P a w (fun a' w'=>∃ u γ',a'=a.put o.dst u∧(∀ j v,j≠i→V γ j v→V γ' j v)∧V γ' i u∧Ph p γ' w') Q)
 (h0:i ∉ S:=by decide) (hl:loB S o 0=true:=by decide +kernel) (hh:hiB ops S i 0=true:=by decide +kernel) (h3:waitsFor o j=true:=by decide +kernel):xW P ops V S Ph a0 Q i o:=
 .inr ⟨h0,0,0,hl,hh,fun p γ a w hpl hph hp hk=>Dr b h1 h2 hg (by obtain⟨u,hu,hV⟩:=hk.g j t h1 h2 h3; exact⟨u,hu,hv γ u hV⟩) (h p γ a w hpl hph hp hk)⟩
theorem SrvAt.drew {w:World} {T:TypeId} {B:Nat} {st:ak} {x:StA} {now:Int} (h:SrvAt w T B st x now):SrvAt w.drew T B st x now:=⟨h.blk,h.at_.drew,h.ok,h.t⟩
end Go.Proofs.YtoeejfhdjmkpcaaGreatDoor
