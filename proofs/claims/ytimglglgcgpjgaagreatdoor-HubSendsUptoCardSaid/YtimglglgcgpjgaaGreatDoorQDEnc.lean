/- Of the proof of a statement: HubMem, HubC, PlHub, PlHubS, HubT, DEnc, HubW, PlRqD, ReqDN. -/
import Derived.Test.YtimglglgcgpjgaaGreatDoorQWFrame
set_option linter.unusedVariables false
set_option linter.unusedSimpArgs false
set_option maxRecDepth 100000
set_option maxHeartbeats 8000000
namespace Go.Proofs.YtimglglgcgpjgaaGreatDoor
open Go.RowKit
structure Gr (S:Nat->Prop) (w w':World):Prop where
 os:w'.os=w.os
 tape:w'.tape=w.tape
 output:w'.output=w.output
 size:w.heap.size<=w'.heap.size
 block:∀ k,k<w.heap.size->¬ S k->w'.heap[k]? = w.heap[k]?
section
variable {S S':Nat->Prop} {w w' w'':World}
theorem Gr.refl (S:Nat->Prop) (w:World):Gr S w w:=⟨rfl,rfl,rfl,lJ,fun _ _ _=>rfl⟩
theorem Gr.of_below (S:Nat->Prop) (h:Below w w w'):Gr S w w':=⟨h.os,h.tape,h.output,h.size,fun k a _=>h.block k a⟩
theorem Gr.mC {row:Option Nat} (h:w.grownBy w' row) (c:∀ g,row=some g->S g):Gr S w w':=⟨h.os,h.tape,h.output,h.size,fun k a b=>h.block k a (fun e=>b (c k e.symm))⟩
theorem Gr.trans (h:Gr S w w') (k:Gr S' w' w'') (d:∀ b,b<w.heap.size->S' b->S b):Gr S w w'':=
 ⟨k.os.trans h.os,k.tape.trans h.tape,k.output.trans h.output,v6 h.size k.size,fun b a c=>(k.block b (u7 a h.size) (fun e=>c (d b a e))).trans (h.block b a c)⟩
theorem Gr.below {B:Nat} (h:Gr S w w') (a:∀ b,S b->B<=b) (c:B<=w.heap.size):Below B w w':=⟨h.os,h.tape,h.output,h.size,fun k d=>h.block k (by omega) (fun e=>by have:=a k e; omega)⟩
theorem Gr.blk {k:Nat} {t:TypeId} {cs:Array Value} (h:Gr S w w') (a:Blk w k t cs) (b:¬ S k):Blk w' k t cs:=(h.block k a.lt b).trans a
end
structure bf where
 rest:ByteArray
 far:Nat
 stuck:Nat
 closed:Bool
 aG:Bool
 waits:List UInt8
def upd {α:Type} (f:Nat->α) (k:Nat) (v:α):Nat->α:=fun i=>if i=k then v else f i
theorem bL {α:Type} (f:Nat->α) (k:Nat) (v:α):upd f k v k=v:=by unfold upd; rw [if_pos rfl]
theorem upd_ne {α:Type} (f:Nat->α) {k i:Nat} (v:α) (h:i≠k):upd f k v i=f i:=by unfold upd; rw [if_neg h]
theorem nL {α:Type} (f:Nat->α) (k:Nat) (v v':α):upd (upd f k v) k v'=upd f k v':=by
 funext i; unfold upd; split <;> rfl
theorem qA {α:Type} (f:Nat->α) (k:Nat):upd f k (f k)=f:=by
 funext i; unfold upd; split
 · subst_vars; rfl
 · rfl
def oK (fb:Nat) (c:bf) (v:Value):List Value:=[π fb 0,.bool c.closed,.bool c.aG,v]
def nR (V:Nat) (fb:Nat->Nat) (wv:Nat->Value) (cs:Nat->bf):Array Value:=
 (.pointer (some ⟨V,0,none⟩) :: (oK (fb 0) (cs 0) (wv 0) ++ oK (fb 1) (cs 1) (wv 1) ++ oK (fb 2) (cs 2) (wv 2) ++ oK (fb 3) (cs 3) (wv 3) ++ oK (fb 4) (cs 4) (wv 4) ++ oK (fb 5) (cs 5) (wv 5) ++ oK (fb 6) (cs 6) (wv 6) ++ oK (fb 7) (cs 7) (wv 7))).toArray
section
variable {V:Nat} {fb:Nat->Nat} {wv:Nat->Value} {cs:Nat->bf} {k:Nat}
theorem lt8 (h:k<8):k=0\/k=1\/k=2\/k=3\/k=4\/k=5\/k=6\/k=7:=by omega
theorem xI:(nR V fb wv cs)[0]? = some (.pointer (some ⟨V,0,none⟩)):=rfl
theorem IB (h:k<8):(nR V fb wv cs)[1+k*4]? = some (.pointer (some ⟨fb k,0,none⟩)):=by rcases lt8 h with rfl | rfl | rfl | rfl | rfl | rfl | rfl | rfl <;> rfl
theorem kA (h:k<8):(nR V fb wv cs)[1+k*4+1]? = some (.bool (cs k).closed):=by rcases lt8 h with rfl | rfl | rfl | rfl | rfl | rfl | rfl | rfl <;> rfl
theorem qm (h:k<8):(nR V fb wv cs)[1+k*4+2]? = some (.bool (cs k).aG):=by rcases lt8 h with rfl | rfl | rfl | rfl | rfl | rfl | rfl | rfl <;> rfl
theorem jv (h:k<8):(nR V fb wv cs)[1+k*4+3]? = some (wv k):=by rcases lt8 h with rfl | rfl | rfl | rfl | rfl | rfl | rfl | rfl <;> rfl
theorem uI (h:k<8) (v:Value) (c:bf) (a:c.closed=(cs k).closed) (b:c.aG=(cs k).aG):(nR V fb wv cs).setIfInBounds (1+k*4+3) v=nR V fb (upd wv k v) (upd cs k c):=by
 rcases lt8 h with rfl | rfl | rfl | rfl | rfl | rfl | rfl | rfl <;> simp [nR,oK,upd,a,b]
theorem Aa (h:k<8) (c:bf) (a:c.aG=(cs k).aG):(nR V fb wv cs).setIfInBounds (1+k*4+1) (.bool c.closed)=nR V fb wv (upd cs k c):=by
 rcases lt8 h with rfl | rfl | rfl | rfl | rfl | rfl | rfl | rfl <;> simp [nR,oK,upd,a]
theorem xJ (h:k<8) (c:bf) (a:c.closed=(cs k).closed):(nR V fb wv cs).setIfInBounds (1+k*4+2) (.bool c.aG)=nR V fb wv (upd cs k c):=by
 rcases lt8 h with rfl | rfl | rfl | rfl | rfl | rfl | rfl | rfl <;> simp [nR,oK,upd,a]
theorem IC (h:k<8) (c:bf) (a:c.closed=(cs k).closed) (b:c.aG=(cs k).aG):nR V fb wv cs=nR V fb wv (upd cs k c):=by
 rcases lt8 h with rfl | rfl | rfl | rfl | rfl | rfl | rfl | rfl <;> simp [nR,oK,upd,a,b]
theorem Ke {f:Nat} {c:bf} {v u:Value} (a:u ∈ oK f c v):(∃ p,u = .pointer p)\/(∃ b,u = .bool b)\/u=v:=by
 simp only [oK,List.mem_cons,List.not_mem_nil,or_false] at a;rcases a with rfl | rfl | rfl | rfl
 · exact .inl ⟨_,rfl⟩
 · exact .inr (.inl ⟨_,rfl⟩)
 · exact .inr (.inl ⟨_,rfl⟩)
 · exact .inr (.inr rfl)
theorem ID (f:∀ i,i<8->∃ A n c,wv i = .slice A n c):gL (nR V fb wv cs):=nT (by
 intro u a s e;subst e;simp only [nR,List.mem_toArray,List.mem_cons,List.mem_append] at a
 have H:∀ i,i<8->(Value.string s) ∉ oK (fb i) (cs i) (wv i):=by
  intro i d a;rcases Ke a with ⟨p,h⟩ | ⟨p,h⟩ | h
  · cases h
  · cases h
  · obtain⟨A,n,c,b⟩:=f i d;rw [b] at h; cases h
 rcases a with h | ((((((h | h) | h) | h) | h) | h) | h) | h
 · cases h
 all_goals exact H _ (by decide) h)
end
structure cJ (w:World) (g V:Nat) (fb:Nat->Nat) (wv:Nat->Value) (cs:Nat->bf) (st:ah) (x:StA) (now:Int):Prop where
 blk:Blk w g 60 (nR V fb wv cs)
 srv:SrvAt w 106 V st x now
 feed:∀ i,i<8->kB w (fb i) (cs i).rest ((cs i).far:Int) ((cs i).stuck:Int)
 wait:∀ i,i<8->ByteRow w (wv i) (cs i).waits
 fbi:∀ i j,i<8->j<8->fb i=fb j->i=j
 wvi:∀ i j b,i<8->j<8->(wv i).ownBlock=some b->(wv j).ownBlock=some b->i=j
def su (g V:Nat) (fb:Nat->Nat) (wv:Nat->Value) (k:Nat):Prop:=k=g\/k=V\/∃ i,i<8/\(k=fb i\/(wv i).ownBlock=some k)
theorem Ab {w:World} {g:Nat} {t b:TypeId} {cs c:Array Value} (h:Blk w g t cs) (a:Blk w g b c):t=b:=by
 unfold Blk at h a;rw [h] at a;simp only [Option.some.injEq,Obj.cells.injEq] at a;exact a.2.1
theorem bH {w:World} {g a:Nat} {t b:TypeId} {cs c:Array Value} (h:Blk w g t cs) (d:Blk w a b c) (f:t≠b):g≠a:=fun e=>by subst e; exact f (Ab h d)
section
variable {w w':World} {g V k:Nat} {fb:Nat->Nat} {wv:Nat->Value} {cs:Nat->bf} {st:ah} {x:StA} {now:Int}
theorem cJ.below (h:cJ w g V fb wv cs st x now) (b:Below w w w'):cJ w' g V fb wv cs st x now:=
 ⟨h.blk.below b h.blk.lt,h.srv.below b,fun i a=>Blk.below (h.feed i a) b (Blk.lt (h.feed i a)),fun i a=>(h.wait i a).keep fun c e=>b.block c (by obtain⟨f,d,_⟩:=(h.wait i a).blk e; exact d.lt),h.fbi,h.wvi⟩
theorem cJ.CK (h:cJ w g V fb wv cs st x now):gL (nR V fb wv cs):=ID fun i a=>by obtain⟨A,c,e⟩:=(h.wait i a).shape; exact⟨_,_,_,e⟩
theorem StAt.grew (h:StAt w w st x) {v v':Value} {l:List UInt8} (f:ByteRow w v l) (b:cY w w' v v'):StAt w' w' st x:=by
 cases a:v.ownBlock with
 | none=>
  have:=b.grown;rw [a] at this;exact h.upS ⟨this.os,this.tape,this.output,this.size,fun k e=>this.block k e (by simp)⟩
 | some i=>
  obtain⟨j,c,d⟩:=f.blk a;have:=b.grown;rw [a] at this;exact (h.fY c d this).more this.size
theorem qB {b:Nat} {t:TypeId} {c:Array Value} (h:Blk w b t c) (i:t ≠ 5) {v v':Value} {l:List UInt8} (f:ByteRow w v l) (d:cY w w' v v'):Blk w' b t c:=
 (d.grown.block b h.lt (fun e=>by obtain⟨j,a,_⟩:=f.blk e.symm; exact i (Ab h a))).trans h
theorem cJ.put (h:cJ w g V fb wv cs st x now) (r:k<8) {v':Value} {y:List UInt8} {j:World} (m:cY w j (wv k) v') (z:ByteRow j v' y) :
 cJ (sX j g (1+k*4+3) v') g V fb (upd wv k v') (upd cs k { cs k with waits:=y }) st x now/\Blk j g 60 (nR V fb wv cs)/\Gr (su g V fb wv) w (sX j g (1+k*4+3) v'):=by
 have v:=h.wait k r;have p:=qB h.blk (by decide) v m;have I:=qB h.srv.blk (by decide) v m;have O:=h.srv.at_.grew v m;have L:g≠V:=bH h.blk h.srv.blk (by decide);have n:=aR j g (1+k*4+3) v';have N:=h.CK;have F:∀ b c,Blk j b 5 c->b≠g:=fun b c l=>(bH p l (by decide)).symm;have C:∀ i,i≠k->upd cs k { cs k with waits:=y } i=cs i:=fun i d=>upd_ne _ _ d;have s:∀ i,i≠k->upd wv k v' i=wv i:=fun i d=>upd_ne _ _ d;refine⟨⟨?_,⟨ay n I L.symm,(O.fY p N n).more n.size,h.srv.ok,h.srv.t⟩,fun i d=>?_,fun i d=>?_,h.fbi,fun i o b d G a f=>?_⟩,p,?_⟩
 · rw [<- uI r v' { cs k with waits:=y } rfl rfl];exact p.set _ _
 · have D:=qB (h.feed i d) (by decide) v m;have E:kB (sX j g (1+k*4+3) v') (fb i) (cs i).rest ((cs i).far:Int) ((cs i).stuck:Int):=ay n D (bH D p (by decide));by_cases e:i=k
   · subst e; rw [bL]; exact E
   · rw [C i e]; exact E
 · by_cases e:i=k
   · subst e;rw [bL,bL];exact z.keep fun b l=>n.block b (by obtain⟨c,a,_⟩:=z.blk l; exact a.lt) (fun e=>by obtain⟨c,a,_⟩:=z.blk l; injection e with e; exact F b c a e)
   · rw [C i e,s i e];refine (h.wait i d).keep fun b l=>?_;obtain⟨c,a,_⟩:=(h.wait i d).blk l;have A:=m.grown.block b a.lt (fun J=>e (h.wvi i k b d r l J.symm));have B:Blk j b 5 c:=A.trans a;exact (n.block b B.lt (fun e=>by injection e with e; exact F b c B e)).trans A
 · have H:∀ i,i<8->i≠k->(wv i).ownBlock=some b->v'.ownBlock=some b->False:=by
    intro i d M a f;rcases m.own with e | ⟨Q,e,P⟩
    · rw [e] at f; exact M (h.wvi i k b d r a f)
    · rw [e] at f;injection f with f;subst f;obtain⟨c,K,_⟩:=(h.wait i d).blk a;exact absurd K.lt (by omega)
   by_cases u:i=k
   · by_cases q:o=k
     · omega
     · subst u; rw [bL] at a; rw [s o q] at f; exact absurd (H o G q f a) id
   · by_cases q:o=k
     · subst q; rw [bL] at f; rw [s i u] at a; exact absurd (H i d u a f) id
     · rw [s i u] at a; rw [s o q] at f; exact h.wvi i o b d G a f
 · exact (Gr.mC (S:=su g V fb wv) m.grown fun b e=>.inr (.inr ⟨k,r,.inr e⟩)).trans (Gr.mC (S:=su g V fb wv) n fun b e=>by injection e with e; exact .inl e.symm) fun _ _ h=>h
theorem cJ.cell (h:cJ w g V fb wv cs st x now) (C:k<8) {j:Nat} {u:Value} {c:bf} {v:Value} (z:(nR V fb wv cs).setIfInBounds j u=nR V fb (upd wv k v) (upd cs k c)) (p:c.rest=(cs k).rest) (q:c.far=(cs k).far) (r:c.stuck=(cs k).stuck) (n:(v=wv k/\c.waits=(cs k).waits)\/(v = .slice none 0 0/\c.waits=[])) :
 cJ (sX w g j u) g V fb (upd wv k v) (upd cs k c) st x now/\Gr (su g V fb wv) w (sX w g j u):=by
 have d:=aR w g j u;have A:g≠V:=bH h.blk h.srv.blk (by decide)
 have keep:∀ i,i<8->ByteRow (sX w g j u) (wv i) (cs i).waits:=fun i a=>(h.wait i a).keep fun b y=>by
  obtain⟨c,l,_⟩:=(h.wait i a).blk y;exact d.block b l.lt (fun e=>by injection e with e; exact bH h.blk l (by decide) e.symm)
 refine⟨⟨?_,⟨ay d h.srv.blk A.symm,(h.srv.at_.fY h.blk h.CK d).more d.size,h.srv.ok,h.srv.t⟩,fun i a=>?_,fun i a=>?_,h.fbi,fun i j b a B l s=>?_⟩,Gr.mC d fun b e=>by injection e with e; exact .inl e.symm⟩
 · rw [<- z]; exact h.blk.set _ _
 · have m:kB (sX w g j u) (fb i) (cs i).rest ((cs i).far:Int) ((cs i).stuck:Int):=ay d (h.feed i a) (bH (h.feed i a) h.blk (by decide));by_cases e:i=k
   · subst e; rw [bL,p,q,r]; exact m
   · rw [upd_ne _ _ e]; exact m
 · by_cases e:i=k
   · subst e;rw [bL,bL];rcases n with ⟨rfl,e⟩ | ⟨rfl,e⟩
     · rw [e]; exact keep i a
     · rw [e]; exact .nil _
   · rw [upd_ne _ _ e,upd_ne _ _ e]; exact keep i a
 · have o:∀ i,(upd wv k v i).ownBlock=some b->(wv i).ownBlock=some b:=by
    intro i f;by_cases e:i=k
    · subst e;rw [bL] at f;rcases n with ⟨rfl,_⟩ | ⟨rfl,_⟩
      · exact f
      · cases f
    · rw [upd_ne _ _ e] at f; exact f
   exact h.wvi i j b a B (o i l) (o j s)
theorem cJ.pushed (h:cJ w g V fb wv cs st x now) (b:k<8) {c:bf} (a:w.grownBy w' (some (fb k))) (r:kB w' (fb k) c.rest (c.far:Int) (c.stuck:Int)) (m:c.closed=(cs k).closed) (n:c.aG=(cs k).aG) (o:c.waits=(cs k).waits) :
 cJ w' g V fb wv (upd cs k c) st x now/\Gr (su g V fb wv) w w':=by
 have s:g≠fb k:=bH h.blk (h.feed k b) (by decide);have p:V≠fb k:=bH h.srv.blk (h.feed k b) (by decide);refine⟨⟨?_,⟨ay a h.srv.blk p,(h.srv.at_.vZ (h.feed k b) a).more a.size,h.srv.ok,h.srv.t⟩,fun i d=>?_,fun i d=>?_,h.fbi,h.wvi⟩,Gr.mC a fun f e=>by injection e with e; exact .inr (.inr ⟨k,b,.inl e.symm⟩)⟩
 · rw [<- IC b c m n]; exact ay a h.blk s
 · by_cases e:i=k
   · subst e; rw [bL]; exact r
   · rw [upd_ne _ _ e]; exact ay a (h.feed i d) (fun l=>e (h.fbi i k d b l))
 · have:(upd cs k c i).waits=(cs i).waits:=by
    by_cases e:i=k
    · subst e; rw [bL]; exact o
    · rw [upd_ne _ _ e]
   rw [this];refine (h.wait i d).keep fun f q=>?_;obtain⟨c,j,_⟩:=(h.wait i d).blk q;exact a.block f j.lt (fun e=>by injection e with e; exact bH (h.feed k b) j (by decide) e.symm)
theorem cJ.asked (h:cJ w g V fb wv cs st x now) {st':ah} {f:StA} {c:Int} (b:w.grownBy w' (some V)) (d:Blk w' V 106 (iB st' f c)) (o:StAt w' w' st' f) (m:aE st'=0) (p:0<=c/\c<=1099511627776) :
 cJ w' g V fb wv cs st' f c/\Gr (su g V fb wv) w w':=by
 have n:g≠V:=bH h.blk h.srv.blk (by decide);refine⟨⟨ay b h.blk n,⟨d,o,m,p⟩,fun i a=>ay b (h.feed i a) (bH (h.feed i a) h.srv.blk (by decide)),fun i a=>?_,h.fbi,h.wvi⟩,Gr.mC b fun j e=>by injection e with e; exact .inr (.inl e.symm)⟩;refine (h.wait i a).keep fun j d=>?_;obtain⟨q,l,_⟩:=(h.wait i a).blk d;exact b.block j l.lt (fun e=>by injection e with e; exact bH h.srv.blk l (by decide) e.symm)
end
structure dQ (g V:Nat) (fb:Nat->Nat) (wv wv':Nat->Value) (w w':World):Prop where
 gr:Gr (su g V fb wv) w w'
 own:∀ i,i<8->(wv' i).ownBlock=none\/(wv' i).ownBlock=(wv i).ownBlock\/∃ b,(wv' i).ownBlock=some b/\w.heap.size<=b
 far:∀ b,b<w.heap.size->sE 106 V w b->sE 106 V w' b
section
variable {g V:Nat} {fb:Nat->Nat} {wv wv' wv'':Nat->Value} {w w' w'':World}
theorem dQ.refl (g V:Nat) (fb:Nat->Nat) (wv:Nat->Value) (w:World):dQ g V fb wv wv w w:=⟨Gr.refl _ _,fun _ _=>.inr (.inl rfl),fun _ _ h=>h⟩
theorem dQ.trans (h:dQ g V fb wv wv' w w') (k:dQ g V fb wv' wv'' w' w''):dQ g V fb wv wv'' w w'':=by
 refine⟨h.gr.trans k.gr fun c d j=>?_,fun i b=>?_,fun c d a=>k.far c (u7 d h.gr.size) (h.far c d a)⟩
 · rcases j with e | e | ⟨i,b,e | e⟩
   · exact .inl e
   · exact .inr (.inl e)
   · exact .inr (.inr ⟨i,b,.inl e⟩)
   · rcases h.own i b with a | a | ⟨q,a,f⟩
     · rw [a] at e; cases e
     · rw [a] at e; exact .inr (.inr ⟨i,b,.inr e⟩)
     · rw [a] at e; injection e with e; omega
 · rcases k.own i b with a | a | ⟨q,a,f⟩
   · exact .inl a
   · rw [a]; exact h.own i b
   · exact .inr (.inr ⟨q,a,v6 h.gr.size f⟩)
theorem dQ.below_ (h:dQ g V fb wv wv' w w') (a:Below w' w' w''):dQ g V fb wv wv' w w'':=h.trans ⟨Gr.of_below _ a,fun _ _=>.inr (.inl rfl),fun _ _ h=>h.keep (a.block V h.1) a.size⟩
end
def jE (g o:Nat) (v:Value) (L:List UInt8) (w:World) (e:Ending) (w':World):Prop:=
 e = .returned (.tuple #[])/\∃ a v',ByteRow a v' L/\cY w a v v'/\w'=a.setCell ⟨g,o,none⟩ v'
theorem cY.of_below {w w0 w':World} {v v':Value} (a:Below w w w0) (h:cY w0 w' v v'):cY w w' v v':=
 cY.trans ⟨⟨a.os,a.tape,a.output,a.size,fun k b _=>a.block k b⟩,.inl rfl⟩ h
theorem jE.first {g o:Nat} {v:Value} {L:List UInt8} {w w0 w':World} {e:Ending} (f:Below w w w0) (h:jE g o v L w0 e w'):jE g o v L w e w':=by
 obtain⟨a,j,i,b,c,d⟩:=h;exact⟨a,j,i,b,.of_below f c,d⟩
theorem ByteRow.below {w w':World} {v:Value} {l:List UInt8} (h:ByteRow w v l) (c:Below w w w'):ByteRow w' v l:=
 h.keep fun b d=>c.block b (by obtain⟨e,a,_⟩:=h.blk d; exact a.lt)
theorem pW (v k:Nat) (p:List UInt8) (c:p.length<=6000):0<(pT v k p).length/\(pT v k p).length<=6020:=by
 have a:(pC (BJ v k p)).length=4:=rfl;have b:=dO p.length;unfold pT;rw [List.length_append,a];simp only [BJ,List.length_append,List.length_cons,List.length_nil];omega
theorem Kf {kind:Int} {p:ByteArray} (a:1<=kind/\kind<=4) (b:p.size<=6000):uU 3 kind p=(BA (pT 3 kind.toNat p.data.toList),0):=by
 unfold uU;rw [if_neg (by omega),if_neg (by omega)];rfl
theorem DI (g o:Nat) (T:TypeId) (cs:Array Value) (v:Value) (l:List UInt8) (kind:Int) (p:ByteArray) (w:World) (i:Blk w g T cs) (P:T ≠ 5) (B:cs[o+3]? = some v) (E:ByteRow w v l) (D:1<=kind/\kind<=4) (n:p.size<=6000) (Y:l.length<=35184372088832) :
 ψ 85 #[π g o,kind,p] w (jE g (o+3) v (l ++ pT 3 kind.toNat p.data.toList) w):=by
 have C:=ω (G3 3 kind p w);have h:=Kf D n;have O:=pW 3 kind.toNat p.data.toList (by simpa using n);generalize M:pT 3 kind.toNat p.data.toList=L at h O |-;have u:=ω h;have d:=ω i;have r:=ω B;have y:=ω E;have N:(BA L).size=L.length:=oO L;have j:(BA L).data.toList=L:=G4 L;have hlt:=i.lt;clear M h i B E D n;go_enter Tryz.func85,Tryz.ntmps85
 go_wp2_with fail
 refine C.mono ?_;rintro X Q ⟨rfl,b⟩;rw [u.z];dsimp only;have a:=d.below b d.lt;have y0:ζ Q g (o+3) v:=by rw [a.cell]; exact r
 have Z:=a.lt;have z:=ω (y.below b);have J:=ω b;have G:=ω a;obtain⟨s,q⟩:∃ s,BA L=s:=⟨_,rfl⟩;rw [q] at N j |-;have U:=ω q;have K:=ω j;clear C u b a d y q j
 go_wp2_with (at_builtin; refine DJ rfl _ _ rfl v l rfl z.z s rfl (by omega) (by omega) ?_; intro v' F c m; rw [K.z] at c; obtain⟨R,W,rfl⟩:=c.shape; have e:=qB G.z P z.z m; have z0:ζ F g (o+3) v:=(e.cell _).trans r.z; have zt:κ F g (o+3):=e.thaw _; have I:=ω c; have H:=ω m; clear c m e)
 go_end0;exact⟨rfl,_,_,I,.of_below J.z H.z,by rw [List.length_append]⟩
theorem nU (c r:Int):(gS c r).1.size<=22:=by
 unfold gS
 split
 · have a:=dO c.toNat;have b:=dO r.toNat
   show ((qY c r).toArray).size<=22
   rw [List.size_toArray,qY,List.length_append];omega
 · show 0<=22
   omega
theorem uV (g o:Nat) (T:TypeId) (cs:Array Value) (v:Value) (l:List UInt8) (c r:Int) (w:World) (h:Blk w g T cs) (F:T ≠ 5) (s:cs[o+3]? = some v) (y:ByteRow w v l) (E:l.length<=35184372088832) :
 ψ 44 #[π g o,.agg #[c,r]] w (jE g (o+3) v (l ++ pT 3 4 (gS c r).1.data.toList) w):=by
 obtain⟨W,b⟩:∃ W,w.alloc (.cells #[c,r] 92)=W:=⟨_,rfl⟩;have j:Below w w W:=by rw [<- b]; exact (θ).alloc lJ _
 have i:Blk W w 92 #[c,r]:=by rw [<- b]; exact n5 w _
 have n:=ω (IE c r W);obtain⟨c0,B⟩:=Blk.c2 (i);have hlt:=i.lt;have m:=ω (fun (a:World) (D:Below W W a)=>(have e:Below w w a:=j.trans (D.mono j.size); And.intro e (DI g o T cs v l 4 (gS c r).1 a (h.below e h.lt) F s (y.below e) (by omega) (v6 (nU c r) (by omega)) E)));have p:=ω b;clear b j i h s y;go_enter Tryz.func44,Tryz.ntmps44
 go_wp2_with fail
 try rw [p.z]
 clear p;refine n.mono ?_;rintro C a ⟨rfl,q⟩;have d:=ω (m.z a q);clear m q n c0 B
 go_wp2_with fail
 refine Calls.mono d.z.2 ?_;rintro C G u;have z:=ω (u.first d.z.1);obtain⟨rfl,_⟩:=u;clear d;go_wp2;go_end0;exact z
def IF (g o:Nat) (l:List UInt8) (w:World) (e:Ending) (w':World):Prop:=e = .returned (.string (BA l))/\w'=w.setCell ⟨g,o,none⟩ (.slice none 0 0)
theorem tT (g o:Nat) (T:TypeId) (cs:Array Value) (v:Value) (l:List UInt8) (w:World) (a:Blk w g T cs) (c:cs[o+3]? = some v) (b:ByteRow w v l) :
 ψ 25 #[π g o] w (IF g (o+3) l w):=by
 obtain⟨A,d,rfl⟩:=b.shape;have e:=iS (P:=Tryz.prog) Tryz.underlying55 Tryz.underlying5 Tryz.underlying9 b.owns;have h:ζ w g (o+3) (.slice A l.length d):=by rw [a.cell]; exact c
 have i:κ w g (o+3):=a.thaw _;have hlt:=a.lt;clear a c b;go_enter Tryz.func25,Tryz.ntmps25;go_wp2;go_ret;exact⟨rfl,rfl⟩
structure cL where
 st:ah
 now:Int
 cs:Nat->bf
def uJ (k:Nat) (p:ByteArray) (c:bf):bf:={ c with waits:=c.waits ++ pT 3 k p.data.toList }
def iU (e r:Int) (c:bf):bf:=uJ 4 (gS e r).1 c
def uD (l:List UInt8) (c:bf):bf:={ c with waits:=c.waits ++ l }
def Ac (e r:Int) (c:bf):bf:={ iU e r c with closed:=true }
def jS (H:cL) (k:Nat) (e:Int):cL:={ H with cs:=upd H.cs k (Ac e H.st.rev (H.cs k)) }
def mD (tl:ah->List UInt8) (st:ah) (b:ByteArray) (e:Int) (c:bf):bf:=if c.closed=true\/c.aG=false then c else if e=0 then uJ 2 b c else uD (tl st) c
def jF (tl:ah->List UInt8) (st:ah) (b:ByteArray) (e:Int) (cs:Nat->bf) (n:Nat):Nat->bf:=fun i=>if i<n then mD tl st b e (cs i) else cs i
def mE (tl:ah->List UInt8) (H:cL) (D:aX):cL:={ H with cs:=jF tl H.st (mh D).1 (mh D).2 H.cs 8 }
def oC (q:aK):Prop:=q.kind=8\/q.kind=9
instance (q:aK):Decidable (oC q):=by unfold oC; exact inferInstance
def jw (tl:ah->List UInt8) (q:aK) (R:lF) (c:bf):bf:=
 if R.e=0/\oC q then { uD (tl R.st) (iU R.e R.st.rev c) with aG:=c.aG || decide (q.kind=9) } else iU R.e R.st.rev c
noncomputable def lW (tl:ah->List UInt8) (H:cL) (k:Nat) (q:aK):cL:=
 let R:=lO H.st H.now (lG H.st H.now q)
 let a:cL:=⟨R.st,R.now,upd H.cs k (jw tl q R (H.cs k))⟩
 if R.ch=true then mE tl a (dL H.st R.st) else a
noncomputable def jy (tl:ah->List UInt8) (rq:ByteArray->aK × Int) (H:cL) (k:Nat) (f:cM):cL:=
 if f.ver≠3\/f.kind≠3 then jS H k 1 else if (rq f.pay).2≠0 then jS H k (rq f.pay).2 else lW tl H k (rq f.pay).1
noncomputable def bZ (tl:ah->List UInt8) (rq:ByteArray->aK × Int) (k:Nat):cL->List cM->cL
 | H,[]=>H
 | H,f :: a=>bZ tl rq k (if (H.cs k).closed=true then H else jy tl rq H k f) a
def mF (c:bf) (s:ByteArray) (m e:Nat):bf:={ c with rest:=if e=3 then s.extract m s.size else ⟨#[]⟩,far:=c.far+m,stuck:=if e=3 then 0 else e }
noncomputable def jG (tl:ah->List UInt8) (rq:ByteArray->aK × Int) (H:cL) (k:Nat) (s:ByteArray) (fs:List cM) (m e:Nat):cL:=
 let a:=bZ tl rq k { H with cs:=upd H.cs k (mF (H.cs k) s m e) } fs
 if e≠3/\(a.cs k).closed=false then jS a k e else a
def xK (c:bf):bf:={ c with waits:=[] }
def mG (H:cL) (k:Nat):cL:={ H with cs:=upd H.cs k (xK (H.cs k)) }
def BK (st:ah):cL:=⟨st,0,fun _=>⟨⟨#[]⟩,0,0,false,false,[]⟩⟩
theorem xL (D:aX):(mh D).1.size<=6000:=by
 unfold mh
 split
 · split
   · exact Nat.zero_le _
   · rename_i h
     show ((oD D).toArray).size<=6000
     rw [List.size_toArray]; omega
 · exact Nat.zero_le _
section
variable {tl:ah->List UInt8} {rq:ByteArray->aK × Int}
theorem qZ {k:Nat} {f:cM}:∀ {a:List cM} {n:Nat} {H:cL},a[n]? = some f->bZ tl rq k H (a.take (n+1))=(if ((bZ tl rq k H (a.take n)).cs k).closed=true then bZ tl rq k H (a.take n) else jy tl rq (bZ tl rq k H (a.take n)) k f)
 | [],_,_,h=>by simp at h
 | b :: a,0,H,h=>by
  have e:b=f:=by simpa using h
  subst e;rfl
 | b :: a,n+1,H,h=>by
  have c:a[n]? = some f:=by simpa using h
  show bZ tl rq k _ (a.take (n+1))=_
  rw [qZ c];rfl
theorem DK (st:ah) (b:ByteArray) (e:Int) (c:bf):(mD tl st b e c).aG=c.aG:=by
 unfold mD
 split
 · rfl
 · split <;> rfl
theorem Ad (H:cL) (D:aX) (i:Nat):((mE tl H D).cs i).aG=(H.cs i).aG:=by
 show (jF tl H.st (mh D).1 (mh D).2 H.cs 8 i).aG=_
 unfold jF
 split
 · exact DK _ _ _ _
 · rfl
theorem tU {cs:Nat->bf} {k i:Nat} {c:bf} (h:c.aG=(cs k).aG):(upd cs k c i).aG=(cs i).aG:=by
 by_cases e:i=k
 · subst e; rw [bL]; exact h
 · rw [upd_ne _ _ e]
theorem CL {H:cL} {k:Nat} {f:cM} (a:¬ oC (rq f.pay).1) (i:Nat):((jy tl rq H k f).cs i).aG=(H.cs i).aG:=by
 unfold jy
 split
 · exact tU rfl
 · split
   · exact tU rfl
   · unfold lW
     have ha:(jw tl (rq f.pay).1 (lO H.st H.now (lG H.st H.now (rq f.pay).1)) (H.cs k)).aG=(H.cs k).aG:=by
      unfold jw;rw [if_neg (fun h=>a h.2)];rfl
     dsimp only
     split
     · exact (Ad _ _ i).trans (tU ha)
     · exact tU ha
theorem ng (e r:Int) (c:bf):(iU e r c).waits.length<=c.waits.length+6020:=by
 show (c.waits ++ pT 3 4 _).length<=_
 have a:=pW 3 4 (gS e r).1.data.toList (by have:=nU e r; simp; omega);rw [List.length_append]; omega
theorem Ae (a:∀ st,(tl st).length<=7000) (st:ah) (c:bf):(uD (tl st) c).waits.length<=c.waits.length+7000:=by
 show (c.waits ++ tl st).length<=_
 have:=a st;rw [List.length_append]; omega
theorem IG (a:∀ st,(tl st).length<=7000) (st:ah) (D:aX) (c:bf):(mD tl st (mh D).1 (mh D).2 c).waits.length<=c.waits.length+7000:=by
 unfold mD
 split
 · omega
 · split
   · show (c.waits ++ pT 3 2 _).length<=_
     have b:=pW 3 2 (mh D).1.data.toList (by have:=xL D; simpa using this);rw [List.length_append]; omega
   · exact Ae a _ _
theorem wo {cs:Nat->bf} {k:Nat} {c:bf} {n:Nat} (h:c.waits.length<=(cs k).waits.length+n) (i:Nat):(upd cs k c i).waits.length<=(cs i).waits.length+n:=by
 by_cases e:i=k
 · subst e; rw [bL]; exact h
 · rw [upd_ne _ _ e]; omega
theorem Fx (b:∀ st,(tl st).length<=7000) (H:cL) (k:Nat) (f:cM) (i:Nat):((jy tl rq H k f).cs i).waits.length<=(H.cs i).waits.length+21000:=by
 have a:∀ e,((jS H k e).cs i).waits.length<=(H.cs i).waits.length+21000:=fun e=>wo (c:=Ac e H.st.rev (H.cs k)) (n:=21000) (v6 (ng e H.st.rev (H.cs k)) (by omega)) i;unfold jy
 split
 · exact a _
 · split
   · exact a _
   · unfold lW
     have ha:(jw tl (rq f.pay).1 (lO H.st H.now (lG H.st H.now (rq f.pay).1)) (H.cs k)).waits.length<=(H.cs k).waits.length+14000:=by
      unfold jw
      split
      · refine v6 (Ae b _ _) ?_;have:=ng (lO H.st H.now (lG H.st H.now (rq f.pay).1)).e (lO H.st H.now (lG H.st H.now (rq f.pay).1)).st.rev (H.cs k);omega
      · refine v6 (ng _ _ _) ?_; omega
     dsimp only
     split
     · have d:∀ (G:cL) (D:aX),((mE tl G D).cs i).waits.length<=(G.cs i).waits.length+7000:=fun G D=>by
        show (jF tl G.st (mh D).1 (mh D).2 G.cs 8 i).waits.length<=_
        unfold jF
        split
        · exact IG b _ _ _
        · omega
       refine v6 (d _ _) ?_;have:=wo (cs:=H.cs) (k:=k) ha i;dsimp only at this |-;omega
     · refine v6 (wo (cs:=H.cs) (k:=k) ha i) ?_;omega
theorem nV {k:Nat} (c:∀ st,(tl st).length<=7000):∀ (a:List cM) (H:cL),(∀ i,((bZ tl rq k H a).cs i).waits.length<=(H.cs i).waits.length+a.length*21000)/\((∀ f ∈ a,¬ oC (rq f.pay).1)->∀ i,((bZ tl rq k H a).cs i).aG=(H.cs i).aG)
 | [],H=>⟨fun _=>Nat.le_add_right _ _,fun _ _=>rfl⟩
 | f :: a,H=>by
  obtain⟨d,e⟩:=nV (k:=k) c a (if (H.cs k).closed=true then H else jy tl rq H k f);refine⟨fun i=>?_,fun b i=>?_⟩
  · refine v6 (d i) ?_;rw [List.length_cons]
    split
    · omega
    · have:=Fx (rq:=rq) c H k f i; omega
  · refine (e (fun g h=>b g (List.mem_cons_of_mem _ h)) i).trans ?_
    split
    · rfl
    · exact CL (b f List.mem_cons_self) i
end
def kT (g V:Nat) (fb:Nat->Nat) (wv:Nat->Value) (H:cL) (r:Value) (w:World) (e:Ending) (w':World):Prop:=
 e = .returned r/\∃ wv' a,cJ w' g V fb wv' H.cs H.st a H.now/\dQ g V fb wv wv' w w'
theorem dQ.put {g V k:Nat} {fb:Nat->Nat} {wv:Nat->Value} {w d w':World} {v':Value} (a:Gr (su g V fb wv) w w') (c:cY w d (wv k) v') (b:w'.heap[V]? = w.heap[V]?):dQ g V fb wv (upd wv k v') w w':=
 ⟨a,fun i f=>by
  by_cases e:i=k
  · subst e;rw [bL];rcases c.own with h | h
    · exact .inr (.inl h)
    · exact .inr (.inr h)
  · rw [upd_ne _ _ e]; exact .inr (.inl rfl),fun _ _ h=>h.keep b a.size⟩
theorem jE.hub {g V k:Nat} {fb:Nat->Nat} {wv:Nat->Value} {cs:Nat->bf} {st:ah} {x:StA} {now:Int} {w w':World} {e:Ending} {L:List UInt8} (h:cJ w g V fb wv cs st x now) (i:k<8) (j:jE g (1+k*4+3) (wv k) L w e w') :
 e = .returned (.tuple #[])/\∃ wv',cJ w' g V fb wv' (upd cs k { cs k with waits:=L }) st x now/\dQ g V fb wv wv' w w':=by
 obtain⟨c,m,l,d,a,rfl⟩:=j;obtain⟨b,_,f⟩:=h.put i a d;exact⟨c,_,b,.put f a (b.srv.blk.trans h.srv.blk.symm)⟩
def tV (tl:ah->List UInt8):Prop:=
 ∀ (g o V:Nat) (T:TypeId) (cs:Array Value) (v:Value) (l:List UInt8) (st:ah) (x:StA) (now:Int) (w:World),Blk w g T cs->T ≠ 5 -> cs[0]? = some (.pointer (some ⟨V,0,none⟩))->cs[o+3]? = some v->ByteRow w v l->l.length<=35184372088832->SrvAt w 106 V st x now->Tabs w ->
  ψ 45 #[π g 0,π g o] w (jE g (o+3) v (l ++ tl st) w)
theorem CM (g:Nat) (k:Nat) (w:World) (a:k<8) :
 ψ 21 #[π g 0,(k:Int)] w fun e w'=>e = .returned (π g (1+k*4))/\Below w w w':=by
 go_enter Tryz.func21,Tryz.ntmps21;go_wp2;go_ret;exact⟨rfl,θ⟩
theorem CN (g:Nat) (k:Int) (w:World) (a:k<0\/7<k) :
 ψ 21 #[π g 0,k] w fun e w'=>e = .returned (.pointer none)/\Below w w w':=by
 rcases a with a | a
 · go_enter Tryz.func21,Tryz.ntmps21;go_wp2;go_ret;exact⟨rfl,θ⟩
 · have b:¬ k<0:=by omega
   go_enter Tryz.func21,Tryz.ntmps21;go_wp2;go_ret;exact⟨rfl,θ⟩
theorem cJ.set0 {w:World} {g V k:Nat} {fb:Nat->Nat} {wv:Nat->Value} {cs:Nat->bf} {st:ah} {x:StA} {now:Int} {c0:bf} (h:cJ w g V fb wv (upd cs k c0) st x now) (d:k<8) (b:Bool) :
 cJ (sX w g (1+k*4+1) (.bool b)) g V fb wv (upd cs k { c0 with closed:=b }) st x now/\Gr (su g V fb wv) w (sX w g (1+k*4+1) (.bool b)):=by
 have a:=h.cell d (j:=1+k*4+1) (u:=.bool b) (c:={ c0 with closed:=b }) (v:=wv k) (by rw [qA]; exact Aa d { c0 with closed:=b } (by rw [bL])) (by rw [bL]) (by rw [bL]) (by rw [bL]) (.inl ⟨rfl,by rw [bL]⟩);rw [qA,nL] at a;exact a
theorem cJ.set1 {w:World} {g V k:Nat} {fb:Nat->Nat} {wv:Nat->Value} {cs:Nat->bf} {st:ah} {x:StA} {now:Int} {c0:bf} (h:cJ w g V fb wv (upd cs k c0) st x now) (d:k<8) (b:Bool) :
 cJ (sX w g (1+k*4+2) (.bool b)) g V fb wv (upd cs k { c0 with aG:=b }) st x now/\Gr (su g V fb wv) w (sX w g (1+k*4+2) (.bool b)):=by
 have a:=h.cell d (j:=1+k*4+2) (u:=.bool b) (c:={ c0 with aG:=b }) (v:=wv k) (by rw [qA]; exact xJ d { c0 with aG:=b } (by rw [bL])) (by rw [bL]) (by rw [bL]) (by rw [bL]) (.inl ⟨rfl,by rw [bL]⟩);rw [qA,nL] at a;exact a
theorem dQ.gr_ {g V:Nat} {fb:Nat->Nat} {wv wv':Nat->Value} {w a w':World} (h:dQ g V fb wv wv' w a) (b:Gr (su g V fb wv') a w') (c:w'.heap[V]? = a.heap[V]?):dQ g V fb wv wv' w w':=h.trans ⟨b,fun _ _=>.inr (.inl rfl),fun _ _ h=>h.keep c b.size⟩
theorem xM {g V k:Nat} {fb:Nat->Nat} {wv:Nat->Value} {H:cL} {x:StA} (w:World) (h:cJ w g V fb wv H.cs H.st x H.now) (c:k<8) (E:Int) (n:(H.cs k).waits.length<=35184372088832) :
 ψ 24 #[π g 0,π g (1+k*4),E] w (kT g V fb wv (jS H k E) (.tuple #[]) w):=by
 have l:=ω (sF H.st x H.now V w h.srv);have c0:ζ w g 0 (π V 0):=by rw [h.blk.cell]; exact xI
 have hlt:=h.blk.lt;have B:=ω h;have C:=ω n;obtain⟨rev,p⟩:∃ F,H.st.rev=F:=⟨_,rfl⟩;have j:=ω p;clear h n p;go_enter Tryz.func24,Tryz.ntmps24
 go_wp2_with fail
 refine l.mono ?_;rintro D G ⟨y,rfl,_,i⟩;have b:=B.below i;have d:=ω (uV g (1+k*4) 60 _ (wv k) _ E H.st.rev G b.blk (by decide) (jv c) (b.wait k c) C.z);rw [j.z] at d;have s:=ω b;have z:=ω i;have J:=b.blk.lt;unfold stC;rw [j.z];clear b i l c0;have I:∀ W,(Instr.field 26 (.agg #[rev,.slice y.aj y.nj y.cj,.slice y.an y.nn y.cn,.slice y.al y.nl y.cl]) 0).run Tryz.prog W = .ok (.int .i64 rev) W:=fun _=>by kernel_rfl
 go_wp2_with fail
 refine d.mono ?_;rintro D r o;obtain⟨rfl,wv',a,q⟩:=o.hub s.z c;obtain⟨e,m⟩:=a.set0 c true;have L:ζ r g (1+k*4+1) (.bool (H.cs k).closed):=by rw [a.blk.cell,kA c,bL]
 have M:κ r g (1+k*4+1):=a.blk.thaw _;have K:=a.blk.lt;have u:=ω e;have v:=ω (((dQ.refl g V fb wv w).below_ z.z).trans q |>.gr_ m (e.srv.blk.trans a.srv.blk.symm));clear o a q e m d;go_wp2;go_end0;refine⟨rfl,wv',x,?_,v⟩;have:=u.z;rw [<- j.z] at this;exact this
structure EGo (w0 w:World) (base g p D:Nat) (l:List UInt8) (cs:Array Value) (N:Nat):Prop where
 ok:gB w base g l
 keep:dE base g w0 w
 bD:Blk w D 95 cs
 bp:Blk w p 236 #[π g 0]
 nD:D≠g
 np:p≠g
 len:l.length<=N
theorem EGo.next {w0 w w':World} {base g p D N:Nat} {l k:List UInt8} {cs:Array Value} (h:EGo w0 w base g p D l cs N) (ha:gB w' base g (l ++ k)) (a:dE base g w w') (b:k.length<=4000):EGo w0 w' base g p D (l ++ k) cs (N+4000):=
 ⟨ha,h.keep.trans a,a.blk h.bD (by decide) h.nD,a.blk h.bp (by decide) h.np,h.nD,h.np,by have:=h.len; rw [List.length_append]; omega⟩
theorem EGo.alloc {w0 w:World} {base g p D N:Nat} {l:List UInt8} {cs:Array Value} (h:EGo w0 w base g p D l cs N) (o:Obj):EGo w0 (w.alloc o) base g p D l cs N:=
 have a:Below w w (w.alloc o):=(θ).alloc lJ _
 ⟨h.ok.below a,h.keep.trans (dE.of_below a),h.bD.alloc _,h.bp.alloc _,h.nD,h.np,h.len⟩
def Px (w0:World) (base g p S:Nat) (a:List UInt8) (cs c:Array Value) (b:List (List ByteArray)) (i:Value) (wr:World):Prop:=
 ∃ k:Nat,k<=3/\i = .int .i64 k/\EGo w0 wr base g p base (a ++ (b.take k).flatMap (fZ dW)) cs (20000+4000*k)/\Blk wr S 93 c
theorem DL (d:aX) (x:eF) (w:World) (hD:dz w w d x) (hT:Tabs w) (a6 : -9223372036854775808<=d.from_) (a7:d.from_<=9223372036854775807) :
 ψ 87 #[.agg (dC d x)] w (lC d w):=by
 have af:Below w w (χ w (dC d x) 95):=(θ).alloc lJ _;have a1:Blk (χ w (dC d x) 95) w 95 (dC d x):=n5 w _;have hC:=Fy d x _ (hD.up af) (hT.below af) a6 a7;obtain⟨E,X⟩:∃ E,gG d=E:=⟨_,rfl⟩;unfold sH at hC;rw [X] at hC;have HC:=ω hC;have HE:=ω X;have c:=ω hD;have HT:=ω hT;have ad:=ω af;have az:=ω a1;have Oi:=ω (fun (W:E≠0) w'=>lC.bad (w:=w) (w':=w') X W);have Fz:=ω (fun (W:E=0) w'=>lC.large (w:=w) (w':=w') (X.trans W));have aG:=ω (fun (W:E=0) w' s=>lC.ok (w:=w) (w':=w') (s:=s) (X.trans W));have Kg:=ω (fun (W:E=0)=>NU (X.trans W));clear hC X hD hT af a1 a6 a7;obtain⟨aa,ao,jobs,nodes,leases,gj,gn,gl⟩:=d;obtain⟨a0,nj,cj,an,nn,cn,al,nl,cl,y,J,C,B,L,F,z,K,D⟩:=x;unfold dC at *;dsimp only at *;go_enter Tryz.func87,Tryz.ntmps87
 go_wp2_with fail
 refine HC.mono ?_;rintro R a ⟨rfl,ag⟩;by_cases h0:E=0;rotate_left
 · have aQ:(E != 0)=true:=bne_iff_ne.2 h0;have aW:=ω (Oi.z h0 a (ad.trans (ag.mono ad.size)));go_wp2;go_ret2;exact aW
 subst h0;have G:=ω (Kg.z rfl);have aI:=G.t0;have aJ:=G.t1;have aL:=G.t2;dsimp only at aI aJ aL;have ar:=ad.trans (ag.mono ad.size);have ae:Blk a w 95 _:=az.below ag az.lt;have M:w.heap.size<a.heap.size:=ae.lt;have aq:=HT.lt;have a9:=gB.new (HT.below ar) aq.1 aq.2 (Nat.le_of_lt M);have a4:Below a a (χ a #[.slice none 0 0] 238):=(θ).alloc lJ _;have a8:(a.alloc (.cells #[.slice none 0 0] 238)).heap.size=a.heap.size+1:=by simp
 have au:Below (a.alloc (.cells #[.slice none 0 0] 238)).heap.size (χ a #[.slice none 0 0] 238) ((a.alloc (.cells #[.slice none 0 0] 238)).alloc (.cells #[π a 0] 236)):=(θ).alloc lJ _
 have a5:Blk ((a.alloc (.cells #[.slice none 0 0] 238)).alloc (.cells #[π a 0] 236)) (a.heap.size+1) 236 #[π a 0]:=by
  have:=n5 (χ a #[.slice none 0 0] 238) (.cells #[π a 0] 236);rw [a8] at this;exact this
 have H0:=ω (EGo.mk (w0:=w) (N:=0) (a9.below au) (((dE.of_below ar).trans (dE.of_below a4)).trans (dE.of_below au)) ((ae.alloc _).alloc _) a5 (Nat.ne_of_lt M) (by omega) (by simp));have HY:=ω ae;clear ag ar ae aq a9 a4 a8 au a5;obtain⟨y0,y1,y2,Z,P,r,u,v⟩:=Blk.c8 (HY.z)
 go_wp2_with fail
 refine Calls.mono (pX w a _ (aa) _ (by omega) H0.ok (by have:=H0.len; omega)) ?_;rintro R aE ⟨rfl,ok1,k1⟩;have U:=ω (H0.next ok1 k1 (xN _));clear y0 y1 y2 Z P r u v;have m:ζ aE (a.heap.size+1) 0 (π a 0):=U.bp.cell 0;have I:a.heap.size+1<aE.heap.size:=U.bp.lt;obtain⟨y0,y1,y2,Z,P,r,u,v⟩:=Blk.c8 (U.bD);clear ok1 k1 H0
 go_wp2_with fail
 refine Calls.mono (pX w a _ (ao - aa) _ (by omega) U.ok (by have:=U.len; omega)) ?_;rintro R T ⟨rfl,aA,k2⟩;have e:=ω (U.next aA k2 (xN _));clear m I y0 y1 y2 Z P r u v;have m:ζ T (a.heap.size+1) 0 (π a 0):=e.bp.cell 0;have I:a.heap.size+1<T.heap.size:=e.bp.lt;have y2:ζ T w 2 (.slice a0 nj cj):=e.bD.cell 2;have Z:ζ T w 3 (.slice an nn cn):=e.bD.cell 3;have P:ζ T w 4 (.slice al nl cl):=e.bD.cell 4;have r:ζ T w 5 (.slice y J C):=e.bD.cell 5;have u:ζ T w 6 (.slice B L F):=e.bD.cell 6;have v:ζ T w 7 (.slice z K D):=e.bD.cell 7;clear aA k2 U
 go_wp2_with fail
 refine Calls.mono (qC.1 w.heap.size a (a.heap.size+1) _ jobs _ _ _ _ (c.j.below (e.keep.below (Nat.le_of_lt M) lJ)) c.lj (by have p:=c.lj; have b:=G.nj; dsimp only at p b; omega) G.jobs e.ok (by have:=e.len; omega) e.bp e.np) ?_;rintro R Y ⟨rfl,aB,k3⟩;have h:=ω (e.next aB k3 (gU (fun x=>mH x 3) (by have b:=G.nj; dsimp only at b; omega)));clear m I y2 Z P r u v;have m:ζ Y (a.heap.size+1) 0 (π a 0):=h.bp.cell 0;have I:a.heap.size+1<Y.heap.size:=h.bp.lt;have Z:ζ Y w 3 (.slice an nn cn):=h.bD.cell 3;have P:ζ Y w 4 (.slice al nl cl):=h.bD.cell 4;have r:ζ Y w 5 (.slice y J C):=h.bD.cell 5;have u:ζ Y w 6 (.slice B L F):=h.bD.cell 6;have v:ζ Y w 7 (.slice z K D):=h.bD.cell 7;clear aB k3 e
 go_wp2_with fail
 refine Calls.mono (qC.2.1 w.heap.size a (a.heap.size+1) _ nodes _ _ _ _ (c.n.below (h.keep.below (Nat.le_of_lt M) lJ)) c.ln (by have p:=c.ln; have b:=G.nn; dsimp only at p b; omega) G.nodes h.ok (by have:=h.len; omega) h.bp h.np) ?_;rintro R ab ⟨rfl,aC,k4⟩;have o:=ω (h.next aC k4 (gU (fun x=>kU x 3) (by have b:=G.nn; dsimp only at b; omega)));clear m I Z P r u v;have m:ζ ab (a.heap.size+1) 0 (π a 0):=o.bp.cell 0;have I:a.heap.size+1<ab.heap.size:=o.bp.lt;have P:ζ ab w 4 (.slice al nl cl):=o.bD.cell 4;have r:ζ ab w 5 (.slice y J C):=o.bD.cell 5;have u:ζ ab w 6 (.slice B L F):=o.bD.cell 6;have v:ζ ab w 7 (.slice z K D):=o.bD.cell 7;clear aC k4 h
 go_wp2_with fail
 refine Calls.mono (xO w a (a.heap.size+1) _ leases _ _ _ _ (c.l.below (o.keep.below (Nat.le_of_lt M) lJ)) c.ll (by have p:=c.ll; have b:=G.nl; dsimp only at p b; omega) G.leases o.ok (by have:=o.len; omega)) ?_;rintro R O ⟨rfl,aD,k5⟩;have Q:=ω (o.next aD k5 (gU (fun x=>kC x) (by have b:=G.nl; dsimp only at b; omega)));clear m I P r u v;have m:ζ O (a.heap.size+1) 0 (π a 0):=Q.bp.cell 0;have I:a.heap.size+1<O.heap.size:=Q.bp.lt;have r:ζ O w 5 (.slice y J C):=Q.bD.cell 5;have u:ζ O w 6 (.slice B L F):=Q.bD.cell 6;have v:ζ O w 7 (.slice z K D):=Q.bD.cell 7;clear aD k5 o;have H:Blk (χ O #[.slice y J C,.slice B L F,.slice z K D] 93) O 93 #[.slice y J C,.slice B L F,.slice z K D]:=n5 O _;have HS:=ω H;have HA:=ω (Q.alloc (.cells #[.slice y J C,.slice B L F,.slice z K D] 93));have aj:=ω Q.ok.at_.lt;clear H Q;go_wp2;generalize a2:[] ++ bg aa.toNat ++ bg (ao - aa).toNat ++ fZ (fun x=>eK x 3) jobs ++ fZ (fun x=>cX x 3) nodes ++ fZ eH leases=L5 at HA;have aF:=ω a2;generalize aM:(#[aa,ao,.slice a0 nj cj,.slice an nn cn,.slice al nl cl,.slice y J C,.slice B L F,.slice z K D]:Array Value)=CS at HA;generalize H:O.heap.size=S at HS aj;clear a2 aM m I r u v
 go_loopw [7,50] (fun _ av wr=>Px w w a (a.heap.size+1) S L5 CS #[.slice y J C,.slice B L F,.slice z K D] [gj,gn,gl] av wr) (fun _ av _=>3 - (intOf av).toNat)
 case atStart=>exact⟨0,by omega,rfl,by simpa using HA.z,HS⟩
 case round=>
  obtain⟨k,hk,rfl,ak,H⟩:=hrel;have i:=ω ak;have ap:=ω H;have m:ζ wr (a.heap.size+1) 0 (π a 0):=ak.bp.cell 0;have I:a.heap.size+1<wr.heap.size:=ak.bp.lt;have aO:S<wr.heap.size:=H.lt;have aw:ζ wr S 0 (.slice y J C):=H.cell 0;have ax:ζ wr S 1 (.slice B L F):=H.cell 1;have ay:ζ wr S 2 (.slice z K D):=H.cell 2;clear ak H;rcases (show k=0\/k=1\/k=2\/k=3 by omega) with rfl | rfl | rfl | rfl
  · go_wp2_with fail
    refine Calls.mono (qC.2.2 w.heap.size a 0 _ gj _ _ _ _ (c.gj.below (i.keep.below (Nat.le_of_lt M) lJ)) c.lgj (by have p:=c.lgj; have b:=G.ngj; dsimp only at p b; omega) c.ogj i.ok (by have:=i.len; omega)) ?_;rintro R w2 ⟨rfl,ok,q⟩;have Kh:=ω (i.next ok q (gU uW (by have b:=G.ngj; dsimp only at b; omega)));have ac:=ω (q.blk ap.z (by decide) (Nat.ne_of_gt aj.z));clear ok q aw ax ay m;go_wp2
    go_roundw
    case rel=>exact⟨1,by omega,by go_num,by simpa [List.append_assoc] using Kh.z,ac.z⟩
    case measure=>simp [intOf]
  · go_wp2_with fail
    refine Calls.mono (qC.2.2 w.heap.size a 0 _ gn _ _ _ _ (c.gn.below (i.keep.below (Nat.le_of_lt M) lJ)) c.lgn (by have p:=c.lgn; have b:=G.ngn; dsimp only at p b; omega) c.ogn i.ok (by have:=i.len; omega)) ?_;rintro R w2 ⟨rfl,ok,q⟩;have Kh:=ω (i.next ok q (gU uW (by have b:=G.ngn; dsimp only at b; omega)));have ac:=ω (q.blk ap.z (by decide) (Nat.ne_of_gt aj.z));clear ok q aw ax ay m;go_wp2
    go_roundw
    case rel=>exact⟨2,by omega,by go_num,by simpa [List.append_assoc] using Kh.z,ac.z⟩
    case measure=>simp [intOf]
  · go_wp2_with fail
    refine Calls.mono (qC.2.2 w.heap.size a 0 _ gl _ _ _ _ (c.gl.below (i.keep.below (Nat.le_of_lt M) lJ)) c.lgl (by have p:=c.lgl; have b:=G.ngl; dsimp only at p b; omega) c.ogl i.ok (by have:=i.len; omega)) ?_;rintro R w2 ⟨rfl,ok,q⟩;have Kh:=ω (i.next ok q (gU uW (by have b:=G.ngl; dsimp only at b; omega)));have ac:=ω (q.blk ap.z (by decide) (Nat.ne_of_gt aj.z));clear ok q aw ax ay m;go_wp2
    go_roundw
    case rel=>exact⟨3,by omega,by go_num,by simpa [List.append_assoc] using Kh.z,ac.z⟩
    case measure=>simp [intOf]
  · have hL:L5 ++ ([gj,gn,gl].take 3).flatMap (fZ dW)=oD ⟨aa,ao,jobs,nodes,leases,gj,gn,gl⟩:=by rw [<- aF.z]; simp [oD]
    have ai:=i.keep.below (Nat.le_of_lt M) lJ;have a3:=i.ok.at_;rw [hL] at a3;obtain⟨_,A,am,aH,hB,ho⟩:=a3;have hm:=tW ho;have z0:ζ wr a 0 (.slice A am aH):=hB.cell 0;have aN:=iS Tryz.underlying55 Tryz.underlying5 Tryz.underlying9 ho;by_cases aP:6000<am
    · have aW:=ω (Fz.z trivial wr (by omega) ai);have hd:decide ((6000:Int)<(am:Int))=true:=t8 (by omega);clear ai hm aN ho hB;go_wp2;go_ret2;exact aW
    · have aW:=ω (aG.z trivial wr _ (by omega) rfl ai);have hd:decide ((6000:Int)<(am:Int))=false:=fK (by omega);clear ai hm ho hB;go_wp2;go_ret2;exact aW
def tlW (st:ah):List UInt8:=if (lA st 3).2=0 then (lA st 3).1.data.toList else pT 3 4 (gS 2 st.rev).1.data.toList
theorem IH (v k:Int) (p:ByteArray):(uU v k p).1.size<=6020:=by
 unfold uU
 split
 · exact Nat.zero_le _
 · split
   · exact Nat.zero_le _
   · rename_i h
     have a:=pW v.toNat k.toNat p.data.toList (by have b:p.data.toList.length=p.size:=(by simp); omega)
     show (BA (pT _ _ _)).size<=_
     rw [oO]; exact a.2
theorem xP (st:ah):(lA st 3).1.size<=6020:=by
 unfold lA
 split
 · exact Nat.zero_le _
 · exact IH _ _ _
theorem Ki {st:ah} (h:(lA st 3).2=0):0<(lA st 3).1.size:=by
 unfold lA at h |-
 split at h
 · rename_i a; exact absurd h a
 · rename_i a
   rw [if_neg a];unfold uU at h |-
   split at h
   · cases h
   · rename_i b
     rw [if_neg b]
     split at h
     · cases h
     · rename_i c
       rw [if_neg c];have e:(jY st 3).1.data.toList.length=(jY st 3).1.size:=by simp
       have d:=pW (3:Int).toNat (1:Int).toNat (jY st 3).1.data.toList (by omega)
       show 0<(BA (pT _ _ _)).size
       rw [oO]; exact d.1
theorem zP (st:ah):(tlW st).length<=7000:=by
 unfold tlW
 split
 · have:=xP st;have b:(lA st 3).1.data.toList.length=(lA st 3).1.size:=by simp
   omega
 · have a:=pW 3 4 (gS 2 st.rev).1.data.toList (by have:=nU 2 st.rev; simp; omega);omega
theorem Kj:tV tlW:=by
 intro g o V ai cs v ac st x now w l ht h0 hc hr hl hS hT;have T:=ω (sF st x now V w hS);have c0:ζ w g 0 (π V 0):=by rw [l.cell]; exact h0
 have hlt:=l.lt;have n:=ω l;have R:=ω hr;have q:=ω hc;have U:=ω hT;have M:=xP st;have K:=Ki (st:=st);have c:=ω (show tlW st=if (lA st 3).2=0 then (lA st 3).1.data.toList else pT 3 4 (gS 2 st.rev).1.data.toList from rfl);have d:=ω (fun (y:StA) (a:World) (aj:StAt a a st y) (h2:Tabs a)=>wu.1 st y 3 a aj h2);unfold q8 at d;obtain⟨S,D⟩:∃ S,(lA st 3).1=S:=⟨_,rfl⟩;obtain⟨E,aa⟩:∃ E,(lA st 3).2=E:=⟨_,rfl⟩;rw [D] at M;rw [D,aa] at c d K;have af:=ω K;have Y:=ω hl;have ag:=ω M;clear l hr hc hT hS D aa h0 hl M K;go_enter Tryz.func45,Tryz.ntmps45
 go_wp2_with fail
 refine T.mono ?_;rintro Z a ⟨y,rfl,hy,G⟩;obtain⟨W,j⟩:∃ W,a.alloc (.cells (stC st y) 26)=W:=⟨_,rfl⟩;have I:Below a a W:=by rw [<- j]; exact (θ).alloc lJ _
 have i:Blk W a 26 (stC st y):=by rw [<- j]; exact n5 a _
 have N:=G.trans (I.mono G.size);have r:=ω (d.z y W (hy.upS I) (U.below N));have B:=ω N;have p:=ω i;have z:=ω j;obtain⟨s0,s1,s2,s3⟩:=Blk.c4 (i);have ak:=i.lt;clear hy G I i j N T d c0 hlt U;unfold stC at r z |-
 go_wp2_with fail
 simp only [z.z];clear z;refine r.mono ?_;rintro Z O ⟨rfl,H⟩;have e:=ω (B.trans (H.mono B.size));have h:=n.below e.z n.lt;have Q:=ω h;have s:=ω (R.below e.z);have F:=p.below H p.lt;have y0:ζ O g (o+3) v:=by rw [h.cell]; exact q
 have am:=h.lt;have r0:ζ O a 0 (.int .i64 st.rev):=F.cell 0;have ab:=F.lt;clear H h F r B p s0 s1 s2 s3 ak n R;by_cases b:E=0
 · have u:=ω (show tlW st=S.data.toList from by rw [c.z,if_pos b]);have m:=af.z b;subst b;clear c r0 ab;have al:=Y.z;have ao:=ag.z
   go_wp2_with (at_builtin; refine DJ rfl _ _ rfl v ac rfl s.z S rfl m (by omega) ?_; intro v' P L J; obtain⟨A',c',rfl⟩:=L.shape; have C:=qB Q.z ht s.z J; have z0:ζ P g (o+3) v:=(C.cell _).trans q.z; have zt:κ P g (o+3):=C.thaw _; have ae:=ω L; have ad:=ω J; clear L J C)
   go_end0;exact⟨rfl,_,_,by rw [u.z]; exact ae.z,.of_below e.z ad.z,by rw [List.length_append]; rfl⟩
 · have d0:(E != 0)=true:=bne_iff_ne.2 b;have u:=ω (show tlW st=pT 3 4 (gS 2 st.rev).1.data.toList from by rw [c.z,if_neg b]);have X:=ω (uV g o ai cs v ac 2 st.rev O Q.z ht q.z s.z Y.z);clear b c y0
   go_wp2_with fail
   refine X.mono ?_;rintro Z P m;have HP:=ω (m.first e.z);obtain⟨rfl,_⟩:=m;clear X r0 ab;go_wp2;go_end0;rw [u.z];exact HP
def gH:aK:=⟨0,bJ,aU,aN,⟨#[]⟩,0⟩
def jH (k:Nat) (s:ByteArray):RR aK:=
 if k=1 then (pD 3 s).bind fun x t=>.ok ⟨k,x,aU,aN,⟨#[]⟩,0⟩ t
 else if k=2 then (lH 3 s).bind fun x t=>.ok ⟨k,bJ,x,aN,⟨#[]⟩,0⟩ t
 else if k=3\/k=4\/k=6 then (cF s).bind fun x t=>.ok ⟨k,bJ,aU,aN,x,0⟩ t
 else if k=5 then (iC s).bind fun x t=>.ok ⟨k,bJ,aU,x,⟨#[]⟩,0⟩ t
 else if k=7 then (dI s).bind fun (x:Nat) t=>.ok ⟨k,bJ,aU,aN,⟨#[]⟩,x⟩ t
 else if k=8\/k=9 then .ok ⟨k,bJ,aU,aN,⟨#[]⟩,0⟩ s
 else .bad 1
def rqP (b:ByteArray):RR aK:=(dI b).bind jH
noncomputable def rqF (b:ByteArray):aK × Int:=match rqP b with
 | .ok q s=>if s.size=0 then (if cO q=0 then (q,0) else (gH,cO q)) else (gH,4)
 | .bad x=>(gH,x)
theorem FA {k N:Nat} {s:ByteArray} (h:s.size<=N):(jH k s).Good N:=by
 unfold jH
 split
 · exact (II h).bind fun _ _ h=>h
 split
 · exact (FB h).bind fun _ _ h=>h
 split
 · exact (kD h).bind fun _ _ h=>h
 split
 · exact (DM h).bind fun _ _ h=>h
 split
 · exact (jO h).bind fun _ _ h=>h
 split
 · exact h
 · exact⟨by decide,by decide⟩
theorem DN {N:Nat} {b:ByteArray} (h:b.size<=N):(rqP b).Good N:=(jO h).bind fun _ _ h=>FA h
theorem pE {α c:Type} {x:RR α} {f:α->ByteArray->RR c} {b:c} {r:ByteArray} (h:x.bind f = .ok b r):∃ a s,x = .ok a s/\f a s = .ok b r:=by
 cases x with
 | ok a s=>exact⟨a,s,rfl,h⟩
 | bad e=>cases h
theorem IJ {k:Nat} {s t:ByteArray} {q:aK} (h:jH k s = .ok q t):ROk q:=by
 have z:(⟨#[]⟩:ByteArray).size<=9223372036854775807:=by decide
 have l:∀ {a:Nat},a<=16->a<=9223372036854775807:=fun h=>v6 h (by decide);unfold jH at h
 split at h
 · obtain⟨x,r,c,b⟩:=pE h;injection b with b; subst b;have h:=IK c;exact⟨l h.1,l h.2,z,z,z,z,z⟩
 split at h
 · obtain⟨x,r,c,b⟩:=pE h;injection b with b; subst b;have h:=FC c;exact⟨z,z,l h.1,l h.2,z,z,z⟩
 split at h
 · obtain⟨x,r,c,b⟩:=pE h;injection b with b; subst b;exact⟨z,z,z,z,z,z,l (pF c)⟩
 split at h
 · obtain⟨x,r,c,b⟩:=pE h;injection b with b; subst b;have h:=DO c;exact⟨z,z,z,z,l h.1,l h.2,z⟩
 split at h
 · obtain⟨x,r,c,b⟩:=pE h;injection b with b; subst b;exact⟨z,z,z,z,z,z,z⟩
 split at h
 · injection h with h; subst h;exact⟨z,z,z,z,z,z,z⟩
 · cases h
theorem zQ {b s:ByteArray} {q:aK} (h:rqP b = .ok q s):ROk q:=by
 obtain⟨_,_,_,h⟩:=pE h;exact IJ h
theorem MH {b:ByteArray} (h:(rqF b).2=0) (f:b.size<=9223372036854775807):ROk (rqF b).1/\cO (rqF b).1=0:=by
 unfold rqF at h |-;have d:=DN f
 cases c:rqP b with
 | ok q s=>
  rw [c] at h;simp only at h |-
  split at h
  · rename_i e
    split at h
    · rename_i a
      rw [if_pos e,if_pos a];exact⟨zQ c,a⟩
    · rename_i a; exact absurd h a
  · exact absurd h (by decide)
 | bad x=>
  rw [c] at h d;exact absurd (Int.ofNat.inj h) d.1
theorem Af (b:ByteArray) (d:b.size<=9223372036854775807):(∃ x:Nat,x≠0/\Ag (rqP b).st=x/\rqF b=(gH,(x:Int))) \/
 (∃ q s,rqP b = .ok q s/\Ag (rqP b).st=0/\rqF b=if cO q=0 then (q,0) else (gH,cO q)):=by
 have c:=DN d;unfold rqF
 cases e:rqP b with
 | ok q s=>
  by_cases a:s.size=0
  · exact .inr ⟨q,s,rfl,Kk a,by simp only; rw [if_pos a]⟩
  · exact .inl ⟨4,by decide,DP a,by simp only; rw [if_neg a]; rfl⟩
 | bad x=>
  rw [e] at c;exact .inl ⟨x,c.1,rfl,rfl⟩
def Kl (w:World) (P i:Nat):List Value->World
 | []=>w
 | v :: r=>Kl (sX w P i v) P (i+1) r
theorem DQ {P:Nat} {t:TypeId}:∀ (l:List Value) (i:Nat) (w:World) (a b:List Value),a.length=i->b.length=l.length->Blk w P t (a ++ b).toArray->Blk (Kl w P i l) P t (a ++ l).toArray
 | [],i,w,a,b,d,c,h=>by
  have:b=[]:=List.eq_nil_of_length_eq_zero c;subst this; exact h
 | v :: r,i,w,a,[],d,c,h=>by cases c
 | v :: r,i,w,a,u :: b,d,c,h=>by
  have e:=DQ r (i+1) (sX w P i v) (a ++ [v]) b (by rw [List.length_append,d]; rfl) (by simpa using c) (Blk.eq (h.set i v) (by subst d; simp));rw [List.append_assoc] at e;exact e
theorem G5 {g P:Nat} {σ:RR Unit} (a:g<P):∀ (l:List Value) (i:Nat) (w:World),ko w g σ->ko (Kl w P i l) g σ
 | [],_,_,h=>h
 | v :: r,i,w,h=>G5 a r (i+1) _ (h.set P i v a)
theorem Ah {B P:Nat} (a:B<=P):∀ (l:List Value) (i:Nat) (w w':World),Below B w w'->Below B w (Kl w' P i l)
 | [],_,_,_,h=>h
 | v :: r,i,w,w',h=>Ah a r (i+1) w _ (aZ h a)
def ni {α:Type} (g P:Nat) (t:TypeId) (cs:α->List Value) (R:RR α) (w:World) (e:Ending) (w':World):Prop:=
 e = .returned (.tuple #[])/\(∃ x,(∀ y s,R = .ok y s->x=y)/\Blk w' P t (cs x).toArray)/\ko w' g R.st/\Below g w w'
theorem ni.of {α:Type} {g P:Nat} {t:TypeId} {cs:α->List Value} {R:RR α} {w d:World} {Z:α->Prop} {a:α} {z:List Value} (i:Blk w P t z.toArray) (l:z.length=(cs a).length) (c:g<P) (f:g<w.heap.size) (b:w.grownBy d (some g)) (j:mX R Z a) (h:ko d g R.st) :
 ni g P t cs R w (.returned (.tuple #[])) (Kl d P 0 (cs a)):=
 ⟨rfl,⟨a,by rintro y s rfl; exact j,DQ _ 0 _ [] z rfl l (ay b i (Nat.ne_of_gt c))⟩,G5 c _ _ _ h,Ah (Nat.le_of_lt c) _ _ _ _ ⟨b.os,b.tape,b.output,b.size,fun k e=>b.block k (Nat.lt_trans e f) (by simp; omega)⟩⟩
theorem IL (g P:Nat) (s:ByteArray) (w:World) (i:Blk w P 207 #[.string ⟨#[]⟩,(0:Int),(0:Int),(0:Int),.string ⟨#[]⟩]) (h:ko w g (.ok () s)) (j:g<P) :
 ψ 265 #[π P 0,π g 0] w (ni g P 207 aS (pD 3 s) w):=by
 have c:=MI g (.ok () s) 3 w (by decide) (by decide) h;change Calls _ _ _ _ (oE _ (pD 3 s) _ _ _) at c;generalize pD 3 s=R at c |-;have c:=ω c;have d:=ω i;have u:=i.lt;have n:=h.at_.lt;clear i h;go_enter Tryz.func265,Tryz.ntmps265
 go_wp2_with fail
 refine c.mono ?_;rintro r v ⟨x,rfl,m,l,e⟩;have F:=ω (ni.of (a:=x) (cs:=aS) d.z rfl j n e m l);have b:=ay e d.z (Nat.ne_of_gt j);have y:=b.thaw 0;have c0:=b.cell 0;have z:=b.thaw 1;have p:=b.cell 1;have z2:=b.thaw 2;have c2:=b.cell 2;have B:=b.thaw 3;have q:=b.cell 3;have z4:=b.thaw 4;have c4:=b.cell 4;have o:=b.lt;clear l b e c d m;simp only [aS];go_wp2;go_end0;exact F
theorem FD (g P:Nat) (s:ByteArray) (w:World) (i:Blk w P 210 #[.string ⟨#[]⟩,(0:Int),.string ⟨#[]⟩]) (h:ko w g (.ok () s)) (j:g<P) :
 ψ 274 #[π P 0,π g 0] w (ni g P 210 aH (lH 3 s) w):=by
 have c:=Km g (.ok () s) 3 w (by decide) h;change Calls _ _ _ _ (oE _ (lH 3 s) _ _ _) at c;generalize lH 3 s=R at c |-;have c:=ω c;have d:=ω i;have r:=i.lt;have n:=h.at_.lt;clear i h;go_enter Tryz.func274,Tryz.ntmps274
 go_wp2_with fail
 refine c.mono ?_;rintro q u ⟨x,rfl,m,l,e⟩;have F:=ω (ni.of (a:=x) (cs:=aH) d.z rfl j n e m l);have b:=ay e d.z (Nat.ne_of_gt j);have v:=b.thaw 0;have c0:=b.cell 0;have y:=b.thaw 1;have p:=b.cell 1;have z2:=b.thaw 2;have c2:=b.cell 2;have o:=b.lt;clear l b e c d m;simp only [aH];go_wp2;go_end0;exact F
theorem DR (g P:Nat) (s:ByteArray) (w:World) (i:Blk w P 213 #[.string ⟨#[]⟩,.string ⟨#[]⟩,(0:Int)]) (h:ko w g (.ok () s)) (j:g<P) :
 ψ 279 #[π P 0,π g 0] w (ni g P 213 aB (iC s) w):=by
 have c:=MK g (.ok () s) w h;change Calls _ _ _ _ (oE _ (iC s) _ _ _) at c;generalize iC s=R at c |-;have c:=ω c;have d:=ω i;have r:=i.lt;have n:=h.at_.lt;clear i h;go_enter Tryz.func279,Tryz.ntmps279
 go_wp2_with fail
 refine c.mono ?_;rintro q u ⟨x,rfl,m,l,e⟩;have F:=ω (ni.of (a:=x) (cs:=aB) d.z rfl j n e m l);have b:=ay e d.z (Nat.ne_of_gt j);have v:=b.thaw 0;have c0:=b.cell 0;have y:=b.thaw 1;have p:=b.cell 1;have z2:=b.thaw 2;have c2:=b.cell 2;have o:=b.lt;clear l b e c d m;simp only [aB];go_wp2;go_end0;exact F
theorem FE (g P:Nat) (s:ByteArray) (w:World) (i:Blk w P 214 #[.string ⟨#[]⟩]) (h:ko w g (.ok () s)) (j:g<P) :
 ψ 284 #[π P 0,π g 0] w (ni g P 214 (fun x:ByteArray=>[.string x]) (cF s) w):=by
 have b:=uX g (.ok () s) w h;change Calls _ _ _ _ (oE _ (cF s) _ _ _) at b;generalize cF s=R at b |-;have b:=ω b;have d:=ω i;have q:=i.lt;have n:=h.at_.lt;clear i h;go_enter Tryz.func284,Tryz.ntmps284
 go_wp2_with fail
 refine b.mono ?_;rintro p r ⟨x,rfl,m,l,e⟩;have F:=ω (ni.of (a:=x) (cs:=(fun x:ByteArray=>[.string x])) d.z rfl j n e m l);have c:=ay e d.z (Nat.ne_of_gt j);have u:=c.thaw 0;have c0:=c.cell 0;have o:=c.lt;clear l c e b d m;go_wp2;go_end0;exact F
theorem DS (g P:Nat) (s:ByteArray) (w:World) (i:Blk w P 216 #[(0:Int)]) (h:ko w g (.ok () s)) (j:g<P) :
 ψ 288 #[π P 0,π g 0] w (ni g P 216 (fun x:Nat=>[.int .i64 (x:Int)]) (dI s) w):=by
 have b:=qD g (.ok () s) w h;change Calls _ _ _ _ (oE _ (dI s) _ _ _) at b;generalize dI s=R at b |-;have b:=ω b;have d:=ω i;have q:=i.lt;have n:=h.at_.lt;clear i h;go_enter Tryz.func288,Tryz.ntmps288
 go_wp2_with fail
 refine b.mono ?_;rintro p r ⟨x,rfl,m,l,e⟩;have F:=ω (ni.of (a:=x) (cs:=(fun x:Nat=>[.int .i64 (x:Int)])) d.z rfl j n e m l);have c:=ay e d.z (Nat.ne_of_gt j);have u:=c.thaw 0;have c0:=c.cell 0;have o:=c.lt;clear l c e b d m;go_wp2;go_end0;exact F
theorem FF (p:Value) (w:World):ψ 292 #[.agg #[],p] w fun e w'=>e = .returned (.tuple #[])/\Below w w w':=by
 go_enter Tryz.func292,Tryz.ntmps292;go_wp2;go_end0;exact⟨rfl,(θ).alloc lJ _⟩
structure Kn (k:Nat) (s:ByteArray) (T:TypeId) (F:FuncId) (J0:Nat->Value->World->Prop) (J1:aK->Nat->Value->World->Prop):Prop where
 hn:∀ v (w:World),(binOp .eql 154 (.iface T v) .nilIface).run Tryz.prog w = .ok (.bool false) w
 hc:∀ a (w:World),(callFunc F a).run Tryz.prog w = .ok (.enter F a) w
 pt:∀ w,ψ 77 #[bP (dH k)] w fun e w'=>∃ v,e = .returned (.iface T v)/\J0 w v w'/\Below w w w'
 hm : ∀ B v w, J0 B v w -> ∀ w', (method 415 T v "bracken/req.take").run Tryz.prog w' = .ok (F, v) w'
 tk:∀ B v w g,J0 B v w->g<B->ko w g (.ok () s)->ψ F #[v,π g 0] w fun e w'=>e = .returned (.tuple #[])/\(∃ q,(∀ q' t,jH k s = .ok q' t->q=q')/\J1 q g v w')/\ko w' g (jH k s).st/\Below g w w'
 kp:∀ q g v w w',J1 q g v w->w.grownBy w' (some g)->J1 q g v w'
 wh:∀ q g v w,J1 q g v w->ψ 79 #[(k:Int),.iface T v] w fun e w'=>e = .returned (bP q)/\Below w w w'
theorem DT {α a:Type} (r:RR α) (f:α->a):(r.bind fun x t=>.ok (f x) t).st=r.st:=by cases r <;> rfl
theorem qE {α:Type} {k:Nat} {s:ByteArray} (T t:TypeId) (F:FuncId) {z:Array Value} (cs:α->List Value) {R:RR α} (f:α->aK) (D:jH k s=R.bind fun x t=>.ok (f x) t)
 (C:∀ v (w:World),(binOp .eql 154 (.iface T v) .nilIface).run Tryz.prog w = .ok (.bool false) w) (r:∀ a (w:World),(callFunc F a).run Tryz.prog w = .ok (.enter F a) w)
 (y : ∀ P (w' : World), (method 415 T (π P 0) "bracken/req.take").run Tryz.prog w' = .ok (F, π P 0) w')
 (G:∀ w,ψ 77 #[bP (dH k)] w (nW T t z w))
 (I:∀ g P w,Blk w P t z->ko w g (.ok () s)->g<P->ψ F #[π P 0,π g 0] w (ni g P t cs R w))
 (J:∀ x P w,Blk w P t (cs x).toArray->ψ 79 #[(k:Int),.iface T (π P 0)] w fun e w'=>e = .returned (bP (f x))/\Below w w w') :
 ∃ T F m n,Kn k s T F m n:=
 ⟨T,F,fun B v w=>∃ P,v = .pointer (some ⟨P,0,none⟩)/\B<=P/\Blk w P t z,fun q g v w=>∃ P x,q=f x/\v = .pointer (some ⟨P,0,none⟩)/\g<P/\Blk w P t (cs x).toArray,C,r,
  fun w=>(G w).mono fun e w' ⟨P,d,i,j,l⟩=>⟨_,d,⟨P,rfl,i,j⟩,l⟩,
  by rintro B v w ⟨P,rfl,_,_⟩ w'; exact y P w',
  by
   rintro B v w g ⟨P,rfl,K,h⟩ b E;refine (I g P w h E (by omega)).mono ?_;rintro e w' ⟨d,⟨x,i,j⟩,l,p⟩;rw [D];refine⟨d,⟨f x,fun L t e=>?_,P,x,rfl,rfl,by omega,j⟩,by rw [DT]; exact l,p⟩;obtain⟨a,H,o,c⟩:=pE e;injection c with c;rw [i a H o]; exact c,
  by rintro q g v w w' ⟨P,x,rfl,rfl,b,h⟩ u; exact⟨P,x,rfl,rfl,b,ay u h (Nat.ne_of_gt b)⟩,
  by rintro q g v w ⟨P,x,rfl,rfl,b,h⟩; exact J x P w h⟩
theorem FG (k:Nat) (s:ByteArray) (c:k=8\/k=9):∃ T F d i,Kn k s T F d i:=by
 have l:jH k s = .ok (dH k) s:=by rcases c with rfl | rfl <;> rfl
 refine⟨219,292,fun _ v _=>v = .agg #[],fun q _ v _=>q=dH k/\v = .agg #[],fun _ _=>rfl,fun _ _=>by kernel_rfl,fun w=>?_,?_,?_,fun _ _ _ _ _ h _=>h,?_⟩
 · rcases c with rfl | rfl
   · exact (wA.1 (dH 8) w rfl).mono fun e w' h=>⟨_,h.1,rfl,h.2⟩
   · exact (wA.2 (dH 9) w rfl).mono fun e w' h=>⟨_,h.1,rfl,h.2⟩
 · rintro B v w rfl w';kernel_rfl
 · rintro B v w g rfl m a;refine (FF _ w).mono ?_;rintro e w' ⟨j,b⟩;rw [l];exact⟨j,⟨_,fun n t e=>by injection e,rfl,rfl⟩,a.next (a.at_.grow (fU _ b) (Nat.ne_of_lt a.at_.lt)) a.good (fU _ b),b.mono (Nat.le_of_lt a.at_.lt)⟩
 · rintro q g v w ⟨rfl,rfl⟩;exact Ai (dH k) w
theorem IM (k:Nat) (s:ByteArray) (h:ranged (k:Int) 1 9=true):∃ T F b c,Kn k s T F b c:=by
 have d:=aM.1 h;have a:k=1\/k=2\/k=5\/(k=3\/k=4\/k=6)\/k=7\/k=8\/k=9:=by omega
 rcases a with rfl | rfl | rfl | a | rfl | a
 · exact qE _ _ 265 aS (fun x=>⟨(1:Nat),x,aU,aN,⟨#[]⟩,0⟩) rfl (fun _ _=>rfl) (fun _ _=>by kernel_rfl) (fun _ _=>by kernel_rfl) (fun w=>gX.1 (dH 1) w rfl) (fun g P w=>IL g P s w) (fun x P w h=>B2 ⟨(1:Nat),x,aU,aN,⟨#[]⟩,0⟩ P w h)
 · exact qE _ _ 274 aH (fun x=>⟨(2:Nat),bJ,x,aN,⟨#[]⟩,0⟩) rfl (fun _ _=>rfl) (fun _ _=>by kernel_rfl) (fun _ _=>by kernel_rfl) (fun w=>gX.2.1 (dH 2) w rfl) (fun g P w=>FD g P s w) (fun x P w h=>Aj ⟨(2:Nat),bJ,x,aN,⟨#[]⟩,0⟩ P w h)
 · exact qE _ _ 279 aB (fun x=>⟨(5:Nat),bJ,aU,x,⟨#[]⟩,0⟩) rfl (fun _ _=>rfl) (fun _ _=>by kernel_rfl) (fun _ _=>by kernel_rfl) (fun w=>gX.2.2.1 (dH 5) w rfl) (fun g P w=>DR g P s w) (fun x P w h=>za ⟨(5:Nat),bJ,aU,x,⟨#[]⟩,0⟩ P w h)
 · refine qE 215 214 284 (fun x=>[.string x]) (R:=cF s) (z:=#[.string ⟨#[]⟩]) (fun x=>⟨k,bJ,aU,aN,x,0⟩) (by rcases a with rfl | rfl | rfl <;> rfl) (fun _ _=>rfl) (fun _ _=>by kernel_rfl) (fun _ _=>by kernel_rfl) (fun w=>?_) (fun g P w=>FE g P s w) (fun x P w h=>Ak ⟨k,bJ,aU,aN,x,0⟩ P w h);rcases a with rfl | rfl | rfl
   · exact gX.2.2.2.1 (dH 3) w rfl
   · exact gX.2.2.2.2.1 (dH 4) w rfl
   · exact gX.2.2.2.2.2.1 (dH 6) w rfl
 · exact qE _ _ 288 (fun x:Nat=>[.int .i64 (x:Int)]) (fun x=>⟨(7:Nat),bJ,aU,aN,⟨#[]⟩,x⟩) rfl (fun _ _=>rfl) (fun _ _=>by kernel_rfl) (fun _ _=>by kernel_rfl) (fun w=>gX.2.2.2.2.2.2 (dH 7) w rfl) (fun g P w=>DS g P s w) (fun x P w h=>ze ⟨(7:Nat),bJ,aU,aN,⟨#[]⟩,x⟩ P w h)
 · exact FG k s a
end Go.Proofs.YtimglglgcgpjgaaGreatDoor
