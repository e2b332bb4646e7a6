/- Of the proof of a statement: DEqR, HubMem, HubC, PlHub, SvTop, WEnc, REncV. -/
import Derived.Test.YtimglglgcgpjgabGreatDoorPDoB
import Derived.Test.YtimglglgcgpjgabGreatDoorPWPutV
set_option linter.unusedVariables false
set_option linter.unusedSimpArgs false
set_option maxRecDepth 100000
set_option maxHeartbeats 8000000
namespace Go.Proofs.YtimglglgcgpjgabGreatDoor
open Go.RowKit
theorem Jn {s t:ByteArray} (h:s≠t):(s.toList == t.toList)=false:=by
 rw [beq_eq_false_iff_ne]; exact fun e=>h (dD e)
theorem OX (xs b:List ByteArray) (A v:Option Addr) (n m c I:Nat) (w:World) (e:bg w w 1 A n (au kQ xs)) (j:bg w w 1 v m (au kQ b)) (s:xs.length=n) (t:b.length=m) (W:n<=9223372036854775807) (U:m<=9223372036854775807) :
 ψ 7 #[.slice A n c,.slice v m I] w (xO xs b w):=by
 by_cases h:n=m
 · subst h;have L:((n:Int) != n)=false:=by simp
   have o:=ω s;have p:=ω t;clear s t;go_enter Tryz.func7,Tryz.ntmps7;go_wp2
   go_loopw [5,6,14] (fun _ _ r wr=>Id xs b n w r wr) (fun _ _ r _=>n - (intOf r).toNat)
   case atStart=>exact⟨0,Nat.zero_le _,rfl,rfl,θ⟩
   case round=>
    obtain⟨k,T,rfl,E,a⟩:=hrel;have B:=ω E;clear E;by_cases hlt:k<n
    · obtain⟨x,i⟩:∃ x,xs[k]? = some x:=⟨_,δ (by rw [o.z]; exact hlt)⟩;obtain⟨y,l⟩:∃ y,b[k]? = some y:=⟨_,δ (by rw [p.z]; exact hlt)⟩;obtain⟨G,M,rfl,R,C⟩:=(e.below a).dL gE o.z i;obtain⟨H,N,rfl,Y,D⟩:=(j.below a).dL gE p.z l;have c0:ζ wr G (M+k) (.string x):=by have:=C 0 _ rfl; simpa using this
      have P:ζ wr H (N+k) (.string y):=by have:=D 0 _ rfl; simpa using this
      have X:=a.size;have z:=ω a;have step:=ω (fun (h:x=y)=>iC (i.trans (congrArg some h)) l B.z);have u:=ω (fun (h:x≠y)=>nC i l h);clear C D e j i l a;by_cases d:x=y
      · have O:=ω (step.z d);subst d;clear u step;go_wp2
        go_roundw
        case rel=>exact⟨k+1,by omega,by go_num,O,z⟩
        case measure=>simp [intOf]; omega
      · have F:=ω (u.z d);have K:=Jn d;have Q:(x.toList != y.toList)=true:=by unfold bne; rw [K]; rfl
        clear u step d;go_wp2;go_ret;exact⟨false,rfl,⟨fun h=>(by cases h),fun h=>absurd h F.z⟩,z⟩
    · have q:=ω a
      have same:=ω (show xs=b by
       have J:=B.z;rwa [List.take_of_length_le (by rw [o.z]; omega),List.take_of_length_le (by rw [p.z]; omega)] at J)
      clear a e j;go_wp2;go_ret;exact⟨true,rfl,⟨fun _=>same.z,fun _=>rfl⟩,q⟩
 · have L:((n:Int) != m)=true:=by simp; omega
   have q:=ω (show xs≠b by rintro rfl; omega);clear s t e j;go_enter Tryz.func7,Tryz.ntmps7;go_wp2;go_ret;exact⟨false,rfl,⟨fun h=>(by cases h),fun h=>absurd h q.z⟩,θ⟩
theorem xO.same {α:Type} {xs:List α} {w w':World} {e:Ending} (h:xO xs xs w e w'):e = .returned (.bool true)/\Below w w w':=by
 obtain⟨t,rfl,b,a⟩:=h;exact⟨by rw [b.2 rfl],a⟩
structure Gr (S:Nat->Prop) (w w':World):Prop where
 os:w'.os=w.os
 tape:w'.tape=w.tape
 output:w'.output=w.output
 size:w.heap.size<=w'.heap.size
 block:∀ k,k<w.heap.size->¬ S k->w'.heap[k]? = w.heap[k]?
section
variable {S S':Nat->Prop} {w w' w'':World}
theorem Gr.refl (S:Nat->Prop) (w:World):Gr S w w:=⟨rfl,rfl,rfl,lQ,fun _ _ _=>rfl⟩
theorem Gr.of_below (S:Nat->Prop) (h:Below w w w'):Gr S w w':=⟨h.os,h.tape,h.output,h.size,fun k a _=>h.block k a⟩
theorem Gr.mP {row:Option Nat} (h:w.grownBy w' row) (c:∀ g,row=some g->S g):Gr S w w':=⟨h.os,h.tape,h.output,h.size,fun k a b=>h.block k a (fun e=>b (c k e.symm))⟩
theorem Gr.trans (h:Gr S w w') (k:Gr S' w' w'') (d:∀ b,b<w.heap.size->S' b->S b):Gr S w w'':=
 ⟨k.os.trans h.os,k.tape.trans h.tape,k.output.trans h.output,v6 h.size k.size,fun b a c=>(k.block b (uI a h.size) (fun e=>c (d b a e))).trans (h.block b a c)⟩
theorem Gr.below {B:Nat} (h:Gr S w w') (a:∀ b,S b->B<=b) (c:B<=w.heap.size):Below B w w':=⟨h.os,h.tape,h.output,h.size,fun k d=>h.block k (by omega) (fun e=>by have:=a k e; omega)⟩
theorem Gr.blk {k:Nat} {t:TypeId} {cs:Array Value} (h:Gr S w w') (a:Blk w k t cs) (b:¬ S k):Blk w' k t cs:=(h.block k a.lt b).trans a
end
structure bE where
 rest:ByteArray
 far:Nat
 stuck:Nat
 closed:Bool
 aG:Bool
 waits:List UInt8
def upd {α:Type} (f:Nat->α) (k:Nat) (v:α):Nat->α:=fun i=>if i=k then v else f i
theorem bI {α:Type} (f:Nat->α) (k:Nat) (v:α):upd f k v k=v:=by unfold upd; rw [if_pos rfl]
theorem upd_ne {α:Type} (f:Nat->α) {k i:Nat} (v:α) (h:i≠k):upd f k v i=f i:=by unfold upd; rw [if_neg h]
theorem nM {α:Type} (f:Nat->α) (k:Nat) (v v':α):upd (upd f k v) k v'=upd f k v':=by
 funext i; unfold upd; split <;> rfl
theorem qM {α:Type} (f:Nat->α) (k:Nat):upd f k (f k)=f:=by
 funext i; unfold upd; split
 · subst_vars; rfl
 · rfl
def oL (fb:Nat) (c:bE) (v:Value):List Value:=[π fb 0,.bool c.closed,.bool c.aG,v]
def ou (V:Nat) (fb:Nat->Nat) (wv:Nat->Value) (cs:Nat->bE):Array Value:=
 (.pointer (some ⟨V,0,none⟩) :: (oL (fb 0) (cs 0) (wv 0) ++ oL (fb 1) (cs 1) (wv 1) ++ oL (fb 2) (cs 2) (wv 2) ++ oL (fb 3) (cs 3) (wv 3) ++ oL (fb 4) (cs 4) (wv 4) ++ oL (fb 5) (cs 5) (wv 5) ++ oL (fb 6) (cs 6) (wv 6) ++ oL (fb 7) (cs 7) (wv 7))).toArray
section
variable {V:Nat} {fb:Nat->Nat} {wv:Nat->Value} {cs:Nat->bE} {k:Nat}
theorem lt8 (h:k<8):k=0\/k=1\/k=2\/k=3\/k=4\/k=5\/k=6\/k=7:=by omega
theorem AO:(ou V fb wv cs)[0]? = some (.pointer (some ⟨V,0,none⟩)):=rfl
theorem Jm (h:k<8):(ou V fb wv cs)[1+k*4]? = some (.pointer (some ⟨fb k,0,none⟩)):=by rcases lt8 h with rfl | rfl | rfl | rfl | rfl | rfl | rfl | rfl <;> rfl
theorem lX (h:k<8):(ou V fb wv cs)[1+k*4+1]? = some (.bool (cs k).closed):=by rcases lt8 h with rfl | rfl | rfl | rfl | rfl | rfl | rfl | rfl <;> rfl
theorem qw (h:k<8):(ou V fb wv cs)[1+k*4+2]? = some (.bool (cs k).aG):=by rcases lt8 h with rfl | rfl | rfl | rfl | rfl | rfl | rfl | rfl <;> rfl
theorem jy (h:k<8):(ou V fb wv cs)[1+k*4+3]? = some (wv k):=by rcases lt8 h with rfl | rfl | rfl | rfl | rfl | rfl | rfl | rfl <;> rfl
theorem uF (h:k<8) (v:Value) (c:bE) (a:c.closed=(cs k).closed) (b:c.aG=(cs k).aG):(ou V fb wv cs).setIfInBounds (1+k*4+3) v=ou V fb (upd wv k v) (upd cs k c):=by
 rcases lt8 h with rfl | rfl | rfl | rfl | rfl | rfl | rfl | rfl <;> simp [ou,oL,upd,a,b]
theorem AQ (h:k<8) (c:bE) (a:c.aG=(cs k).aG):(ou V fb wv cs).setIfInBounds (1+k*4+1) (.bool c.closed)=ou V fb wv (upd cs k c):=by
 rcases lt8 h with rfl | rfl | rfl | rfl | rfl | rfl | rfl | rfl <;> simp [ou,oL,upd,a]
theorem xZ (h:k<8) (c:bE) (a:c.closed=(cs k).closed):(ou V fb wv cs).setIfInBounds (1+k*4+2) (.bool c.aG)=ou V fb wv (upd cs k c):=by
 rcases lt8 h with rfl | rfl | rfl | rfl | rfl | rfl | rfl | rfl <;> simp [ou,oL,upd,a]
theorem Jo (h:k<8) (c:bE) (a:c.closed=(cs k).closed) (b:c.aG=(cs k).aG):ou V fb wv cs=ou V fb wv (upd cs k c):=by
 rcases lt8 h with rfl | rfl | rfl | rfl | rfl | rfl | rfl | rfl <;> simp [ou,oL,upd,a,b]
theorem K9 {f:Nat} {c:bE} {v u:Value} (a:u ∈ oL f c v):(∃ p,u = .pointer p)\/(∃ b,u = .bool b)\/u=v:=by
 simp only [oL,List.mem_cons,List.not_mem_nil,or_false] at a;rcases a with rfl | rfl | rfl | rfl
 · exact .inl ⟨_,rfl⟩
 · exact .inr (.inl ⟨_,rfl⟩)
 · exact .inr (.inl ⟨_,rfl⟩)
 · exact .inr (.inr rfl)
theorem Jp (f:∀ i,i<8->∃ A n c,wv i = .slice A n c):gJ (ou V fb wv cs):=nR (by
 intro u a s e;subst e;simp only [ou,List.mem_toArray,List.mem_cons,List.mem_append] at a
 have H:∀ i,i<8->(Value.string s) ∉ oL (fb i) (cs i) (wv i):=by
  intro i d a;rcases K9 a with ⟨p,h⟩ | ⟨p,h⟩ | h
  · cases h
  · cases h
  · obtain⟨A,n,c,b⟩:=f i d;rw [b] at h; cases h
 rcases a with h | ((((((h | h) | h) | h) | h) | h) | h) | h
 · cases h
 all_goals exact H _ (by decide) h)
end
structure cK (w:World) (g V:Nat) (fb:Nat->Nat) (wv:Nat->Value) (cs:Nat->bE) (st:ah) (x:StA) (now:Int):Prop where
 blk:Blk w g 61 (ou V fb wv cs)
 srv:SrvAt w 103 V st x now
 feed:∀ i,i<8->lS w (fb i) (cs i).rest ((cs i).far:Int) ((cs i).stuck:Int)
 wait:∀ i,i<8->ByteRow w (wv i) (cs i).waits
 fbi:∀ i j,i<8->j<8->fb i=fb j->i=j
 wvi:∀ i j b,i<8->j<8->(wv i).ownBlock=some b->(wv j).ownBlock=some b->i=j
def sZ (g V:Nat) (fb:Nat->Nat) (wv:Nat->Value) (k:Nat):Prop:=k=g\/k=V\/∃ i,i<8/\(k=fb i\/(wv i).ownBlock=some k)
theorem AP {w:World} {g:Nat} {t b:TypeId} {cs c:Array Value} (h:Blk w g t cs) (a:Blk w g b c):t=b:=by
 unfold Blk at h a;rw [h] at a;simp only [Option.some.injEq,Obj.cells.injEq] at a;exact a.2.1
theorem bC {w:World} {g a:Nat} {t b:TypeId} {cs c:Array Value} (h:Blk w g t cs) (d:Blk w a b c) (f:t≠b):g≠a:=fun e=>by subst e; exact f (AP h d)
section
variable {w w':World} {g V k:Nat} {fb:Nat->Nat} {wv:Nat->Value} {cs:Nat->bE} {st:ah} {x:StA} {now:Int}
theorem cK.below (h:cK w g V fb wv cs st x now) (b:Below w w w'):cK w' g V fb wv cs st x now:=
 ⟨h.blk.below b h.blk.lt,h.srv.below b,fun i a=>Blk.below (h.feed i a) b (Blk.lt (h.feed i a)),fun i a=>(h.wait i a).keep fun c e=>b.block c (by obtain⟨f,d,_⟩:=(h.wait i a).blk e; exact d.lt),h.fbi,h.wvi⟩
theorem cK.Gb (h:cK w g V fb wv cs st x now):gJ (ou V fb wv cs):=Jp fun i a=>by obtain⟨A,c,e⟩:=(h.wait i a).shape; exact⟨_,_,_,e⟩
theorem StAt.grew (h:StAt w w st x) {v v':Value} {l:List UInt8} (f:ByteRow w v l) (b:cZ w w' v v'):StAt w' w' st x:=by
 cases a:v.ownBlock with
 | none=>
  have:=b.grown;rw [a] at this;exact h.upS ⟨this.os,this.tape,this.output,this.size,fun k e=>this.block k e (by simp)⟩
 | some i=>
  obtain⟨j,c,d⟩:=f.blk a;have:=b.grown;rw [a] at this;exact (h.gy c d this).more this.size
theorem qL {b:Nat} {t:TypeId} {c:Array Value} (h:Blk w b t c) (i:t ≠ 5) {v v':Value} {l:List UInt8} (f:ByteRow w v l) (d:cZ w w' v v'):Blk w' b t c:=
 (d.grown.block b h.lt (fun e=>by obtain⟨j,a,_⟩:=f.blk e.symm; exact i (AP h a))).trans h
theorem cK.put (h:cK w g V fb wv cs st x now) (r:k<8) {v':Value} {y:List UInt8} {j:World} (m:cZ w j (wv k) v') (z:ByteRow j v' y) :
 cK (sQ j g (1+k*4+3) v') g V fb (upd wv k v') (upd cs k { cs k with waits:=y }) st x now/\Blk j g 61 (ou V fb wv cs)/\Gr (sZ g V fb wv) w (sQ j g (1+k*4+3) v'):=by
 have v:=h.wait k r;have p:=qL h.blk (by decide) v m;have I:=qL h.srv.blk (by decide) v m;have O:=h.srv.at_.grew v m;have L:g≠V:=bC h.blk h.srv.blk (by decide);have n:=aQ j g (1+k*4+3) v';have N:=h.Gb;have F:∀ b c,Blk j b 5 c->b≠g:=fun b c l=>(bC p l (by decide)).symm;have C:∀ i,i≠k->upd cs k { cs k with waits:=y } i=cs i:=fun i d=>upd_ne _ _ d;have s:∀ i,i≠k->upd wv k v' i=wv i:=fun i d=>upd_ne _ _ d;refine⟨⟨?_,⟨ay n I L.symm,(O.gy p N n).more n.size,h.srv.ok,h.srv.t⟩,fun i d=>?_,fun i d=>?_,h.fbi,fun i o b d G a f=>?_⟩,p,?_⟩
 · rw [<- uF r v' { cs k with waits:=y } rfl rfl];exact p.set _ _
 · have D:=qL (h.feed i d) (by decide) v m;have E:lS (sQ j g (1+k*4+3) v') (fb i) (cs i).rest ((cs i).far:Int) ((cs i).stuck:Int):=ay n D (bC D p (by decide));by_cases e:i=k
   · subst e; rw [bI]; exact E
   · rw [C i e]; exact E
 · by_cases e:i=k
   · subst e;rw [bI,bI];exact z.keep fun b l=>n.block b (by obtain⟨c,a,_⟩:=z.blk l; exact a.lt) (fun e=>by obtain⟨c,a,_⟩:=z.blk l; injection e with e; exact F b c a e)
   · rw [C i e,s i e];refine (h.wait i d).keep fun b l=>?_;obtain⟨c,a,_⟩:=(h.wait i d).blk l;have A:=m.grown.block b a.lt (fun J=>e (h.wvi i k b d r l J.symm));have B:Blk j b 5 c:=A.trans a;exact (n.block b B.lt (fun e=>by injection e with e; exact F b c B e)).trans A
 · have H:∀ i,i<8->i≠k->(wv i).ownBlock=some b->v'.ownBlock=some b->False:=by
    intro i d M a f;rcases m.own with e | ⟨Q,e,P⟩
    · rw [e] at f; exact M (h.wvi i k b d r a f)
    · rw [e] at f;injection f with f;subst f;obtain⟨c,K,_⟩:=(h.wait i d).blk a;exact absurd K.lt (by omega)
   by_cases u:i=k
   · by_cases q:o=k
     · omega
     · subst u; rw [bI] at a; rw [s o q] at f; exact absurd (H o G q f a) id
   · by_cases q:o=k
     · subst q; rw [bI] at f; rw [s i u] at a; exact absurd (H i d u a f) id
     · rw [s i u] at a; rw [s o q] at f; exact h.wvi i o b d G a f
 · exact (Gr.mP (S:=sZ g V fb wv) m.grown fun b e=>.inr (.inr ⟨k,r,.inr e⟩)).trans (Gr.mP (S:=sZ g V fb wv) n fun b e=>by injection e with e; exact .inl e.symm) fun _ _ h=>h
theorem cK.cell (h:cK w g V fb wv cs st x now) (C:k<8) {j:Nat} {u:Value} {c:bE} {v:Value} (z:(ou V fb wv cs).setIfInBounds j u=ou V fb (upd wv k v) (upd cs k c)) (p:c.rest=(cs k).rest) (q:c.far=(cs k).far) (r:c.stuck=(cs k).stuck) (n:(v=wv k/\c.waits=(cs k).waits)\/(v = .slice none 0 0/\c.waits=[])) :
 cK (sQ w g j u) g V fb (upd wv k v) (upd cs k c) st x now/\Gr (sZ g V fb wv) w (sQ w g j u):=by
 have d:=aQ w g j u;have A:g≠V:=bC h.blk h.srv.blk (by decide)
 have keep:∀ i,i<8->ByteRow (sQ w g j u) (wv i) (cs i).waits:=fun i a=>(h.wait i a).keep fun b y=>by
  obtain⟨c,l,_⟩:=(h.wait i a).blk y;exact d.block b l.lt (fun e=>by injection e with e; exact bC h.blk l (by decide) e.symm)
 refine⟨⟨?_,⟨ay d h.srv.blk A.symm,(h.srv.at_.gy h.blk h.Gb d).more d.size,h.srv.ok,h.srv.t⟩,fun i a=>?_,fun i a=>?_,h.fbi,fun i j b a B l s=>?_⟩,Gr.mP d fun b e=>by injection e with e; exact .inl e.symm⟩
 · rw [<- z]; exact h.blk.set _ _
 · have m:lS (sQ w g j u) (fb i) (cs i).rest ((cs i).far:Int) ((cs i).stuck:Int):=ay d (h.feed i a) (bC (h.feed i a) h.blk (by decide));by_cases e:i=k
   · subst e; rw [bI,p,q,r]; exact m
   · rw [upd_ne _ _ e]; exact m
 · by_cases e:i=k
   · subst e;rw [bI,bI];rcases n with ⟨rfl,e⟩ | ⟨rfl,e⟩
     · rw [e]; exact keep i a
     · rw [e]; exact .nil _
   · rw [upd_ne _ _ e,upd_ne _ _ e]; exact keep i a
 · have o:∀ i,(upd wv k v i).ownBlock=some b->(wv i).ownBlock=some b:=by
    intro i f;by_cases e:i=k
    · subst e;rw [bI] at f;rcases n with ⟨rfl,_⟩ | ⟨rfl,_⟩
      · exact f
      · cases f
    · rw [upd_ne _ _ e] at f; exact f
   exact h.wvi i j b a B (o i l) (o j s)
theorem cK.pushed (h:cK w g V fb wv cs st x now) (b:k<8) {c:bE} (a:w.grownBy w' (some (fb k))) (r:lS w' (fb k) c.rest (c.far:Int) (c.stuck:Int)) (m:c.closed=(cs k).closed) (n:c.aG=(cs k).aG) (o:c.waits=(cs k).waits) :
 cK w' g V fb wv (upd cs k c) st x now/\Gr (sZ g V fb wv) w w':=by
 have s:g≠fb k:=bC h.blk (h.feed k b) (by decide);have p:V≠fb k:=bC h.srv.blk (h.feed k b) (by decide);refine⟨⟨?_,⟨ay a h.srv.blk p,(h.srv.at_.wH (h.feed k b) a).more a.size,h.srv.ok,h.srv.t⟩,fun i d=>?_,fun i d=>?_,h.fbi,h.wvi⟩,Gr.mP a fun f e=>by injection e with e; exact .inr (.inr ⟨k,b,.inl e.symm⟩)⟩
 · rw [<- Jo b c m n]; exact ay a h.blk s
 · by_cases e:i=k
   · subst e; rw [bI]; exact r
   · rw [upd_ne _ _ e]; exact ay a (h.feed i d) (fun l=>e (h.fbi i k d b l))
 · have:(upd cs k c i).waits=(cs i).waits:=by
    by_cases e:i=k
    · subst e; rw [bI]; exact o
    · rw [upd_ne _ _ e]
   rw [this];refine (h.wait i d).keep fun f q=>?_;obtain⟨c,j,_⟩:=(h.wait i d).blk q;exact a.block f j.lt (fun e=>by injection e with e; exact bC (h.feed k b) j (by decide) e.symm)
theorem cK.asked (h:cK w g V fb wv cs st x now) {st':ah} {f:StA} {c:Int} (b:w.grownBy w' (some V)) (d:Blk w' V 103 (jw st' f c)) (o:StAt w' w' st' f) (m:aE st'=0) (p:0<=c/\c<=1099511627776) :
 cK w' g V fb wv cs st' f c/\Gr (sZ g V fb wv) w w':=by
 have n:g≠V:=bC h.blk h.srv.blk (by decide);refine⟨⟨ay b h.blk n,⟨d,o,m,p⟩,fun i a=>ay b (h.feed i a) (bC (h.feed i a) h.srv.blk (by decide)),fun i a=>?_,h.fbi,h.wvi⟩,Gr.mP b fun j e=>by injection e with e; exact .inr (.inl e.symm)⟩;refine (h.wait i a).keep fun j d=>?_;obtain⟨q,l,_⟩:=(h.wait i a).blk d;exact b.block j l.lt (fun e=>by injection e with e; exact bC h.srv.blk l (by decide) e.symm)
end
structure dS (g V:Nat) (fb:Nat->Nat) (wv wv':Nat->Value) (w w':World):Prop where
 gr:Gr (sZ g V fb wv) w w'
 own:∀ i,i<8->(wv' i).ownBlock=none\/(wv' i).ownBlock=(wv i).ownBlock\/∃ b,(wv' i).ownBlock=some b/\w.heap.size<=b
section
variable {g V:Nat} {fb:Nat->Nat} {wv wv' wv'':Nat->Value} {w w' w'':World}
theorem dS.refl (g V:Nat) (fb:Nat->Nat) (wv:Nat->Value) (w:World):dS g V fb wv wv w w:=⟨Gr.refl _ _,fun _ _=>.inr (.inl rfl)⟩
theorem dS.trans (h:dS g V fb wv wv' w w') (k:dS g V fb wv' wv'' w' w''):dS g V fb wv wv'' w w'':=by
 refine⟨h.gr.trans k.gr fun f j d=>?_,fun i b=>?_⟩
 · rcases d with e | e | ⟨i,b,e | e⟩
   · exact .inl e
   · exact .inr (.inl e)
   · exact .inr (.inr ⟨i,b,.inl e⟩)
   · rcases h.own i b with a | a | ⟨q,a,c⟩
     · rw [a] at e; cases e
     · rw [a] at e; exact .inr (.inr ⟨i,b,.inr e⟩)
     · rw [a] at e; injection e with e; omega
 · rcases k.own i b with a | a | ⟨q,a,c⟩
   · exact .inl a
   · rw [a]; exact h.own i b
   · exact .inr (.inr ⟨q,a,v6 h.gr.size c⟩)
theorem dS.below_ (h:dS g V fb wv wv' w w') (a:Below w' w' w''):dS g V fb wv wv' w w'':=h.trans ⟨Gr.of_below _ a,fun _ _=>.inr (.inl rfl)⟩
end
def jK (g o:Nat) (v:Value) (L:List UInt8) (w:World) (e:Ending) (w':World):Prop:=
 e = .returned (.tuple #[])/\∃ a v',ByteRow a v' L/\cZ w a v v'/\w'=a.setCell ⟨g,o,none⟩ v'
theorem cZ.of_below {w w0 w':World} {v v':Value} (a:Below w w w0) (h:cZ w0 w' v v'):cZ w w' v v':=
 cZ.trans ⟨⟨a.os,a.tape,a.output,a.size,fun k b _=>a.block k b⟩,.inl rfl⟩ h
theorem jK.first {g o:Nat} {v:Value} {L:List UInt8} {w w0 w':World} {e:Ending} (f:Below w w w0) (h:jK g o v L w0 e w'):jK g o v L w e w':=by
 obtain⟨a,j,i,b,c,d⟩:=h;exact⟨a,j,i,b,.of_below f c,d⟩
theorem ByteRow.below {w w':World} {v:Value} {l:List UInt8} (h:ByteRow w v l) (c:Below w w w'):ByteRow w' v l:=
 h.keep fun b d=>c.block b (by obtain⟨e,a,_⟩:=h.blk d; exact a.lt)
theorem pW (v k:Nat) (p:List UInt8) (c:p.length<=6000):0<(pR v k p).length/\(pR v k p).length<=6020:=by
 have a:(pC (BJ v k p)).length=4:=rfl;have b:=dR p.length;unfold pR;rw [List.length_append,a];simp only [BJ,List.length_append,List.length_cons,List.length_nil];omega
theorem Lc {kind:Int} {p:ByteArray} (a:1<=kind/\kind<=4) (b:p.size<=6000):uQ 3 kind p=(BA (pR 3 kind.toNat p.data.toList),0):=by
 unfold uQ;rw [if_neg (by omega),if_neg (by omega)];rfl
theorem Er (g o:Nat) (T:TypeId) (cs:Array Value) (v:Value) (l:List UInt8) (kind:Int) (p:ByteArray) (w:World) (i:Blk w g T cs) (P:T ≠ 5) (B:cs[o+3]? = some v) (E:ByteRow w v l) (D:1<=kind/\kind<=4) (n:p.size<=6000) (Y:l.length<=35184372088832) :
 ψ 81 #[π g o,kind,p] w (jK g (o+3) v (l ++ pR 3 kind.toNat p.data.toList) w):=by
 have C:=ω (G9 3 kind p w);have h:=Lc D n;have O:=pW 3 kind.toNat p.data.toList (by simpa using n);generalize M:pR 3 kind.toNat p.data.toList=L at h O |-;have u:=ω h;have d:=ω i;have r:=ω B;have y:=ω E;have N:(BA L).size=L.length:=jA L;have j:(BA L).data.toList=L:=tY L;have hlt:=i.lt;clear M h i B E D n;go_enter Tryz.func81,Tryz.ntmps81
 go_wp2_with fail
 refine C.mono ?_;rintro X Q ⟨rfl,b⟩;rw [u.z];dsimp only;have a:=d.below b d.lt;have y0:ζ Q g (o+3) v:=by rw [a.cell]; exact r
 have Z:=a.lt;have z:=ω (y.below b);have J:=ω b;have G:=ω a;obtain⟨s,q⟩:∃ s,BA L=s:=⟨_,rfl⟩;rw [q] at N j |-;have U:=ω q;have K:=ω j;clear C u b a d y q j
 go_wp2_with (at_builtin; refine Es rfl _ _ rfl v l rfl z.z s rfl (by omega) (by omega) ?_; intro v' F c m; rw [K.z] at c; obtain⟨R,W,rfl⟩:=c.shape; have e:=qL G.z P z.z m; have z0:ζ F g (o+3) v:=(e.cell _).trans r.z; have zt:κ F g (o+3):=e.thaw _; have I:=ω c; have H:=ω m; clear c m e)
 go_end0;exact⟨rfl,_,_,I,.of_below J.z H.z,by rw [List.length_append]⟩
theorem nV (c r:Int):(gP c r).1.size<=22:=by
 unfold gP
 split
 · have a:=dR c.toNat;have b:=dR r.toNat
   show ((rJ c r).toArray).size<=22
   rw [List.size_toArray,rJ,List.length_append];omega
 · show 0<=22
   omega
theorem vw (g o:Nat) (T:TypeId) (cs:Array Value) (v:Value) (l:List UInt8) (c r:Int) (w:World) (h:Blk w g T cs) (F:T ≠ 5) (s:cs[o+3]? = some v) (y:ByteRow w v l) (E:l.length<=35184372088832) :
 ψ 38 #[π g o,.agg #[c,r]] w (jK g (o+3) v (l ++ pR 3 4 (gP c r).1.data.toList) w):=by
 obtain⟨W,b⟩:∃ W,w.alloc (.cells #[c,r] 93)=W:=⟨_,rfl⟩;have j:Below w w W:=by rw [<- b]; exact (θ).alloc lQ _
 have i:Blk W w 93 #[c,r]:=by rw [<- b]; exact n5 w _
 have n:=ω (Jq c r W);obtain⟨c0,B⟩:=Blk.c2 (i);have hlt:=i.lt;have m:=ω (fun (a:World) (D:Below W W a)=>(have e:Below w w a:=j.trans (D.mono j.size); And.intro e (Er g o T cs v l 4 (gP c r).1 a (h.below e h.lt) F s (y.below e) (by omega) (v6 (nV c r) (by omega)) E)));have p:=ω b;clear b j i h s y;go_enter Tryz.func38,Tryz.ntmps38
 go_wp2_with fail
 try rw [p.z]
 clear p;refine n.mono ?_;rintro C a ⟨rfl,q⟩;have d:=ω (m.z a q);clear m q n c0 B
 go_wp2_with fail
 refine Calls.mono d.z.2 ?_;rintro C G u;have z:=ω (u.first d.z.1);obtain⟨rfl,_⟩:=u;clear d;go_wp2;go_end0;exact z
def Jr (g o:Nat) (l:List UInt8) (w:World) (e:Ending) (w':World):Prop:=e = .returned (.string (BA l))/\w'=w.setCell ⟨g,o,none⟩ (.slice none 0 0)
theorem tX (g o:Nat) (T:TypeId) (cs:Array Value) (v:Value) (l:List UInt8) (w:World) (a:Blk w g T cs) (c:cs[o+3]? = some v) (b:ByteRow w v l) :
 ψ 19 #[π g o] w (Jr g (o+3) l w):=by
 obtain⟨A,d,rfl⟩:=b.shape;have e:=iX (P:=Tryz.prog) Tryz.underlying56 Tryz.underlying5 Tryz.underlying9 b.owns;have h:ζ w g (o+3) (.slice A l.length d):=by rw [a.cell]; exact c
 have i:κ w g (o+3):=a.thaw _;have hlt:=a.lt;clear a c b;go_enter Tryz.func19,Tryz.ntmps19;go_wp2;go_ret;exact⟨rfl,rfl⟩
structure cX where
 st:ah
 now:Int
 cs:Nat->bE
def uG (k:Nat) (p:ByteArray) (c:bE):bE:={ c with waits:=c.waits ++ pR 3 k p.data.toList }
def iV (e r:Int) (c:bE):bE:=uG 4 (gP e r).1 c
def uw (l:List UInt8) (c:bE):bE:={ c with waits:=c.waits ++ l }
def Ae (e r:Int) (c:bE):bE:={ iV e r c with closed:=true }
def jQ (H:cX) (k:Nat) (e:Int):cX:={ H with cs:=upd H.cs k (Ae e H.st.rev (H.cs k)) }
def mI (tl:ah->List UInt8) (st:ah) (b:ByteArray) (e:Int) (c:bE):bE:=if c.closed=true\/c.aG=false then c else if e=0 then uG 2 b c else uw (tl st) c
def jH (tl:ah->List UInt8) (st:ah) (b:ByteArray) (e:Int) (cs:Nat->bE) (n:Nat):Nat->bE:=fun i=>if i<n then mI tl st b e (cs i) else cs i
def mJ (tl:ah->List UInt8) (H:cX) (D:aY):cX:={ H with cs:=jH tl H.st (l9 D).1 (l9 D).2 H.cs 8 }
def oE (q:aL):Prop:=q.kind=8\/q.kind=9
instance (q:aL):Decidable (oE q):=by unfold oE; exact inferInstance
def jr (tl:ah->List UInt8) (q:aL) (R:mF) (c:bE):bE:=
 if R.e=0/\oE q then { uw (tl R.st) (iV R.e R.st.rev c) with aG:=c.aG || decide (q.kind=9) } else iV R.e R.st.rev c
noncomputable def lU (tl:ah->List UInt8) (H:cX) (k:Nat) (q:aL):cX:=
 let R:=lO H.st H.now (lD H.st H.now q)
 let a:cX:=⟨R.st,R.now,upd H.cs k (jr tl q R (H.cs k))⟩
 if R.ch=true then mJ tl a (eE H.st R.st) else a
noncomputable def jq (tl:ah->List UInt8) (rq:ByteArray->aL × Int) (H:cX) (k:Nat) (f:cL):cX:=
 if f.ver≠3\/f.kind≠3 then jQ H k 1 else if (rq f.pay).2≠0 then jQ H k (rq f.pay).2 else lU tl H k (rq f.pay).1
noncomputable def cC (tl:ah->List UInt8) (rq:ByteArray->aL × Int) (k:Nat):cX->List cL->cX
 | H,[]=>H
 | H,f :: a=>cC tl rq k (if (H.cs k).closed=true then H else jq tl rq H k f) a
def nX (c:bE) (s:ByteArray) (m e:Nat):bE:={ c with rest:=if e=3 then s.extract m s.size else ⟨#[]⟩,far:=c.far+m,stuck:=if e=3 then 0 else e }
noncomputable def je (tl:ah->List UInt8) (rq:ByteArray->aL × Int) (H:cX) (k:Nat) (s:ByteArray) (fs:List cL) (m e:Nat):cX:=
 let a:=cC tl rq k { H with cs:=upd H.cs k (nX (H.cs k) s m e) } fs
 if e≠3/\(a.cs k).closed=false then jQ a k e else a
def xI (c:bE):bE:={ c with waits:=[] }
def oF (H:cX) (k:Nat):cX:={ H with cs:=upd H.cs k (xI (H.cs k)) }
def qG (st:ah):cX:=⟨st,0,fun _=>⟨⟨#[]⟩,0,0,false,false,[]⟩⟩
theorem xF (D:aY):(l9 D).1.size<=6000:=by
 unfold l9
 split
 · split
   · exact Nat.zero_le _
   · rename_i h
     show ((oD D).toArray).size<=6000
     rw [List.size_toArray]; omega
 · exact Nat.zero_le _
def zL (st:ah) (w:World) (e:Ending) (w':World):Prop:=
 Below w w w'/\((aE st≠0/\e = .returned (.tuple #[.pointer none,(aE st)])) \/
  (aE st=0/\∃ V a,e = .returned (.tuple #[π V 0,(0:Int)])/\w.heap.size<=V/\SrvAt w' 103 V st a 0))
theorem Ld {w:World} {B:Nat} {st:ah} {x:StA} (h:StAt w B st x):oC st.jobs/\mB st.nodes/\lB st.leases:=⟨h.oj,h.on_,h.ol⟩
theorem Js (st:ah) (x:StA) (w:World) (K:StAt w w st x) (L:Tabs w) :
 ψ 13 #[.agg (stC st x)] w (zL st w):=by
 obtain⟨W,h⟩:∃ W,w.alloc (.cells (stC st x) 26)=W:=⟨_,rfl⟩;have j:Below w w W:=by rw [<- h]; exact (θ).alloc lQ _
 have e:Blk W w 26 (stC st x):=by rw [<- h]; exact n5 w _
 have B:=K.upS j;have G:=ω (show ψ 33 #[.agg #[st.rev,.slice x.aj x.nj x.cj,.slice x.an x.nn x.cn,.slice x.al x.nl x.cl]] W _ from pG st x W B (L.below j));obtain⟨c0,u,c2,v⟩:=Blk.c4 (e);have hlt:=e.lt;have l:=ω e;have r:=ω j;have I:=ω B;have o:=ω h;obtain⟨E,J⟩:∃ E,aE st=E:=⟨_,rfl⟩;have b:=ω J;clear h e j K B L J;unfold stC at o |-;go_enter Tryz.func13,Tryz.ntmps13
 go_wp2_with fail
 try rw [o.z]
 clear o;refine G.mono ?_;rintro T D ⟨rfl,i⟩;rw [b.z];have F:=ω (l.below i l.lt);have p:=ω (r.trans (i.mono r.size));have n:=ω (I.upS i);clear i G l r I c0 u c2 v hlt;by_cases d:E=0
 · have m:=ω (b.trans d);subst d;have O:=qN n.z m.z;have H:=ω (show ψ 34 #[.agg #[st.rev,.slice x.aj x.nj x.cj,.slice x.an x.nn x.cn,.slice x.al x.nl x.cl]] D _ from AR st x D n.z (by omega) (by omega) (by omega));have c:=ω O;clear O b;obtain⟨c0,u,c2,v⟩:=Blk.c4 (F.z);have hlt:=F.lt
   go_wp2_with fail
   refine H.mono ?_;rintro T a ⟨y,rfl,U,X,Y,N,M⟩;obtain⟨P,R,Q⟩:=Ld n.z;have z:=N.at2 (by have:=c.z; omega) (by have:=c.z; omega) (by have:=c.z; omega) P R Q;have q:=ω (p.trans (M.mono p.size));have Z:=ω z;have C:Below a a (χ a (jw st y 0) 103):=(θ).alloc lQ _;have s:=ω (show zL st w (.returned (.tuple #[π a 0,(0:Int)])) (χ a #[st.rev,.slice y.aj y.nj y.cj,.slice y.an y.nn y.cn,.slice y.al y.nl y.cl,(0:Int)] 103) from ⟨q.trans (C.mono q.size),.inr ⟨m,a.heap.size,y,rfl,q.size,n5 a _,z.upS C,m,by omega⟩⟩);clear z N M C H c0 u c2 v hlt P R Q U X Y c;unfold stC;go_wp2;go_ret2;exact s
 · have d1:(E != 0)=true:=by simpa using d
   have s:=ω (show zL st w (.returned (.tuple #[.pointer none,E])) D from ⟨p,.inl ⟨by rw [b.z]; exact d,by rw [b.z]⟩⟩);go_wp2;go_ret2;exact s
def B9 (st:ah) (w:World) (e:Ending) (w':World):Prop:=∃ y,e = .returned (.agg (stC st y))/\StAt w' w' st y/\Below w w w'
theorem ze (st:ah) (x:StA) (now:Int) (V:Nat) (w:World) (h:SrvAt w 103 V st x now) :
 ψ 41 #[π V 0] w (B9 st w):=by
 obtain⟨W,e⟩:∃ W,w.alloc (.cells lI 26)=W:=⟨_,rfl⟩;have m:Below w w W:=by rw [<- e]; exact (θ).alloc lQ _
 have s:Blk W w 26 lI:=by rw [<- e]; exact n5 w _
 have a:=h.below m;have B:=qN a.at_ a.ok;have o:=ω (show ψ 34 #[.agg #[st.rev,.slice x.aj x.nj x.cj,.slice x.an x.nn x.cn,.slice x.al x.nl x.cl]] W _ from AR st x W a.at_ (by omega) (by omega) (by omega));obtain⟨c0,G,c2,H⟩:=Blk.c4 (h.blk);have hlt:=a.blk.lt;have M:=h.blk.lt;have i:=ω s;have j:=ω m;have n:=ω a;have p:=ω e;have c:=ω B;clear e s m h a B;go_enter Tryz.func41,Tryz.ntmps41
 go_wp2_with fail
 try rw [p.z]
 clear p;refine o.mono ?_;rintro L T ⟨y,rfl,I,J,K,z,l⟩;obtain⟨C,E,D⟩:=Ld n.at_;have q:=z.at2 (by have:=c.z; omega) (by have:=c.z; omega) (by have:=c.z; omega) C E D;have b:=i.below l i.lt;have r:=j.trans (l.mono j.size);obtain⟨z0,z1,z2,z3⟩:=Blk.z4 (b);obtain⟨O,P,Q,R⟩:=Blk.c4 (b);obtain⟨u,d⟩:=Blk.S4 (b) (.int .i64 st.rev) (.slice y.aj y.nj y.cj) (.slice y.an y.nn y.cn) (.slice y.al y.nl y.cl);obtain⟨U,X,Y,Z⟩:=Blk.c4 u;have N:=b.lt;have F:=ω (show B9 st w (.returned (.agg (stC st y))) _ from ⟨y,rfl,(q.gy b (jL ⟨0,[],[],[]⟩ ⟨none,0,0,none,0,0,none,0,0⟩) d).more d.size,cR r d lQ⟩);clear q z l b r u d o c0 G c2 H hlt I J K C E D c i j n;unfold stC;go_wp2;refine bodyPost_ret (v:=.agg (stC st y)) (by simp [results,Tryz.results41,go_sem,stC, *]) rfl ?_;exact F
structure VGo (w0 w:World) (base g p S Q:Nat) (v:Int) (l:List UInt8) (cs:Array Value) (N:Nat):Prop where
 ok:gA w base g l
 keep:dF base g w0 w
 bS:Blk w S 26 cs
 bq:Blk w Q 3 #[v]
 bp:Blk w p 237 #[π g 0]
 nS:S≠g
 nq:Q≠g
 np:p≠g
 len:l.length<=N
theorem VGo.next {w0 w w':World} {base g p S Q N:Nat} {v:Int} {l k:List UInt8} {cs:Array Value} (h:VGo w0 w base g p S Q v l cs N) (ha:gA w' base g (l ++ k)) (a:dF base g w w') (b:k.length<=4000):VGo w0 w' base g p S Q v (l ++ k) cs (N+4000):=
 ⟨ha,h.keep.trans a,a.blk h.bS (by decide) h.nS,a.blk h.bq (by decide) h.nq,a.blk h.bp (by decide) h.np,h.nS,h.nq,h.np,by have:=h.len; rw [List.length_append]; omega⟩
theorem DM (st:ah) (x:StA) (v:Int) (w:World) (hS:StAt w w st x) (hT:Tabs w) :
 ψ 161 #[.agg (stC st x),v] w (uR st v w):=by
 have ai:Below w w (χ w (stC st x) 26):=(θ).alloc lQ _;have aa:=ai.alloc ai.size (.cells #[v] 3);have aw:Blk ((w.alloc (.cells (stC st x) 26)).alloc (.cells #[v] 3)) w 26 (stC st x):=Blk.alloc (show Blk _ _ _ _ from n5 w _) _
 have av:Blk ((w.alloc (.cells (stC st x) 26)).alloc (.cells #[v] 3)) (w.heap.size+1) 3 #[v]:=by
  have af:=n5 (χ w (stC st x) 26) (.cells #[v] 3);rwa [show (w.alloc (.cells (stC st x) 26)).heap.size=w.heap.size+1 by simp] at af
 have am:=ω (KF st x v _ (hS.up aa) (hT.below aa));have X:=ω (fun aC E (af:jW st v=(aC,E)) w'=>uR.mk' (w:=w) (w':=w') af);have d:=ω hS;have HT:=ω hT;have au:=ω aa;have ac:=ω aw;have ab:=ω av;have hF:Aw st v=if aE st≠0 then (false,aE st) else if ranged v 1 3=false then (false,1) else (pY st v,0):=rfl;have HF:=ω hF;clear ai aa hS aw av hT hF;obtain⟨rev,jobs,nodes,leases⟩:=st;obtain⟨a2,nj,cj,an,nn,cn,D,Q,F⟩:=x;unfold stC at *;dsimp only at *;go_enter Tryz.func161,Tryz.ntmps161
 go_wp2_with fail
 refine am.mono ?_;rintro u a ⟨rfl,Z⟩;have C:=ω (au.trans (Z.mono au.size));have a1:=ω (ac.below Z ac.lt);have ar:=ω (ab.below Z ab.lt);have aF:w.heap.size+1<a.heap.size:=ar.lt;rw [HF.z];clear Z am ac ab;obtain⟨E,hE⟩:∃ E,aE ⟨rev,jobs,nodes,leases⟩=E:=⟨_,rfl⟩;obtain⟨a3,ak⟩:∃ f,pY ⟨rev,jobs,nodes,leases⟩ v=f:=⟨_,rfl⟩;have B:=ω hE;have CU:=ω ak;rw [hE,ak];clear hE ak HF;by_cases Y:E=0;rotate_left
 · rw [if_pos Y];have e2:(E != 0)=true:=bne_iff_ne.2 Y;have r:=ω (X.z _ _ (by rw [zf (by rw [B.z]; exact Y),B.z]) _ C.z);go_wp2;go_ret2;exact r
 subst Y;rw [if_neg (by simp)];cases L:ranged v 1 3
 · rw [if_pos rfl];have r:=ω (X.z _ _ (Ca B.z L) _ C.z);clear L;go_wp2;go_ret2;exact r
 rw [if_neg (by simp)];have Hr:=ω L;have hv:=aM.1 L;clear L;cases a3
 · have r:=ω (X.z _ _ (AS B.z Hr.z CU.z) _ C.z);go_wp2;go_ret2;exact r
 have r:=ω (X.z _ _ (Et B.z Hr.z CU.z));have G:=ω (Ob B.z);have ao:=ω (G.jobs);have aq:=ω (G.nodes);have ap:=ω (G.leases);have a6:=G.r0;have a7:=G.r1;have ae:=G.nj;have a5:=G.nn;have a4:=G.nl;have a8:=d.lj;have a9:=d.ln;have aA:=d.ll;dsimp only at a6 a7 ae a5 a4 a8 a9 aA;have ag:=HT.lt;have a0:=gA.new (HT.below C.z) ag.1 ag.2 (show w.heap.size<=a.heap.size by omega);have ax:Below a a (χ a #[.slice none 0 0] 239):=(θ).alloc lQ _;have az:(a.alloc (.cells #[.slice none 0 0] 239)).heap.size=a.heap.size+1:=by simp
 have aj:Below (a.alloc (.cells #[.slice none 0 0] 239)).heap.size (χ a #[.slice none 0 0] 239) ((a.alloc (.cells #[.slice none 0 0] 239)).alloc (.cells #[π a 0] 237)):=(θ).alloc lQ _
 have ay:Blk ((a.alloc (.cells #[.slice none 0 0] 239)).alloc (.cells #[π a 0] 237)) (a.heap.size+1) 237 #[π a 0]:=by
  have:=n5 (χ a #[.slice none 0 0] 239) (.cells #[π a 0] 237);rw [az] at this;exact this
 have e:=ω (VGo.mk (w0:=w) (N:=0) (a0.below aj) (((dF.of_below C.z).trans (dF.of_below ax)).trans (dF.of_below aj)) ((a1.alloc _).alloc _) ((ar.alloc _).alloc _) ay (show w.heap.size≠a.heap.size by omega) (show w.heap.size+1≠a.heap.size by omega) (by omega) (by simp));obtain⟨y0,y1,s,i⟩:=Blk.c4 (e.bS);have yq:ζ ((a.alloc (.cells #[.slice none 0 0] 239)).alloc (.cells #[π a 0] 237)) (w.heap.size+1) 0 (.int .i64 v):=e.bq.cell 0;clear ag a0 ax az aj ay C;by_cases h2:2<v
 · have d2:decide (2<v)=true:=t7 h2
   go_wp2_with fail
   refine Calls.mono (p8 w a _ rev _ (by omega) e.ok (by have:=e.len; omega)) ?_;rintro u W ⟨rfl,ok1,k1⟩;have h:=ω (e.next ok1 k1 (xR _));clear ok1 k1 e y0 y1 s i yq;have o:ζ W (a.heap.size+1) 0 (π a 0):=h.bp.cell 0;have m:a.heap.size+1<W.heap.size:=h.bp.lt;have y1:ζ W w 1 (.slice a2 nj cj):=h.bS.cell 1;have s:ζ W w 2 (.slice an nn cn):=h.bS.cell 2;have i:ζ W w 3 (.slice D Q F):=h.bS.cell 3
   go_wp2_with fail
   refine Calls.mono (rK.1 w.heap.size a (a.heap.size+1) (w.heap.size+1) v _ jobs _ _ _ _ (d.j.below (h.keep.below (show w.heap.size<=a.heap.size by omega) lQ)) d.lj (by first | omega | (dsimp only; omega)) ao.z h.ok (by have:=h.len; omega) h.bp h.np h.bq h.nq) ?_;rintro u q ⟨rfl,R,M⟩;have b:=ω (h.next R M (gU (fun x=>mH x v) ae));clear R M o m y1 s i;have o:ζ q (a.heap.size+1) 0 (π a 0):=b.bp.cell 0;have m:a.heap.size+1<q.heap.size:=b.bp.lt;have s:ζ q w 2 (.slice an nn cn):=b.bS.cell 2;have i:ζ q w 3 (.slice D Q F):=b.bS.cell 3
   go_wp2_with fail
   refine Calls.mono (rK.2 w.heap.size a (a.heap.size+1) (w.heap.size+1) v _ nodes _ _ _ _ (d.n.below (b.keep.below (show w.heap.size<=a.heap.size by omega) lQ)) d.ln (by first | omega | (dsimp only; omega)) aq.z b.ok (by have:=b.len; omega) b.bp b.np b.bq b.nq) ?_;rintro u y ⟨rfl,T,O⟩;have c:=ω (b.next T O (gU (fun x=>kS x v) (by omega)));clear T O o m s i;have o:ζ y (a.heap.size+1) 0 (π a 0):=c.bp.cell 0;have m:a.heap.size+1<y.heap.size:=c.bp.lt;have i:ζ y w 3 (.slice D Q F):=c.bS.cell 3
   go_wp2_with fail
   refine Calls.mono (xQ w a (a.heap.size+1) _ leases _ _ _ _ (d.l.below (c.keep.below (show w.heap.size<=a.heap.size by omega) lQ)) d.ll (by first | omega | (dsimp only; omega)) ap.z c.ok (by have:=c.len; omega)) ?_;rintro u z ⟨rfl,U,P⟩;have p:=ω (c.next U P (gU (fun x=>ku x) (by omega)));clear U P o m i;have o:ζ z (a.heap.size+1) 0 (π a 0):=p.bp.cell 0;have m:a.heap.size+1<z.heap.size:=p.bp.lt;have I:[] ++ bf rev.toNat ++ fY (fun x=>eP x v) jobs ++ fY (fun x=>cW x v) nodes ++ fY eH leases=uH ⟨rev,jobs,nodes,leases⟩ v:=by unfold uH mG; rw [if_pos (by omega)]; simp only [List.append_assoc,List.nil_append]
   have J:=p.ok.at_;rw [I] at J;obtain⟨_,AA,al,ad,H,K⟩:=J;have z0:ζ z a 0 (.slice AA al ad):=H.cell 0;have aB:=iX Tryz.underlying56 Tryz.underlying5 Tryz.underlying9 K;have bG:=ω (r.z _ (p.keep.below (show w.heap.size<=a.heap.size by omega) lQ));clear I H K;go_wp2;go_ret2;exact bG
 · have d2:decide (2<v)=false:=fQ h2;have aD:a.heap.size<a.heap.size+1:=by omega
   go_wp2_with fail
   refine Calls.mono (rK.1 w.heap.size a (a.heap.size+1) (w.heap.size+1) v _ jobs _ _ _ _ (d.j.below (e.keep.below (show w.heap.size<=a.heap.size by omega) lQ)) d.lj (by first | omega | (dsimp only; omega)) ao.z e.ok (by have:=e.len; omega) e.bp e.np e.bq e.nq) ?_;rintro u q ⟨rfl,R,M⟩;have b:=ω (e.next R M (gU (fun x=>mH x v) ae));clear R M y0 y1 s i yq;have o:ζ q (a.heap.size+1) 0 (π a 0):=b.bp.cell 0;have m:a.heap.size+1<q.heap.size:=b.bp.lt;have s:ζ q w 2 (.slice an nn cn):=b.bS.cell 2;have i:ζ q w 3 (.slice D Q F):=b.bS.cell 3
   go_wp2_with fail
   refine Calls.mono (rK.2 w.heap.size a (a.heap.size+1) (w.heap.size+1) v _ nodes _ _ _ _ (d.n.below (b.keep.below (show w.heap.size<=a.heap.size by omega) lQ)) d.ln (by first | omega | (dsimp only; omega)) aq.z b.ok (by have:=b.len; omega) b.bp b.np b.bq b.nq) ?_;rintro u y ⟨rfl,T,O⟩;have c:=ω (b.next T O (gU (fun x=>kS x v) (by omega)));clear T O o m s i;have o:ζ y (a.heap.size+1) 0 (π a 0):=c.bp.cell 0;have m:a.heap.size+1<y.heap.size:=c.bp.lt;have i:ζ y w 3 (.slice D Q F):=c.bS.cell 3
   go_wp2_with fail
   refine Calls.mono (xQ w a (a.heap.size+1) _ leases _ _ _ _ (d.l.below (c.keep.below (show w.heap.size<=a.heap.size by omega) lQ)) d.ll (by first | omega | (dsimp only; omega)) ap.z c.ok (by have:=c.len; omega)) ?_;rintro u z ⟨rfl,U,P⟩;have p:=ω (c.next U P (gU (fun x=>ku x) (by omega)));clear U P o m i;have o:ζ z (a.heap.size+1) 0 (π a 0):=p.bp.cell 0;have m:a.heap.size+1<z.heap.size:=p.bp.lt;have I:[] ++ fY (fun x=>eP x v) jobs ++ fY (fun x=>cW x v) nodes ++ fY eH leases=uH ⟨rev,jobs,nodes,leases⟩ v:=by unfold uH mG; rw [if_neg (by omega)]; simp only [List.append_assoc,List.nil_append]
   have J:=p.ok.at_;rw [I] at J;obtain⟨_,AA,al,ad,H,K⟩:=J;have z0:ζ z a 0 (.slice AA al ad):=H.cell 0;have aB:=iX Tryz.underlying56 Tryz.underlying5 Tryz.underlying9 K;have bG:=ω (r.z _ (p.keep.below (show w.heap.size<=a.heap.size by omega) lQ));clear I H K;go_wp2;go_ret2;exact bG
theorem Gg (st:ah) (x:StA) (v:Int) (w:World) (c:StAt w w st x) (g:SGood st) :
 ψ 176 #[.agg (stC st x),v] w (fZ (uH st v) w):=by
 have s:Below w w (χ w (stC st x) 26):=(θ).alloc lQ _;have z:Blk (χ w (stC st x) 26) w 26 (stC st x):=n5 w _;have h:=c.up s;have C:=c.lj;have D:=c.ln;have E:=c.ll;have a:=ω (BX st.jobs st.nodes st.leases x.aj x.nj x.cj x.an x.nn x.cn x.al x.nl x.cl v (χ w (stC st x) 26) h.j C (by have:=g.nj; omega) g.jobs h.n D (by have:=g.nn; omega) g.nodes h.l E (by have:=g.nl; omega) g.leases);have o:=ω (show uH st v=(if 2<v then bf st.rev.toNat else []) ++ mG st.jobs st.nodes st.leases v from rfl);have g0:=g.r0;have g1:=g.r1;have F:=Jt g v;have u:=ω s;have m:=ω z;clear s z h c C D E g;obtain⟨rev,jobs,nodes,leases⟩:=st;obtain⟨R,nj,X,W,nn,Z,U,nl,Y⟩:=x;unfold stC at *;dsimp only at *;generalize M:mG jobs nodes leases v=y at a o F;have O:(bs y).size<=12000:=by rw [dz]; exact F
 generalize B:bs y=T at a O;have p:=ω B;clear M B;unfold fZ at a;rw [p.z] at a;go_enter Tryz.func176,Tryz.ntmps176
 go_wp2_with fail
 refine a.mono ?_;rintro L H ⟨rfl,b⟩;have q:=ω (u.trans (b.mono u.size));have r:=m.below b m.lt;have P:ζ H w 0 (.int .i64 rev):=r.cell 0;have aa:=r.lt;clear b a m r;by_cases d:2<v
 · have K:decide (2<v)=true:=t7 d;have i:=ω (show bs (bf rev.toNat) ++ T=bs (uH ⟨rev,jobs,nodes,leases⟩ v) from by rw [o.z,if_pos d,<- p.z,fC]);have e:=jG rev H (by omega);have N:(bs (bf rev.toNat)).size<=17:=by rw [dz]; exact bT _
   generalize G:bs (bf rev.toNat)=Q at N i;unfold fZ at e;rw [G] at e;have I:=ω e;clear e G
   go_wp2_with fail
   refine I.mono ?_;rintro L w2 ⟨rfl,b⟩;have J:=ω (q.trans (b.mono q.size));clear b P;go_wp2;go_ret;exact⟨kW i.z,J⟩
 · have K:decide (2<v)=false:=fQ d;have i:=ω (show T=bs (uH ⟨rev,jobs,nodes,leases⟩ v) from by rw [o.z,if_neg d,<- p.z,List.nil_append]);go_wp2;go_ret;exact⟨kW i.z,q⟩
theorem DN (st:ah) (x:StA) (v:Int) (w:World) (r:StAt w w st x) :
 ψ 117 #[.agg (stC st x),v] w (uR st v w):=by
 have s:Below w w (χ w (stC st x) 26):=(θ).alloc lQ _;have L:Blk (χ w (stC st x) 26) w 26 (stC st x):=n5 w _;have y:=ω (lR st x _ (r.up s));have l:=ω (fun ad E (ab:jW st v=(ad,E)) w'=>uR.mk' (w:=w) (w':=w') ab);have B:=ω r;have C:=ω s;have o:=ω L;clear s L r;obtain⟨E,M⟩:∃ E,aE st=E:=⟨_,rfl⟩;obtain⟨aa,P⟩:∃ f,pY st v=f:=⟨_,rfl⟩;have b:=ω M;have n:=ω P;clear M P;obtain⟨S,N⟩:∃ S,S=st:=⟨_,rfl⟩;obtain⟨X,O⟩:∃ X,X=x:=⟨_,rfl⟩;have ae:=ω N;have af:=ω O;obtain⟨rev,jobs,nodes,leases⟩:=st;obtain⟨F,Q,I,H,T,K,G,R,J⟩:=x;clear N O;unfold stC at *;dsimp only at *;go_enter Tryz.func117,Tryz.ntmps117
 go_wp2_with fail
 refine y.mono ?_;rintro p w1 ⟨rfl,a⟩;have e:=ω (C.trans (a.mono C.size));have d:=ω (o.below a o.lt);have ac:=d.lt;rw [b.z];clear a y o;obtain⟨U,W,Y,Z⟩:=Blk.c4 (d.z);by_cases q:E=0;rotate_left
 · have e2:(E != 0)=true:=bne_iff_ne.2 q;have c:=ω (l.z _ _ (by rw [zf (by rw [b.z]; exact q),b.z]) _ e.z);go_wp2;go_ret2;exact c
 subst q
 go_wp2_with fail
 refine Calls.mono (dG v 1 3 _) ?_;rintro p w0 ⟨rfl,rfl⟩;cases i:ranged v 1 3
 · have c:=ω (l.z _ _ (Ca b.z i) _ e.z);clear i;go_wp2;go_ret2;exact c
 have D:=ω i;have h:=I2 ⟨rev,jobs,nodes,leases⟩ ⟨F,Q,I,H,T,K,G,R,J⟩ v w1 (B.up e.z) i;rw [n.z] at h;unfold stC at h;dsimp only at h;have z:=ω h;clear i h
 go_wp2_with fail
 refine z.mono ?_;rintro p w2 ⟨rfl,a⟩;have j:=ω (e.trans (a.mono e.size));have u:=ω (d.below a d.lt);have ac:=u.lt;clear a U W Y Z z d;obtain⟨U,W,Y,Z⟩:=Blk.c4 (u.z);cases aa
 · have c:=ω (l.z _ _ (AS b.z D.z n.z) _ j.z);go_wp2;go_ret2;exact c
 have c:=ω (l.z _ _ (Et b.z D.z n.z));have m:=Gg ⟨rev,jobs,nodes,leases⟩ ⟨F,Q,I,H,T,K,G,R,J⟩ v w2 (B.up j.z) (Ob b.z);unfold stC at m;dsimp only at m;have HC:=ω m;clear m
 go_wp2_with fail
 refine HC.mono ?_;rintro p w3 ⟨rfl,a⟩;have bG:=ω (c.z _ (j.trans (a.mono j.size)));clear a;go_wp2;go_ret2;exact bG
end Go.Proofs.YtimglglgcgpjgabGreatDoor
