/- Of the proof of a statement: HubN, NxZ, RHub, RdAll. -/
import Derived.Recover
import Derived.Laws.Pointers
import Derived.Test.YtimglglgcgpjgaaGreatDoorQHubG
import Derived.Test.YtimglglgcgpjgaaGreatDoorQNxE
import Derived.Test.YtimglglgcgpjgaaGreatDoorQRDo
import Derived.Test.YtimglglgcgpjgaaGreatDoorQRRc
import Derived.Test.YtimglglgcgpjgaaGreatDoorQSrcRow
set_option linter.unusedVariables false
set_option linter.unusedSimpArgs false
set_option maxRecDepth 100000
set_option maxHeartbeats 8000000
namespace Go.Proofs.YtimglglgcgpjgaaGreatDoor
open Go.RowKit
def zK (F n i:Nat):List Value:=[if i<n then .pointer (some ⟨F+i,0,none⟩) else .pointer none,.bool false,.bool false,.slice none 0 0]
def rN (V F n:Nat):Array Value:=(.pointer (some ⟨V,0,none⟩) :: (zK F n 0 ++ zK F n 1 ++ zK F n 2 ++ zK F n 3 ++ zK F n 4 ++ zK F n 5 ++ zK F n 6 ++ zK F n 7)).toArray
theorem Jx {V F n:Nat} (h:n<8):(rN V F n)[1+n*4]? = some (.pointer none):=by rcases lt8 h with rfl | rfl | rfl | rfl | rfl | rfl | rfl | rfl <;> rfl
theorem Gq {V F n:Nat} (h:n<8):(rN V F n).setIfInBounds (1+n*4) (π (F+n) 0)=rN V F (n+1):=by
 rcases lt8 h with rfl | rfl | rfl | rfl | rfl | rfl | rfl | rfl <;> simp [rN,zK]
theorem Gs (V F:Nat) (st:ah):rN V F 8=nR V (fun i=>F+i) (fun _=>.slice none 0 0) (BK st).cs:=by simp [rN,zK,nR,oK,BK]
def wS (st:ah) (w:World) (e:Ending) (w':World):Prop:=
 Below w w w'/\((aE st≠0/\e = .returned (.tuple #[.pointer none,(aE st)])) \/
  (aE st=0/\∃ g V f h,e = .returned (.tuple #[π g 0,(0:Int)])/\cJ w' g V f (fun _=>.slice none 0 0) (BK st).cs st h 0/\∀ b,su g V f (fun _=>.slice none 0 0) b->w.heap.size<=b))
structure LG (w0:World) (g V F:Nat) (st:ah) (x:StA) (n:Nat) (w:World):Prop where
 below:Below w0 w0 w
 blk:Blk w g 60 (rN V F n)
 srv:SrvAt w 106 V st x 0
 size:w.heap.size=F+n
 feed:∀ j,j<n->kB w (F+j) ⟨#[]⟩ 0 0
 lo:w0.heap.size<=g/\w0.heap.size<=V/\w0.heap.size<=F
theorem Jy (V F n:Nat):gL (rN V F n):=nT (by
 intro u f s e;subst e;simp only [rN,List.mem_toArray,List.mem_cons,List.mem_append] at f
 have H:∀ i,(Value.string s) ∉ zK F n i:=by
  intro i f;simp only [zK,List.mem_cons,List.not_mem_nil,or_false] at f;rcases f with h | h | h | h
  · split at h <;> cases h
  · cases h
  · cases h
  · cases h
 rcases f with h | ((((((h | h) | h) | h) | h) | h) | h) | h
 · cases h
 all_goals exact H _ h)
theorem LG.step {w0 w w':World} {g V F:Nat} {st:ah} {x:StA} {n:Nat} (h:LG w0 g V F st x n w) (u:n<8) (q:w'=((w.setCell ⟨g,1+n*4,none⟩ (π w 0)).alloc (.cells #[.string ⟨#[]⟩,(0:Int),(0:Int)] 108)).drew):LG w0 g V F st x (n+1) w':=by
 have z:w'=(w.drew.alloc (.cells #[.string ⟨#[]⟩,(0:Int),(0:Int)] 108)).setCell ⟨g,1+n*4,none⟩ (π w 0):=by rw [q,World.setCell_alloc_past (w:=w.drew) _ _ _ _ h.blk.lt]; rfl
 clear q;subst z;have f:Below w w (w.drew.alloc (.cells #[.string ⟨#[]⟩,(0:Int),(0:Int)] 108)):=(θ).drew.alloc lJ _;have i:=h.blk.below f h.blk.lt;have y:=h.srv.below f;have j:=aR (w.drew.alloc (.cells #[.string ⟨#[]⟩,(0:Int),(0:Int)] 108)) g (1+n*4) (π w 0);have l:=h.size;have s:g≠V:=bH h.blk h.srv.blk (by decide);have p:kB (w.drew.alloc (.cells #[.string ⟨#[]⟩,(0:Int),(0:Int)] 108)) w ⟨#[]⟩ 0 0:=n5 w.drew _;have B:(w.drew.alloc (.cells #[.string ⟨#[]⟩,(0:Int),(0:Int)] 108)).heap.size=w.heap.size+1:=by simp
 refine⟨cU (h.below.trans (f.mono h.below.size)) j h.lo.1,?_,y.other i (Jy _ _ _) j s.symm,?_,fun r A=>?_,h.lo⟩
 · have:=i.set (1+n*4) (π w 0);rw [l,Gq u] at this;rw [l];exact this
 · show ((w.drew.alloc (.cells #[.string ⟨#[]⟩,(0:Int),(0:Int)] 108)).setCell _ _).heap.size=_
   simp [World.setCell,l]; omega
 · by_cases e:r=n
   · subst e;rw [<- l];exact ay j p (bH p i (by decide))
   · have m:=h.feed r (by omega);have o:=Blk.below m f (Blk.lt m);exact ay j o (bH o i (by decide))
theorem EK (st:ah) (x:StA) (w:World) (Q:StAt w w st x) (R:Tabs w) :
 ψ 4 #[.agg (stC st x)] w (wS st w):=by
 obtain⟨W,q⟩:∃ W,w.alloc (.cells (stC st x) 26)=W:=⟨_,rfl⟩;have s:Below w w W:=by rw [<- q]; exact (θ).alloc lJ _
 have z:Blk W w 26 (stC st x):=by rw [<- q]; exact n5 w _
 have I:=ω (show ψ 13 #[.agg #[st.rev,.slice x.aj x.nj x.cj,.slice x.an x.nn x.cn,.slice x.al x.nl x.cl]] W (zT st W) from Jz st x W (Q.upS s) (R.below s));obtain⟨c0,c1,c2,c3⟩:=Blk.c4 (z);have ad:=z.lt;have p:=ω s;have y:=ω q;obtain⟨E,O⟩:∃ E,aE st=E:=⟨_,rfl⟩;have l:=ω O;clear s z q O Q R;unfold stC at y |-;go_enter Tryz.func4,Tryz.ntmps4
 go_wp2_with fail
 try simp only [y.z]
 clear y;refine I.mono ?_;rintro e o ⟨U,X⟩;rw [l.z] at X;have m:=ω (p.trans (U.mono p.size));have aa:=p.size;have M:=ω aa;clear U I p aa c0 c1 c2 c3 ad;rcases X with ⟨B,rfl⟩ | ⟨Y,V,D,rfl,S,T⟩
 · have d1:(E != 0)=true:=by simpa using B
   have F:=ω (show wS st w (.returned (.tuple #[.pointer none,E])) o from ⟨m,.inl ⟨by rw [l.z]; exact B,by rw [l.z]⟩⟩);clear B m l;go_wp2;go_ret2;exact F
 · have ac:=ω (l.trans Y);subst Y;have K:=ω T;have J:=ω S;clear S T l;obtain⟨j,u⟩:∃ j,o.alloc (.cells #[π V 0,.pointer none,.bool false,.bool false,.slice none 0 0,.pointer none,.bool false,.bool false,.slice none 0 0,.pointer none,.bool false,.bool false,.slice none 0 0,.pointer none,.bool false,.bool false,.slice none 0 0,.pointer none,.bool false,.bool false,.slice none 0 0,.pointer none,.bool false,.bool false,.slice none 0 0,.pointer none,.bool false,.bool false,.slice none 0 0,.pointer none,.bool false,.bool false,.slice none 0 0] 60)=j:=⟨_,rfl⟩;obtain⟨g,C⟩:∃ g,o.heap.size=g:=⟨_,rfl⟩;have r:Below o o j:=by rw [<- u]; exact (θ).alloc lJ _
   have H0:=ω (show LG w g V j st D 0 j from ⟨m.trans (r.mono m.size),by rw [<- u,<- C]; exact n5 o _,K.below r,by rw [Nat.add_zero],fun ab hj=>absurd hj (by omega),by have:=m.size; have:=J.z; have:=M.z; have:=r.size; omega⟩);have N:=ω u;have L:=ω C;clear u C r J K M m
   go_wp2_with fail
   simp only [N.z,L.z];clear N L
   go_loopw [19] (fun i wr=>∃ n,n<=8/\i = .int .i64 ((n:Nat):Int)/\LG w g V j st D n wr) (fun i _=>8 - (intOf i).toNat)
   case atStart=>exact⟨0,by omega,rfl,H0⟩
   case round=>
    obtain⟨n,hn,rfl,h⟩:=hrel;have G:=ω h;have ae:=h.blk.lt;by_cases hlt:n<8
    · have y0:ζ wr g (1+n*4) (.pointer none):=by rw [h.blk.cell]; exact Jx hlt
      have z0:κ wr g (1+n*4):=h.blk.thaw _;have HS:=ω (G.step hlt rfl);clear h
      go_wp2_with fail
      go_region_with (go_at_call 14; refine (MY _).mono ?_; rintro e w' ⟨rfl,rfl⟩)
      go_wp2
      go_roundw
      case rel=>exact⟨n+1,by omega,by go_num,HS.z⟩
      case measure=>simp [intOf]; omega
    · obtain rfl:n=8:=by omega
      have P:wS st w (.returned (.tuple #[π g 0,(0:Int)])) wr:=by
       refine⟨h.below,.inr ⟨ac,g,V,fun i=>j.heap.size+i,D,rfl,⟨by rw [<- Gs]; exact h.blk,h.srv,fun i Z=>h.feed i Z,fun i _=>ByteRow.nil _,fun i ab _ _ e=>by omega,fun i ab b _ _ e _=>by cases e⟩,fun b hb=>?_⟩⟩;have:=h.lo;rcases hb with e | e | ⟨i,Z,e | e⟩
       · omega
       · omega
       · have e:b=j.heap.size+i:=e;omega
       · cases e
      have F:=ω P;clear h P G;go_wp2;go_ret2;exact F
noncomputable def Io (st:ah) (now:Int) (q:aK):Int × ah × Int:=if cO q=0 then nextR st now q else (cO q,st,now)
theorem JA (q:aK) (st:ah) (x:StA) (now:Int) (w:World) (h:StAt w w st x) (t:aE st=0) (i:ROk q) (u:0<=now/\now<=1099511627776) :
 ψ 57 #[.agg (iB st x now),bP q] w (iQ x (Io st now q) w):=by
 obtain⟨z,B,C⟩:=qT h t;have H:=fun W=>EA q W i;unfold Io;by_cases l:cO q=0
 · rw [if_pos l];rw [l] at H;obtain⟨D,E,y⟩:=AZ l;unfold nextR;by_cases m:q.kind=1
   · rw [if_pos m]; exact B5.1 q st x now w h (by omega) (by omega) (by omega) i H m
   rw [if_neg m];by_cases n:q.kind=2
   · rw [if_pos n]; exact B5.2 q st x now w h (by omega) (by omega) (by omega) i H n
   rw [if_neg n];by_cases o:q.kind=3
   · rw [if_pos o]; exact yA.1 q st x now w h (by omega) (by omega) (by omega) i H o
   rw [if_neg o];by_cases p:q.kind=4
   · rw [if_pos p]; exact yA.2.1 q st x now w h (by omega) (by omega) (by omega) i H p
   rw [if_neg p];by_cases r:q.kind=5
   · rw [if_pos r]; exact ug.2.2.2 q st x now w h (by omega) (by omega) (by omega) i H r (wT t)
   rw [if_neg r];by_cases s:q.kind=6
   · rw [if_pos s]; exact yA.2.2 q st x now w h (by omega) (by omega) (by omega) i H s
   rw [if_neg s];by_cases j:q.kind=7
   · rw [if_pos j]; exact ug.1 q st x now w h (by omega) (by omega) (by omega) i H j u.1 u.2 (y j).1 (y j).2
   rw [if_neg j];exact ug.2.1 q st x now w h (by omega) (by omega) (by omega) i H (by omega)
 · rw [if_neg l];exact ug.2.2.1 (cO q) q st x now w h (by omega) (by omega) (by omega) i H l
theorem Nq {a b:ah} (j:b.rev=a.rev) (l:lM a b):b=a:=by
 obtain⟨s,m,q,o⟩:=a;obtain⟨t,n,r,p⟩:=b;obtain⟨f,h,i⟩:=l;dsimp only at j f h i;subst j f h i;rfl
theorem LH (tl:List Value) (T:TypeId) (q:aK) (st:ah) (x:StA) (now:Int) (V:Nat) (w:World) (j:iO tl w T V st x now) (B:ROk q) :
 ψ 29 #[π V 0,bP q] w (ou tl T V st (lO st now (lG st now q)) w):=by
 have i:∀ W,StAt W W.heap.size st x->ψ 57 #[.agg (iB st x now),bP q] W (iQ x (Io st now q) W):=fun W z=>JA q st x now W z j.ok B j.t;unfold Io at i;by_cases m:cO q=0
 · rw [if_pos m] at i;obtain⟨C,D⟩:=Ip j.ok now q;by_cases h:(doR st now q).1=0
   · rw [D h] at i;have n:=wU st now q;obtain⟨⟨E,o,r⟩,p⟩:∃ R,doR st now q=R:=⟨_,rfl⟩;have u:=qU j.ok h;by_cases l:lM st (doR st now q).2.1
     · rw [Co m h l];rw [p] at i h l n u |-;have y:o=st:=Nq n l;have:=qS.2.1 tl T q st x now V w E o r j i h y;rw [y] at this;exact this
     · by_cases s:1099511627776<st.rev+1
       · rw [EL m h l s];rw [p] at i h l n u;exact qS.2.2.1 tl T q st x now V w E o r j i h n (fun e=>l (by rw [e]; exact⟨rfl,rfl,rfl⟩)) s
       · rw [EM m h l s];rw [p] at i h l n u |-;exact qS.2.2.2 tl T q st x now V w E o r j i h n (fun e=>l (by rw [e]; exact⟨rfl,rfl,rfl⟩)) s u
   · rw [EO m h];obtain⟨⟨E,o,r⟩,p⟩:∃ R,nextR st now q=R:=⟨_,rfl⟩;rw [<- C] at h |-;rw [p] at i h |-;exact qS.1 tl T q st x now V w E o r j i h
 · rw [EP m];rw [if_neg m] at i;exact qS.1 tl T q st x now V w (cO q) st now j i m
def l8 (f:Nat->Value):List Value:=[f 0,f 1,f 2,f 3,f 4,f 5,f 6,f 7]
def tl5 (a b c d e:Nat->Value):List Value:=l8 a ++ (l8 b ++ (l8 c ++ (l8 d ++ l8 e)))
section
variable {a b c d e:Nat->Value} {k:Nat} {v:Value}
theorem PP (h:k<8):(tl5 a b c d e)[k]? = some (a k):=by rcases lt8 h with rfl | rfl | rfl | rfl | rfl | rfl | rfl | rfl <;> rfl
theorem PQ (h:k<8):(tl5 a b c d e)[8+k]? = some (b k):=by rcases lt8 h with rfl | rfl | rfl | rfl | rfl | rfl | rfl | rfl <;> rfl
theorem PR (h:k<8):(tl5 a b c d e)[16+k]? = some (c k):=by rcases lt8 h with rfl | rfl | rfl | rfl | rfl | rfl | rfl | rfl <;> rfl
theorem PS (h:k<8):(tl5 a b c d e)[24+k]? = some (d k):=by rcases lt8 h with rfl | rfl | rfl | rfl | rfl | rfl | rfl | rfl <;> rfl
theorem PT (h:k<8):(tl5 a b c d e)[32+k]? = some (e k):=by rcases lt8 h with rfl | rfl | rfl | rfl | rfl | rfl | rfl | rfl <;> rfl
theorem OW (h:k<8):(tl5 a b c d e).set k v=tl5 (upd a k v) b c d e:=by rcases lt8 h with rfl | rfl | rfl | rfl | rfl | rfl | rfl | rfl <;> rfl
theorem OX (h:k<8):(tl5 a b c d e).set (8+k) v=tl5 a (upd b k v) c d e:=by rcases lt8 h with rfl | rfl | rfl | rfl | rfl | rfl | rfl | rfl <;> rfl
theorem OY (h:k<8):(tl5 a b c d e).set (16+k) v=tl5 a b (upd c k v) d e:=by rcases lt8 h with rfl | rfl | rfl | rfl | rfl | rfl | rfl | rfl <;> rfl
theorem OZ (h:k<8):(tl5 a b c d e).set (24+k) v=tl5 a b c (upd d k v) e:=by rcases lt8 h with rfl | rfl | rfl | rfl | rfl | rfl | rfl | rfl <;> rfl
theorem O0 (h:k<8):(tl5 a b c d e).set (32+k) v=tl5 a b c d (upd e k v):=by rcases lt8 h with rfl | rfl | rfl | rfl | rfl | rfl | rfl | rfl <;> rfl
end
theorem wV {α h:Type} (f:α->h) (g:Nat->α) (k:Nat) (x:α):(fun i=>f (upd g k x i))=upd (fun i=>f (g i)) k (f x):=by
 funext i; unfold upd; split <;> rfl
theorem upd_same {α j:Type} (f:α->j) (g:Nat->α) (k:Nat) (x:α) (h:f x=f (g k)):(fun i=>f (upd g k x i))=fun i=>f (g i):=by
 funext i; unfold upd; split
 · subst_vars; exact h
 · rfl
def ow (got:Nat->List UInt8) (far:Nat->Nat) (cs:Nat->bf):List Value:=
 tl5 (fun i=>.string (BA (got i))) (fun i=>.int .i64 (far i:Int)) (fun i=>.bool (cs i).closed) (fun i=>.bool (cs i).aG) (fun i=>.string (BA (cs i).waits))
abbrev aQ (w:World) (g:Nat) (got:Nat->List UInt8) (far:Nat->Nat) (H:cL) (x:StA):Prop:=iO (ow got far H.cs) w 41 g H.st x H.now
section
variable {w w':World} {g k:Nat} {got:Nat->List UInt8} {far:Nat->Nat} {H:cL} {x:StA}
theorem iO.EQ {tl:List Value} {T:TypeId} {st:ah} {now:Int} (h:iO tl w T g st x now) (j:Nat):w.cell? ⟨g,5+j,none⟩=tl[j]?:=by
 rw [h.blk.cell]
 show (List.toArray _)[5+j]? = _
 rw [List.getElem?_toArray,show 5+j=j+1+1+1+1+1 by omega];simp only [List.getElem?_cons_succ]
theorem iO.LI {tl:List Value} {T:TypeId} {st:ah} {now:Int} (h:iO tl w T g st x now) (j:Nat) (v:Value):iO (tl.set j v) (sX w g (5+j) v) T g st x now:=by
 have f:=aR w g (5+j) v;refine⟨Blk.eq (h.blk.set (5+j) v) ?_,(h.at_.qR h.far f).more f.size,h.ok,h.t,h.far⟩
 show (List.toArray _).setIfInBounds (5+j) v=List.toArray _
 rw [List.setIfInBounds_toArray,show 5+j=j+1+1+1+1+1 by omega];simp only [List.set_cons_succ]
theorem aQ.gotK (h:aQ w g got far H x) (f:k<8):ζ w g (5+k) (.string (BA (got k))):=(h.EQ k).trans (PP f)
theorem aQ.far_ (h:aQ w g got far H x) (f:k<8):ζ w g (13+k) (.int .i64 (far k:Int)):=by have:=(h.EQ (8+k)).trans (PQ f); rwa [show 5+(8+k)=13+k by omega] at this
theorem aQ.closed (h:aQ w g got far H x) (f:k<8):ζ w g (21+k) (.bool (H.cs k).closed):=by have:=(h.EQ (16+k)).trans (PR f); rwa [show 5+(16+k)=21+k by omega] at this
theorem aQ.aG (h:aQ w g got far H x) (f:k<8):ζ w g (29+k) (.bool (H.cs k).aG):=by have:=(h.EQ (24+k)).trans (PS f); rwa [show 5+(24+k)=29+k by omega] at this
theorem aQ.waits (h:aQ w g got far H x) (f:k<8):ζ w g (37+k) (.string (BA (H.cs k).waits)):=by have:=(h.EQ (32+k)).trans (PT f); rwa [show 5+(32+k)=37+k by omega] at this
theorem aQ.O3 (h:aQ w g got far H x) (f:k<8) (l:List UInt8):aQ (sX w g (5+k) (.string (BA l))) g (upd got k l) far H x:=by
 have:=h.LI k (.string (BA l));rw [ow,OW f,<- wV (fun l=>Value.string (BA l))] at this;exact this
theorem aQ.O4 (h:aQ w g got far H x) (f:k<8) (n:Nat):aQ (sX w g (13+k) (.int .i64 (n:Int))) g got (upd far k n) H x:=by
 have:=h.LI (8+k) (.int .i64 (n:Int));rw [ow,OX f,<- wV (fun n:Nat=>Value.int .i64 (n:Int)),show 5+(8+k)=13+k by omega] at this;exact this
theorem aQ.JB (h:aQ w g got far H x) (j:k<8) (c:bf) (f:c.aG=(H.cs k).aG) (i:c.waits=(H.cs k).waits):aQ (sX w g (21+k) (.bool c.closed)) g got far { H with cs:=upd H.cs k c } x:=by
 have:=h.LI (16+k) (.bool c.closed);rw [ow,OY j,<- wV (fun c:bf=>Value.bool c.closed),show 5+(16+k)=21+k by omega,<- upd_same (fun c:bf=>Value.bool c.aG) H.cs k c (congrArg Value.bool f),<- upd_same (fun c:bf=>Value.string (BA c.waits)) H.cs k c (congrArg (fun l=>Value.string (BA l)) i)] at this;exact this
theorem aQ.ER (h:aQ w g got far H x) (j:k<8) (c:bf) (f:c.closed=(H.cs k).closed) (i:c.waits=(H.cs k).waits):aQ (sX w g (29+k) (.bool c.aG)) g got far { H with cs:=upd H.cs k c } x:=by
 have:=h.LI (24+k) (.bool c.aG);rw [ow,OZ j,<- wV (fun c:bf=>Value.bool c.aG),show 5+(24+k)=29+k by omega,<- upd_same (fun c:bf=>Value.bool c.closed) H.cs k c (congrArg Value.bool f),<- upd_same (fun c:bf=>Value.string (BA c.waits)) H.cs k c (congrArg (fun l=>Value.string (BA l)) i)] at this;exact this
theorem aQ.A0 (h:aQ w g got far H x) (j:k<8) (c:bf) (f:c.closed=(H.cs k).closed) (i:c.aG=(H.cs k).aG):aQ (sX w g (37+k) (.string (BA c.waits))) g got far { H with cs:=upd H.cs k c } x:=by
 have:=h.LI (32+k) (.string (BA c.waits));rw [ow,O0 j,<- wV (fun c:bf=>Value.string (BA c.waits)),show 5+(32+k)=37+k by omega,<- upd_same (fun c:bf=>Value.bool c.closed) H.cs k c (congrArg Value.bool f),<- upd_same (fun c:bf=>Value.bool c.aG) H.cs k c (congrArg Value.bool i)] at this;exact this
end
def kR (g:Nat) (got:Nat->List UInt8) (far:Nat->Nat) (H:cL) (v:Value) (w:World) (e:Ending) (w':World):Prop:=
 e = .returned v/\∃ x,aQ w' g got far H x/\w.grownBy w' (some g)
theorem iO.drew {tl:List Value} {w:World} {T:TypeId} {B:Nat} {st:ah} {x:StA} {now:Int} (h:iO tl w T B st x now):iO tl w.drew T B st x now:=⟨h.blk,h.at_.drew,h.ok,h.t,h.far⟩
theorem kR.drew {g:Nat} {got:Nat->List UInt8} {far:Nat->Nat} {H:cL} {v:Value} {w w':World} {e:Ending} (h:kR g got far H v w e w'):kR g got far H v w e w'.drew:=by
 obtain⟨i,x,j,f⟩:=h;exact⟨i,x,j.drew,f.os,f.tape,f.output,f.size,f.block⟩
theorem Cp {g k:Nat} {got:Nat->List UInt8} {far:Nat->Nat} {H:cL} {x:StA} (kind:Nat) (p:ByteArray) (w:World) (n:aQ w g got far H x) (B:k<8) (E:1<=kind/\kind<=4) (r:p.size<=6000) (K:(H.cs k).waits.length<=35184372088832) :
 ψ 32 #[π g 0,(k:Int),(kind:Int),p] w (kR g got far { H with cs:=upd H.cs k (uJ kind p (H.cs k)) } (.tuple #[]) w):=by
 have z:=Kf (kind:=(kind:Int)) (by omega) r;have i:=ω (Nr z w);have G:=pW 3 kind p.data.toList (by simpa using r);have q:(uJ kind p (H.cs k)).waits=(H.cs k).waits ++ pT 3 kind p.data.toList:=rfl;rw [Int.toNat_natCast] at i;generalize pT 3 kind p.data.toList=L at i G q;obtain⟨s,j⟩:∃ s,BA L=s:=⟨_,rfl⟩;rw [j] at i;have P:s.size=L.length:=by rw [<- j]; exact oO L
 have D:=ω j;have C:=ω q;have u:=ω n;have M:=n.blk.lt;clear z q j n r E;go_enter Tryz.func32,Tryz.ntmps32
 go_wp2_with fail
 refine i.mono ?_;rintro e m ⟨rfl,o⟩;have h:=ω (u.below o);obtain⟨t,l⟩:∃ t,BA (H.cs k).waits=t:=⟨_,rfl⟩;have Q:ζ m g (37+k) (.string t):=by rw [<- l]; exact aQ.waits h.z B
 have R:κ m g (37+k):=h.blk.thaw _;have I:t.size=(H.cs k).waits.length:=by rw [<- l]; exact oO _
 have N:¬ 9223372036854775807<t.size+s.size:=by omega
 have O:t.size+s.size<=9223372036854775807:=by omega
 have J:=h.blk.lt
 have F:=ω (show kR g got far { H with cs:=upd H.cs k (uJ kind p (H.cs k)) } (.tuple #[]) w (.returned (.tuple #[])) (sX m g (37+k) (.string (t ++ s))) from by
  have y:=aQ.A0 h.z B (uJ kind p (H.cs k)) rfl rfl;rw [C.z,show BA ((H.cs k).waits ++ L)=t ++ s from by rw [<- l,<- D.z]; exact ByteArray.ext (by rw [ByteArray.data_append]; simp [BA])] at y;exact⟨rfl,x,y,aP (grown_of g o) (aR m g (37+k) _)⟩)
 clear o i u h l I;go_wp2
 go_region
 go_end0;exact F.drew
theorem rO {g k:Nat} {got:Nat->List UInt8} {far:Nat->Nat} {H:cL} {x:StA} (E:Int) (w:World) (i:aQ w g got far H x) (C:k<8) (D:(H.cs k).waits.length<=35184372088832) :
 ψ 28 #[π g 0,(k:Int),E] w (kR g got far { H with cs:=upd H.cs k (iU E H.st.rev (H.cs k)) } (.tuple #[]) w):=by
 have h:=ω (Gt E H.st.rev w);have c0:ζ w g 0 (.int .i64 H.st.rev):=i.blk.cell 0;have G:=nU E H.st.rev;have l:=ω (fun j (B:aQ j g got far H x)=>Cp (k:=k) 4 (gS E H.st.rev).1 j B C (by decide) (by omega) D);unfold A4 at h;have y:iU E H.st.rev (H.cs k)=uJ 4 (gS E H.st.rev).1 (H.cs k):=rfl;rw [y];obtain⟨s,n⟩:∃ s,(gS E H.st.rev).1=s:=⟨_,rfl⟩;obtain⟨o,u⟩:∃ o,(gS E H.st.rev).2=o:=⟨_,rfl⟩;rw [n,u] at h;rw [n] at l |-;have q:=ω i;have K:=i.blk.lt;clear i n u y G;go_enter Tryz.func28,Tryz.ntmps28
 go_wp2_with fail
 refine h.mono ?_;rintro e j ⟨rfl,m⟩;have p:=ω (l.z j (q.below m));have z:=ω m;clear m h l q c0
 go_wp2_with fail
 refine p.mono ?_;rintro e I ⟨rfl,J,t,r⟩;have F:=ω (show kR g got far { H with cs:=upd H.cs k (uJ 4 s (H.cs k)) } (.tuple #[]) w (.returned (.tuple #[])) I from ⟨rfl,J,t,aP (grown_of g z.z) r⟩);clear t r p;go_wp2;go_end0;exact F
theorem Cq {g k:Nat} {got:Nat->List UInt8} {far:Nat->Nat} {H:cL} {x:StA} (w:World) (n:aQ w g got far H x) (z:k<8) (O:(H.cs k).waits.length<=35184372088832) :
 ψ 30 #[π g 0,(k:Int)] w (kR g got far { H with cs:=upd H.cs k (uD (tlW H.st) (H.cs k)) } (.tuple #[]) w):=by
 obtain⟨c0,L,c2,M⟩:=Blk.c4 n.blk;have j:=wu.2 H.st x 3 w n.at_;have K:=xP H.st;have J:∀ l,(uD l (H.cs k)).waits=(H.cs k).waits ++ l:=fun _=>rfl;have m:=ω (show tlW H.st=if (lA H.st 3).2=0 then (lA H.st 3).1.data.toList else pT 3 4 (gS 2 H.st.rev).1.data.toList from rfl);have r:=ω (fun h (N:aQ h g got far H x)=>rO (k:=k) 2 h N z O);unfold q8 at j;obtain⟨s,B⟩:∃ s,(lA H.st 3).1=s:=⟨_,rfl⟩;obtain⟨E,I⟩:∃ E,(lA H.st 3).2=E:=⟨_,rfl⟩;rw [B,I] at j m;rw [B] at K;unfold stC at j;have j:=ω j;have D:=ω n;have U:=n.blk.lt;clear n B I;go_enter Tryz.func30,Tryz.ntmps30
 go_wp2_with fail
 refine j.mono ?_;rintro e h ⟨rfl,y⟩;have i:=ω (D.below y);have u:=ω y;have S:=i.blk.lt;clear y j D c0 L c2 M;by_cases p:E=0
 · subst p;rw [if_pos rfl] at m;obtain⟨t,q⟩:∃ t,BA (H.cs k).waits=t:=⟨_,rfl⟩;have X:ζ h g (37+k) (.string t):=by rw [<- q]; exact aQ.waits i.z z
   have Y:κ h g (37+k):=i.blk.thaw _;have P:t.size=(H.cs k).waits.length:=by rw [<- q]; exact oO _
   have V:¬ 9223372036854775807<t.size+s.size:=by omega
   have W:t.size+s.size<=9223372036854775807:=by omega
   have F:=ω (show kR g got far { H with cs:=upd H.cs k (uD (tlW H.st) (H.cs k)) } (.tuple #[]) w (.returned (.tuple #[])) (sX h g (37+k) (.string (t ++ s))) from by
    have o:=aQ.A0 i.z z (uD (tlW H.st) (H.cs k)) rfl rfl;rw [J,m.z,show BA ((H.cs k).waits ++ s.data.toList)=t ++ s from by rw [<- q]; exact ByteArray.ext (by rw [ByteArray.data_append]; simp [BA])] at o;rw [m.z];exact⟨rfl,x,o,aP (grown_of g u.z) (aR h g (37+k) _)⟩)
   clear i q P u r K J;go_wp2
   go_region
   go_end0;exact F.drew
 · rw [if_neg p] at m;have T:(E == 0)=false:=beq_eq_false_iff_ne.2 p;have C:=ω (r.z h i.z);clear p r i
   go_wp2_with fail
   refine C.mono ?_;rintro e Q ⟨rfl,R,o,G⟩;have F:=ω (show kR g got far { H with cs:=upd H.cs k (uD (tlW H.st) (H.cs k)) } (.tuple #[]) w (.returned (.tuple #[])) Q from ⟨rfl,R,by rw [m.z]; exact o,aP (grown_of g u.z) G⟩);clear o G C;go_wp2;go_end0;exact F
theorem Dd (W:World) (y:Int):(Instr.typeAssert (.iface 123 (.agg #[y])) 20 123 true).run Tryz.prog W = .ok (.tuple #[.agg #[y],.bool true]) W:=by kernel_rfl
theorem De (E:Nat) (n:Int) (y:Nat) (w:World) (h:Blk w E 29 #[n]) :
 CallsD Tryz.prog 91 #[π E 0] (.panicking [{ v:=.iface 123 (.agg #[(y:Int)]),recovered:=false }]) w fun e m w'=>
  e = .returned (.tuple #[])/\m = .panicking [{ v:=.iface 123 (.agg #[(y:Int)]),recovered:=true }]/\w.grownBy w' (some E)/\Blk w' E 29 #[(y:Int)]:=by
 have q:ζ w E 0 (.int .i64 n):=h.cell 0;have u:κ w E 0:=h.thaw 0;have r:=h.lt;have i:=ω h;have s:=Dd;clear h;refine callsD_of_wpS Tryz.func91 rfl fun p o l=>?_;rw [show (#[Value.pointer (some ⟨E,0,none⟩)] ++ Array.replicate (Tryz.f91.ntmps - (#[Value.pointer (some ⟨E,0,none⟩)]:Array Value).size) undef)=#[.pointer (some ⟨E,0,none⟩),undef,undef,undef,undef,undef,undef,undef,undef,undef,undef,undef,undef,undef,undef,undef,undef] from by rw [Tryz.ntmps91]; rfl]
 apply wpS_seq
 apply wpS_region
 simp [wpOpsS,go_sem,recoverD,l,Tryz.ntmps91,Exit.thenS];refine wpS_of_wp ?_
 have j:=ω (show w.grownBy ((w.setCell ⟨E,0,none⟩ (.int .i64 (y:Int))).alloc (.cells #[(y:Int)] 123)) (some E)/\Blk ((w.setCell ⟨E,0,none⟩ (.int .i64 (y:Int))).alloc (.cells #[(y:Int)] 123)) E 29 #[(y:Int)] from
  ⟨iT (aR w E 0 _) ((θ).alloc lJ _),(Blk.eq (i.set 0 _) rfl).alloc _⟩)
 go_wp2;exact⟨rfl,_,rfl,_,by simp [results,Tryz.results91,go_sem],rfl,rfl,j⟩
theorem A5 (E:Nat) (w:World) :
 CallsD Tryz.prog 91 #[π E 0] .returning w fun e j w'=>e = .returned (.tuple #[])/\j = .returning/\w'=w:=by
 refine callsD_of_wpS Tryz.func91 rfl fun h l i=>?_;rw [show (#[Value.pointer (some ⟨E,0,none⟩)] ++ Array.replicate (Tryz.f91.ntmps - (#[Value.pointer (some ⟨E,0,none⟩)]:Array Value).size) undef)=#[.pointer (some ⟨E,0,none⟩),undef,undef,undef,undef,undef,undef,undef,undef,undef,undef,undef,undef,undef,undef,undef,undef] from by rw [Tryz.ntmps91]; rfl]
 apply wpS_seq
 apply wpS_region
 simp [wpOpsS,go_sem,recoverD,i,Tryz.ntmps91,Exit.thenS];refine wpS_of_wp ?_;go_wp2;exact⟨rfl,.returning,by cases h; simp_all,_,by simp [results,Tryz.results91,go_sem],rfl,rfl,rfl⟩
def zU (R:RR Unit) (f:World->Prop) (e:Ending) (w':World):Prop:=e = .returned (.int .i64 (Ag R:Int))/\f w'
theorem readAll (F:FuncId) (G:Array Value) (b:ByteArray) (w:World) (hs:b.size<=9223372036854775807) (aa:∀ args w,(callFunc F args).run Tryz.prog w = .ok (.enter F args) w) (R:RR Unit) (h:World->Prop)
 (L:∀ W v,h W->h (sX W w 0 v)) (M:∀ W l,h W->w.heap.size<W.heap.size->W.grownBy l (some w)->h l)
 (O:∀ W,Below w w W->W.heap.size=w.heap.size+2->lq W (w.heap.size+1) b->ψ F (#[.pointer (some ⟨w.heap.size+1,0,none⟩)] ++ G) W fun e l=>
  (match R with | .ok _ s=>e = .returned (.tuple #[])/\lq l (w.heap.size+1) s | .bad x=>e=thrown x)/\l.heap[w.heap.size]? = W.heap[w.heap.size]? /\ h l) :
 ψ 48 #[b,.func (.func F) #[] G] w (zU R h):=by
 have ad:∀ (I:Fn) (first E:Array Value) (w:World),(Instr.makeFunc I first E).run Tryz.prog w = .ok (.func I first E) w:=fun _ _ _ _=>rfl;have u:Below w w (χ w #[(0:Int)] 29):=(θ).alloc lJ _;have N:=u.alloc u.size (.cells #[b] 166);have U:=ω (show Blk ((w.alloc (.cells #[(0:Int)] 29)).alloc (.cells #[b] 166)) w 29 #[(0:Int)] from Blk.alloc (show Blk _ _ _ _ from n5 w _) _);have K:((w.alloc (.cells #[(0:Int)] 29)).alloc (.cells #[b] 166)).heap.size=w.heap.size+2:=by simp
 have C:=ω (O _ N K ⟨by
  have J:=n5 (χ w #[(0:Int)] 29) (.cells #[b] 166);rw [show (w.alloc (.cells #[(0:Int)] 29)).heap.size=w.heap.size+1 by simp] at J;exact J,hs⟩)
 have V:=ω M;have D:=ω L;have ab:=aa;clear O u N K L M
 go_enter_defers Tryz.func48,Tryz.ntmps48
 go_wp2_with fail
 refine C.mono ?_;rintro e i ⟨o,P,Q⟩;have m:Blk i w 29 #[(0:Int)]:=P.trans U.z;have q:=ω Q;have x0:ζ i w 0 (.int .i64 0):=m.cell 0;have z0:κ i w 0:=m.thaw 0;have ac:=m.lt;have n:=ω m;clear P Q C m
 cases R with
 | bad x=>
  have o:e=thrown x:=o;subst o;unfold thrown;go_wp2;refine leaves_cons (f:=91) (args:=#[.pointer (some ⟨w,0,none⟩)]) (by simp) (by simp [go_sem]) ?_;refine (De w 0 x i n.z).mono ?_;rintro e T p ⟨rfl,rfl,hg,X⟩;have Y:=X.cell 0;have j:zU (.bad x) h (.returned (.int .i64 (x:Int))) p:=⟨rfl,V.z _ _ q.z n.lt hg⟩;have Z:ζ p w 0 (.int .i64 (x:Int)):=Y;simp [Leaves,settle,results,Tryz.results48,go_sem,Z,j]
 | ok S s=>
  obtain⟨rfl,z⟩:e = .returned (.tuple #[])/\lq i (w.heap.size+1) s:=o;have y0:ζ i (w.heap.size+1) 0 (.string s):=z.1.cell 0;have hlt:=z.1.lt;clear z;by_cases B:s.size=0
  · obtain rfl:=nP B;have y:=(show _=(some (.int .i64 0):Option Value) from (n.set 0 (.int .i64 0)).cell 0);have j:zU (.ok S ⟨#[]⟩) h (.returned (.int .i64 0)) (sX i w 0 (.int .i64 0)):=⟨rfl,D.z _ _ q.z⟩;have r:=ω j;clear j;go_wp2;refine leaves_cons (f:=91) (args:=#[.pointer (some ⟨w,0,none⟩)]) (by simp) (by simp [go_sem]) ?_;refine (A5 w _).mono ?_;rintro e T p ⟨rfl,rfl,rfl⟩;simp [Leaves,settle,results,Tryz.results48,go_sem,y,r.z]
  · have e3:=AU B;have y:=(show _=(some (.int .i64 4):Option Value) from (n.set 0 (.int .i64 4)).cell 0);have j:zU (.ok S s) h (.returned (.int .i64 4)) (sX i w 0 (.int .i64 4)):=⟨by rw [DP B]; rfl,D.z _ _ q.z⟩;have r:=ω j;clear j;go_wp2;refine leaves_cons (f:=91) (args:=#[.pointer (some ⟨w,0,none⟩)]) (by simp) (by simp [go_sem]) ?_;refine (A5 w _).mono ?_;rintro e T p ⟨rfl,rfl,rfl⟩;simp [Leaves,settle,results,Tryz.results48,go_sem,y,r.z]
end Go.Proofs.YtimglglgcgpjgaaGreatDoor
