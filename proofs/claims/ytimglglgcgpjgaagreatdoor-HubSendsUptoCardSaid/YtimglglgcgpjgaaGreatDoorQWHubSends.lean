/- Of the proof of a statement: RHubP, RSendY, HubO, WHubSends. -/
import Derived.Test.YtimglglgcgpjgaaGreatDoorQRHubT
set_option linter.unusedVariables false
set_option linter.unusedSimpArgs false
set_option maxRecDepth 100000
set_option maxHeartbeats 8000000
namespace Go.Proofs.YtimglglgcgpjgaaGreatDoor
open List (foldl_cons foldl_nil setIfInBounds_toArray set_cons_succ set_cons_zero)
open Go.RowKit
theorem Dv {g k:Nat} {got:Nat->List UInt8} {far:Nat->Nat} {H:cL} {x:StA} (w:World) (p:ByteArray) (h:aQ w g got far H x) (d:k<8) (c:(H.cs k).closed=true) :
 ψ 8 #[π g 0,(k:Int),p] w fun e w'=>e = .returned (.tuple #[.string ⟨#[]⟩,(6:Int)])/\w'=w:=by
 have a:=ω (tL (k:Int) 0 7 w);have l:(!ranged (k:Int) 0 7)=false:=by rw [aM.2 ⟨by omega,by omega⟩]; rfl
 have m:ζ w g (21+k) (.bool true):=by rw [<- c]; exact aQ.closed h d
 have j:=h.blk.lt;clear h c;go_enter Tryz.func8,Tryz.ntmps8
 go_wp2_with fail
 refine a.mono ?_;rintro i w0 ⟨rfl,rfl⟩;clear a;go_wp2;go_ret2;exact⟨rfl,rfl⟩
theorem GS (g:Nat) (k:Int) (w:World) (p:ByteArray) (c:k<0\/7<k) :
 ψ 8 #[π g 0,k,p] w fun e w'=>e = .returned (.tuple #[.string ⟨#[]⟩,(1:Int)])/\w'=w:=by
 have a:=ω (tL k 0 7 w)
 have i:(!ranged k 0 7)=true:=by
  cases h:ranged k 0 7 with
  | false=>rfl
  | true=>have:=aM.1 h; omega
 clear c;go_enter Tryz.func8,Tryz.ntmps8
 go_wp2_with fail
 refine a.mono ?_;rintro d w0 ⟨rfl,rfl⟩;clear a;go_wp2;go_ret2;exact⟨rfl,rfl⟩
section
variable {w0 w w':World} {g b:Nat} {got got':Nat->List UInt8} {far far':Nat->Nat} {H H':cL} {O:Nat->List UInt8} {x x':StA}
end
structure qz (got:Nat->List UInt8) (far:Nat->Nat) (b:Nat) (H:cL):Prop where
 op:∀ k,(H.cs k).closed=false->(H.cs k).rest=BA ((got k).drop (far k))/\far k<=(got k).length
 len:∀ k,(got k).length<=b
theorem qz.flush {got:Nat->List UInt8} {far:Nat->Nat} {b:Nat} {H:cL} (h:qz got far b H) (k:Nat):qz got far b (mG H k):=
 ⟨fun i a=>by
  obtain⟨c,e,d,f⟩:=vR H k i;rw [c] at a;rw [d];exact h.op i a,h.len⟩
def RSendY (g b:Nat) (H:cL) (a:oo) (w:World) (e:Ending) (w':World):Prop:=
 e = .returned (.tuple #[.string (tC tlW rqF H a).1,.int .i64 (tC tlW rqF H a).2])/\∃ (got':Nat->List UInt8) (far':Nat->Nat) (x':StA),aQ w' g got' far' (pU tlW rqF H a) x'/\qz got' far' (b+a.text.size) (pU tlW rqF H a)/\w.grownBy w' (some g)
theorem NO {g:Nat} {got:Nat->List UInt8} {far:Nat->Nat} {x:StA} {b n:Nat} {H:cL} (w:World) (G:mY b n H) {a:oo} (W:b+a.text.size<=1048576) (P:n<=1048576) (R:qz got far b H) (h:aQ w g got far H x) :
 ψ 8 #[π g 0,a.conn,a.text] w (RSendY g b H a w):=by
 unfold RSendY;by_cases j:0<=a.conn/\a.conn<=7
 · obtain⟨k,z⟩:∃ k:Nat,a.conn=k:=⟨a.conn.toNat,by omega⟩;have v:k<8:=by omega
   have m:a.conn.toNat=k:=by omega
   cases c:(H.cs k).closed with
   | false=>
    obtain⟨Z,o2⟩:=G.op k c;obtain⟨Q,C⟩:=R.op k c;have r3:=R.len k;obtain⟨s,o⟩:∃ s,(H.cs k).rest ++ a.text=s:=⟨_,rfl⟩;have X:s.size=(H.cs k).rest.size+a.text.size:=by rw [<- o,ByteArray.size_append]
    have B:zi tlW rqF H k a.text=jG tlW rqF H k s (jM s).1 (jM s).2.1 (jM s).2.2:=by unfold zi; rw [o]
    have l:pU tlW rqF H a=mG (jG tlW rqF H k s (jM s).1 (jM s).2.1 (jM s).2.2) k:=by
     unfold pU;rw [m,if_pos ⟨j,c⟩,B]
    have d:tC tlW rqF H a=(BA ((jG tlW rqF H k s (jM s).1 (jM s).2.1 (jM s).2.2).cs k).waits,0):=by
     unfold tC;rw [m,if_pos j,if_pos c,B]
    have q:=yj s;obtain⟨S,T,U⟩:=q.facts;have p:BA ((got k).drop (far k)) ++ a.text=s:=by rw [<- Q]; exact o
    rw [l,d,z];refine (Gw w a.text h v c p C q (by omega) (by omega) fun i _=>G.len (by omega) P i).mono ?_;rintro e w' ⟨rfl,x',F,I⟩;refine⟨rfl,upd got k (got k ++ a.text.data.toList),upd far k (far k+(jM s).2.1),x',F,qz.flush ?_ k,I⟩;obtain⟨r,L⟩:=Bp (tl:=tlW) (rq:=rqF) H k s (jM s).1 (jM s).2.1 (jM s).2.2;refine⟨fun i t=>?_,fun i=>?_⟩
    · rw [r.rest i];by_cases e:i=k
      · subst e;have D:=L t
        show (upd H.cs i _ i).rest=_/\_
        rw [bL,bL,bL];have N:s.size=((got i).drop (far i)).length+a.text.size:=by rw [<- p,ByteArray.size_append,oO]
        rw [List.length_drop] at N;have J:a.text.data.toList.length=a.text.size:=By _;refine⟨?_,by rw [List.length_append,J]; omega⟩
        show (if (jM s).2.2=3 then s.extract (jM s).2.1 s.size else ⟨#[]⟩)=_
        rw [if_pos D,<- List.drop_drop,List.drop_append_of_le_length C];have E:s=BA ((got i).drop (far i) ++ a.text.data.toList):=by rw [<- p,Ne]
        generalize (jM s).2.1=Y;rw [E];exact LN _ _
      · have M:=r.closed i t;have u:(upd H.cs k (mF (H.cs k) s (jM s).2.1 (jM s).2.2) i).closed=false:=M;rw [upd_ne _ _ e] at u
        show (upd H.cs k _ i).rest=_/\_
        rw [upd_ne _ _ e,upd_ne _ _ e,upd_ne _ _ e];exact R.op i u
    · by_cases e:i=k
      · subst e;rw [bL,List.length_append,By];omega
      · rw [upd_ne _ _ e];have:=R.len i;omega
   | true=>
    have l:pU tlW rqF H a=H:=by
     unfold pU;rw [m,if_neg (fun h=>by rw [h.2] at c; cases c)]
    have d:tC tlW rqF H a=(⟨#[]⟩,6):=by
     unfold tC;rw [m,if_pos j,if_neg (by rw [c]; decide)]
    rw [l,d,z];refine (Dv w a.text h v c).mono ?_;rintro e w' ⟨rfl,rfl⟩;exact⟨rfl,got,far,x,h,⟨R.op,fun k=>by have:=R.len k; omega⟩,bO _ _⟩
 · have l:pU tlW rqF H a=H:=by
    unfold pU;rw [if_neg (fun h=>j h.1)]
   have d:tC tlW rqF H a=(⟨#[]⟩,1):=by
    unfold tC;rw [if_neg j]
   rw [l,d];refine (GS g a.conn w a.text (by omega)).mono ?_;rintro e w' ⟨rfl,rfl⟩;exact⟨rfl,got,far,x,h,⟨R.op,fun k=>by have:=R.len k; omega⟩,bO _ _⟩
theorem JO {g V k:Nat} {fb:Nat->Nat} {wv:Nat->Value} {cs:Nat->bf} {st:ah} {x:StA} {now:Int} (w:World) (j:cJ w g V fb wv cs st x now) (l:k<8) :
 ψ 11 #[π g 0,(k:Int)] w fun n w'=>n = .returned (.tuple #[.bool (!(cs k).closed),(0:Int)])/\Below w w w':=by
 have e:=ω (CM g k w l);have i:=ω j;obtain⟨cl,d⟩:∃ cl,(cs k).closed=cl:=⟨_,rfl⟩;rw [d];have h:=ω d;clear j d;go_enter Tryz.func11,Tryz.ntmps11
 go_wp2_with fail
 refine e.mono ?_;rintro q o ⟨rfl,c⟩;have a:=i.below c;have r:ζ o g (1+k*4+1) (.bool cl):=by rw [a.blk.cell,kA l,h.z]
 have p:=a.blk.lt;have m:=ω c;clear a c e i h;go_wp2;go_ret2;exact⟨rfl,m⟩
theorem GT (g:Nat) (k:Int) (w:World) (d:k<0\/7<k) :
 ψ 11 #[π g 0,k] w fun h w'=>h = .returned (.tuple #[.bool false,(1:Int)])/\Below w w w':=by
 have a:=ω (CN g k w d);clear d;go_enter Tryz.func11,Tryz.ntmps11
 go_wp2_with fail
 refine a.mono ?_;rintro j i ⟨rfl,c⟩;have e:=ω c;clear c a;go_wp2;go_ret2;exact⟨rfl,e⟩
theorem JP (g:Nat) (k:Int) (w:World) (d:k<0\/7<k) :
 ψ 12 #[π g 0,k] w fun h w'=>h = .returned (.tuple #[.string ⟨#[]⟩,(1:Int)])/\Below w w w':=by
 have a:=ω (CN g k w d);clear d;go_enter Tryz.func12,Tryz.ntmps12
 go_wp2_with fail
 refine a.mono ?_;rintro j i ⟨rfl,c⟩;have e:=ω c;clear c a;go_wp2;go_ret2;exact⟨rfl,e⟩
theorem GU {g V:Nat} {fb:Nat->Nat} {wv:Nat->Value} {cs:Nat->bf} {st:ah} {x:StA} {now:Int} (w:World) (h:cJ w g V fb wv cs st x now) :
 ψ 10 #[π g 0] w (uC st w):=by
 obtain⟨W,d⟩:∃ W,w.alloc (.cells lP 26)=W:=⟨_,rfl⟩;have k:Below w w W:=by rw [<- d]; exact (θ).alloc lJ _
 have p:Blk W w 26 lP:=by rw [<- d]; exact n5 w _
 have l:=ω (sF st x now V W (h.below k).srv);have c0:ζ w g 0 (π V 0):=by rw [h.blk.cell]; exact xI
 have u:=h.blk.lt;have e:=ω p;have i:=ω k;have m:=ω d;clear d p k h;go_enter Tryz.func10,Tryz.ntmps10
 go_wp2_with fail
 try rw [m.z]
 clear m;refine l.mono ?_;rintro s F ⟨y,rfl,n,j⟩;have a:=e.below j e.lt;have o:=i.trans (j.mono i.size);obtain⟨N,P,z2,Q⟩:=Blk.z4 (a);obtain⟨B,C,D,E⟩:=Blk.c4 (a);obtain⟨q,c⟩:=Blk.S4 (a) (.int .i64 st.rev) (.slice y.aj y.nj y.cj) (.slice y.an y.nn y.cn) (.slice y.al y.nl y.cl);obtain⟨I,J,L,M⟩:=Blk.c4 q;have z:=a.lt;have r:=ω (show uC st w (.returned (.agg (stC st y))) _ from ⟨y,rfl,(n.fY a (iV ⟨0,[],[],[]⟩ ⟨none,0,0,none,0,0,none,0,0⟩) c).more c.size,cU o c lJ⟩);clear n j a o q c l c0 e i;unfold stC;go_wp2;refine bodyPost_ret (v:=.agg (stC st y)) (by simp [results,Tryz.results10,go_sem,stC, *]) rfl ?_;exact r
theorem bC.xD {W:World} {B g sz n:Nat} {i:ByteArray} {a st:Int} {A:Option Addr} {xs:List Value} (l:bC W B sz A n xs) (p:kB W g i a st) (m:0<n->∃ s,xs[0]? = some (.string s)) (o:0<n->∃ (j:Nat) (u:Value),xs[j]? = some u/\(#[i,a,st]:Array Value)[j]? ≠ some u):kX g A n:=fun e b' C d=>by
 obtain⟨b,f,k,z,h⟩:=l.at_ e;obtain⟨s,t⟩:=m e;obtain⟨j,u,v,q⟩:=o e;have c0:=h 0 _ t;have c:=h j _ v;rw [k] at d;simp only [Option.some.injEq,Addr.mk.injEq] at d;obtain⟨rfl,rfl,_⟩:=d;rintro rfl;rw [Blk.cell p] at c0 c
 have r:f=0:=by
  rcases f with _ | _ | _ | f
  · rfl
  · simp at c0
  · simp at c0
  · simp at c0
 subst r;rw [Nat.zero_add] at c;exact q c
theorem StAt.xD {W:World} {B g:Nat} {e:ByteArray} {a st:Int} {s:ah} {x:StA} (h:StAt W B s x) (d:kB W g e a st):Far g x:=
 ⟨h.j.xD d (pz h.lj) (fun c=>by obtain⟨a,ha⟩:=uA (enc:=aS) h.lj c; exact⟨3,_,ha 3 _ rfl,by simp⟩),
  h.n.xD d (nK h.ln) (fun c=>by obtain⟨a,ha⟩:=uA (enc:=aH) h.ln c; exact⟨2,_,ha 2 _ rfl,by simp⟩),
  h.l.xD d (mg h.ll) (fun c=>by obtain⟨a,ha⟩:=uA (enc:=aB) h.ll c; exact⟨1,_,ha 1 _ rfl,by simp⟩)⟩
theorem cJ.farS {w:World} {g V B:Nat} {fb:Nat->Nat} {wv:Nat->Value} {cs:Nat->bf} {st s:ah} {x y:StA} {now:Int} (a:cJ w g V fb wv cs st x now) (h:StAt w B s y):∀ b,su g V fb wv b->Far b y:=by
 rintro b (rfl | rfl | ⟨i,c,rfl | e⟩)
 · exact h.oB a.blk a.CK
 · exact h.oB a.srv.blk (pq _ _ _)
 · exact h.xD (a.feed i c)
 · obtain⟨j,d,f⟩:=(a.wait i c).blk e;exact h.oB d f
theorem bC.Mo {S:Nat->Prop} {w w':World} {B sz n:Nat} {A:Option Addr} {xs:List Value} (h:bC w B sz A n xs) (i:∀ b,S b->kX b A n) (k:Gr S w w') (o:B<=w.heap.size):bC w' B sz A n xs:=
 ⟨h.len,fun c=>by
  obtain⟨b,a,e,f,l⟩:=h.at_ c;exact⟨b,a,e,f,fun j u m=>(World.cell?_of_block (w:=w) (w':=w') (show w'.heap[(⟨b,a+j,none⟩:Addr).block]? = _ from k.block b (by omega) fun d=>i b d c b a e rfl)).trans (l j u m)⟩⟩
theorem StAt.Mo {S:Nat->Prop} {w w':World} {B:Nat} {st:ah} {x:StA} (h:StAt w B st x) (d:∀ b,S b->Far b x) (e:Gr S w w') (c:B<=w.heap.size):StAt w' B st x:=
 ⟨h.j.Mo (fun b a=>(d b a).j) e c,h.n.Mo (fun b a=>(d b a).n) e c,h.l.Mo (fun b a=>(d b a).l) e c,h.lj,h.ln,h.ll,h.bj,h.bn,h.bl,h.oj,h.on_,h.ol⟩
structure xF (w0:World) (g V:Nat) (fb:Nat->Nat) (wv:Nat->Value) (G:Nat) (got:Nat->List UInt8) (far:Nat->Nat) (b:Nat) (H K:cL) (x y:StA) (w:World):Prop where
 hub:cJ w g V fb wv H.cs H.st x H.now
 inn:oM w0 w g V fb wv
 ref:aQ w G got far K y
 good:qz got far b K
 ap:¬ su g V fb wv G
 lo:w0.heap.size<=G
 fm:sE 106 V w G
section
variable {w0 w w':World} {g V G b b':Nat} {fb:Nat->Nat} {wv wv':Nat->Value} {got got':Nat->List UInt8} {far far':Nat->Nat} {H K H' K':cL} {x y x' y':StA}
theorem xF.prog (h:xF w0 g V fb wv G got far b H K x y w) (a:dQ g V fb wv wv' w w') (f:cJ w' g V fb wv' H'.cs H'.st x' H'.now):xF w0 g V fb wv' G got far b H' K x' y w':=by
 refine⟨f,h.inn.to a,⟨a.gr.blk h.ref.blk h.ap,(h.ref.at_.Mo (h.hub.farS h.ref.at_) a.gr lJ).more a.gr.size,h.ref.ok,h.ref.t,h.ref.far⟩,h.good,fun j=>?_,h.lo,a.far G h.ref.blk.lt h.fm⟩;rcases j with e | e | ⟨i,d,e | e⟩
 · exact h.ap (.inl e)
 · exact h.ap (.inr (.inl e))
 · exact h.ap (.inr (.inr ⟨i,d,.inl e⟩))
 · rcases a.own i d with c | c | ⟨q,c,k⟩
   · rw [c] at e; cases e
   · rw [c] at e; exact h.ap (.inr (.inr ⟨i,d,.inr e⟩))
   · rw [c] at e;injection e with e;have:=h.ref.blk.lt;omega
theorem xF.below (h:xF w0 g V fb wv G got far b H K x y w) (a:Below w w w'):xF w0 g V fb wv G got far b H K x y w':=h.prog ((dQ.refl g V fb wv w).below_ a) (h.hub.below a)
theorem xF.turn (h:xF w0 g V fb wv G got far b H K x y w) (n:aQ w' G got' far' K' y') (m:qz got' far' b' K') (a:w.grownBy w' (some G)):xF w0 g V fb wv G got' far' b' H K' x y' w':=by
 have k:g≠G:=fun e=>h.ap (.inl e.symm);have f:V≠G:=fun e=>h.ap (.inr (.inl e.symm));have d:=h.hub.srv
 exact⟨⟨ay a h.hub.blk k,⟨ay a d.blk f,(d.at_.qR (h.fm.2 _ _ _ d.blk) a).more a.size,d.ok,d.t⟩,fun i c=>ay a (h.hub.feed i c) fun e=>h.ap (.inr (.inr ⟨i,c,.inl e.symm⟩)),fun i c=>(h.hub.wait i c).keep fun q j=>by
  obtain⟨o,l,_⟩:=(h.hub.wait i c).blk j;exact a.block q l.lt (fun e=>by injection e with e; subst e; exact h.ap (.inr (.inr ⟨i,c,.inr j⟩))),h.hub.fbi,h.hub.wvi⟩,
  ⟨cU h.inn.base a h.lo,h.inn.tabs,h.inn.lo⟩,n,m,h.ap,h.lo,h.fm.keep (a.block V h.fm.1 (by simpa using f)) a.size⟩
end
def hsV (g G:Nat) (X:ByteArray) (E:Int) (st:ah) (x:StA) (a:Option StA):Nat->Value->Prop
 | 0,u=>u = .string X
 | 1,u=>u = .string X
 | 2,u=>u = .bool false
 | 3,u=>u = .bool false
 | 4,u=>u = .int .i64 E
 | 5,u=>u = .int .i64 E
 | 6,u=>u = .bool false
 | 7,u=>u = .bool false
 | 8,u=>u = .bool false
 | 9,u=>u = π g 0
 | 10,u=>∃ y,a=some y/\u = .agg #[.int .i64 st.rev,.slice y.aj y.nj y.cj,.slice y.an y.nn y.cn,.slice y.al y.nl y.cl]
 | 11,u=>u = π G 0
 | 12,u=>u = π G 0
 | 13,u=>u = π G 0
 | 14,u=>u = π G 0
 | 15,u=>u = .agg #[.int .i64 st.rev,.slice x.aj x.nj x.cj,.slice x.an x.nn x.cn,.slice x.al x.nl x.cl]
 | 16,u=>u = .bool true
 | 17,u=>u = .bool false
 | 18,u=>u = .bool false
 | _,_=>True
theorem P9 {g G:Nat} {X:ByteArray} {E:Int} {st:ah} {x:StA} {c:Option StA} (q:Option StA):∀ j v,j≠10->hsV g G X E st x c j v->hsV g G X E st x q j v:=by
 intro j v a h;unfold hsV at *
 split at h
 all_goals first | exact h | exact absurd rfl a
def zB (w0:World) (g V:Nat) (fb:Nat->Nat) (wv:Nat->Value) (G:Nat) (got:Nat->List UInt8) (far:Nat->Nat) (b:Nat) (H:cL) (x y:StA) (a:Option StA) (w:World):Prop:=
 xF w0 g V fb wv G got far b H H x y w/\∀ z,a=some z->StAt w w H.st z
theorem zB.kept {w0 w w':World} {g V G b:Nat} {fb:Nat->Nat} {wv:Nat->Value} {got:Nat->List UInt8} {far:Nat->Nat} {H:cL} {x y:StA} {c:Option StA} (h:zB w0 g V fb wv G got far b H x y c w) (a:Below w w w'):zB w0 g V fb wv G got far b H x y c w':=
 ⟨h.1.below a,fun z e=>(h.2 z e).upS a⟩
theorem C7 (w:World) (st:ah) (x:StA) (p:List oo) (A:Option Addr) (n c:Nat) (P:StAt w w st x/\Mn st) (hq:bC w w 2 A n (au Jj p)) (hl:p.length=n) (hu:jX p<=1048576) (hn:n<=1048576) (hT:Tabs w) :
 ψ 3 #[.agg (stC st x),.slice A n c] w fun m w'=>m = .returned (.bool true)/\Below w w w':=by
 obtain⟨aa,hW⟩:∃ aa,w.alloc (.cells (stC st x) 26)=aa:=⟨_,rfl⟩;have av:Below w w aa:=by rw [<- hW]; exact (θ).alloc lJ _
 have v:Blk aa w 26 (stC st x):=by rw [<- hW]; exact n5 w _
 have HN:=ω (EK st x aa (P.1.upS av) (hT.below av));obtain⟨c0,c1,c2,c3⟩:=Blk.c4 (v);have aw:=v.lt;have am:=ω av;have D:=ω v;have HW:=ω hW;obtain⟨W,aJ⟩:∃ W,aE st=W:=⟨_,rfl⟩;have J:=ω aJ;have HS:=ω P.1;have HT:=ω hT;have HQ:=ω hq;have Hl:=ω hl;have Hu:=ω hu;clear av v hW aJ P hT hq hl hu;unfold stC at HW HN |-;go_enter Tryz.func3,Tryz.ntmps3
 go_wp2_with fail
 try simp only [HW.z]
 clear HW;refine HN.mono ?_;rintro m w2 ⟨a4,ad⟩;rw [J.z] at ad;have E:=ω (am.trans (a4.mono am.size));have S:=ω (D.below a4 D.lt);have be:=ω am.size;clear a4 D am HN c0 c1 c2 c3 aw;have HC:=ω (show ψ 5 #[.agg #[st.rev,.slice x.aj x.nj x.cj,.slice x.an x.nn x.cn,.slice x.al x.nl x.cl]] w2 _ from lQ st x w2 (HS.upS E.z));obtain⟨c0,c1,c2,c3⟩:=Blk.c4 (S.z);have aw:=S.lt;rcases ad with ⟨aN,rfl⟩ | ⟨aU,g,V,fb,x',rfl,hA,aV⟩
 · have d1:(W != 0)=true:=by simpa using aN
   have d2:(W == W)=true:=beq_self_eq_true _;clear aN
   go_wp2_with fail
   refine HC.mono ?_;rintro m I ⟨rfl,B⟩;have a1:=ω (E.trans (B.mono E.size));clear B HC S E c0 c1 c2 c3 aw;rw [J.z]
   go_wp2_with fail
   refine Calls.mono (MZ I) ?_;rintro m r ⟨rfl,C⟩;have ak:=ω (a1.trans (C.mono a1.size));clear C a1;have a7:=ω (show ψ 4 #[.agg #[.int .i64 (-1),.slice none 0 0,.slice none 0 0,.slice none 0 0]] r (wS Ig r) from EK Ig badA r (PG r _) (HT.below ak.z))
   go_wp2_with fail
   refine a7.mono ?_;rintro m w5 ⟨aL,ad⟩;rw [Je] at ad;have bd:=ω (ak.trans (aL.mono ak.size));clear aL a7 ak;rcases ad with ⟨_,rfl⟩ | ⟨h,_⟩
   · go_wp2;go_ret;exact⟨rfl,bd⟩
   · cases h
 · have J:=ω (J.trans aU);subst aU;have HA:=ω hA;have HI:=ω (show oM w w2 g V fb (fun _=>.slice none 0 0) from ⟨E,HT,fun b z=>v6 be.z (aV b z)⟩);clear hA aV
   go_wp2_with fail
   refine HC.mono ?_;rintro m I ⟨rfl,B⟩;rw [J.z];have a2:=S.below B S.lt;obtain⟨e0,e1,e2,e3⟩:=Blk.c4 (a2);have bo:=a2.lt;obtain⟨G,hG⟩:∃ G,I.heap.size=G:=⟨_,rfl⟩;obtain⟨r,ax⟩:∃ r,I.alloc (.cells (EH (ow (fun _=>[]) (fun _=>0) (BK st).cs) st x 0) 41)=r:=⟨_,rfl⟩;have C:Below I I r:=by rw [<- ax]; exact (θ).alloc lJ _
   have a9:=ω (show xF w g V fb (fun _=>.slice none 0 0) G (fun _=>[]) (fun _=>0) 0 (BK st) (BK st) x' x r from by
    have d:=HA.below B;have u:=B.size;have aY:=E.trans (B.mono E.size);have M:=aY.size;have hr:aQ r G (fun _=>[]) (fun _=>0) (BK st) x:=⟨by rw [<- ax,<- hG]; exact n5 I _,(HS.upS aY).upS C,J,⟨Int.le_refl _,show (0:Int)<=1099511627776 by decide⟩,HS.far (by omega)⟩;refine⟨d.below C,(HI.more B).more C,hr,⟨fun _ _=>⟨rfl,lJ⟩,fun _=>lJ⟩,fun P=>?_,by omega,(sE.of d.srv.blk (d.srv.at_.far (by omega))).keep (C.block V d.srv.blk.lt) C.size⟩;rcases P with m | m | ⟨F,hi,m | m⟩
    · have:=d.blk.lt; omega
    · have:=d.srv.blk.lt; omega
    · have:=Blk.lt (d.feed F hi); omega
    · cases m)
   have aH:=ω ax;have HG:=ω hG;clear ax hG B a2 C HC S E c0 c1 c2 c3 aw HA HI J
   go_upto_region 9 with fail
   change Code.wp _ _ _ _ (χ I (EH (ow (fun _=>[]) (fun _=>0) (BK st).cs) st x 0) 41);rw [aH.z,HG.z];clear aH HG e0 e1 e2 e3 bo;have bc:φ (∀ k,k<=p.length->mY (jX (p.take k)) k (oI tlW rqF st p k)):=ω (zy (rq:=rqF) zP st p);go_wp2
   go_loopw [63] (fun F wr=>∃ (k:Nat) (wv:Nat->Value) (got:Nat->List UInt8) (far:Nat->Nat) (x1 U:StA),k<=n/\F = .int .i64 k/\xF w g V fb wv G got far (jX (p.take k)) (oI tlW rqF st p k) (oI tlW rqF st p k) x1 U wr) (fun F _=>n - (intOf F).toNat)
   case atStart=>exact⟨0,_,_,_,x',x,Nat.zero_le _,rfl,a9⟩
   case round=>
    obtain⟨k,wv,got,far,x1,U,i,rfl,hP⟩:=hrel;have s:=ω hP;clear hP a9;by_cases hlt:k<n
    · obtain⟨a,ha⟩:∃ a,p[k]? = some a:=⟨_,gO (by rw [Hl.z]; exact hlt)⟩;have bh:=(tO ha).2;have aK:=(tO ha).1;have hu:=Hu.z;obtain⟨ba,aZ,rfl,bt,hc⟩:=(HQ.below s.inn.base).eC tB Hl.z ha;have bz:=s.inn.base.size;have d0:ζ wr ba (aZ+k*2) (.int .i64 a.conn):=hc 0 _ rfl;have d1:ζ wr ba (aZ+k*2+1) (.string a.text):=hc 1 _ rfl;have bw:k*2+2<=n*2:=by omega
      have bu:ba<wr.heap.size:=by omega
      obtain⟨o,ay⟩:∃ o,wr.alloc (.cells #[a.conn,a.text] 43)=o:=⟨_,rfl⟩;have aO:Below wr wr o:=by rw [<- ay]; exact (θ).alloc lJ _
      have v:Blk o wr 43 #[a.conn,a.text]:=by rw [<- ay]; exact n5 wr _
      have ab:=s.below aO;have ap:=bc.z k (by rw [Hl.z]; omega);obtain⟨H,hH⟩:∃ H,oI tlW rqF st p k=H:=⟨_,rfl⟩;obtain⟨b,z⟩:∃ b,jX (p.take k)=b:=⟨_,rfl⟩;obtain⟨K,hK⟩:∃ K,pU tlW rqF H a=K:=⟨_,rfl⟩;obtain⟨⟨aI,a6⟩,hr⟩:∃ bq,tC tlW rqF H a=bq:=⟨_,rfl⟩;rw [hH,z] at ab ap;have ar:=OP (a:=a) o ap (by omega) (by omega) ab.hub ab.inn;unfold SendY at ar;rw [hK,hr] at ar
      have ag:=ω (fun (wq:World) (bf:qz got far b H) (h:aQ wq G got far H U)=>show ψ 8 #[π G 0,a.conn,a.text] wq (fun m w'=>m = .returned (.tuple #[aI,a6])/\∃ (got':Nat->List UInt8) (far':Nat->Nat) (x':StA),aQ w' G got' far' K x'/\qz got' far' (b+a.text.size) K/\wq.grownBy w' (some G)) from by
       have d:=NO (a:=a) wq ap (by omega) (by omega) bf h;unfold RSendY at d;rw [hK,hr] at d;exact d)
      have ai:=ω ar
      have aW:¬ su g V fb wv wr:=fun P=>by
       rcases P with m | m | ⟨F,hi,m | m⟩
       · have:=s.hub.blk.lt; omega
       · have:=s.hub.srv.blk.lt; omega
       · have:=Blk.lt (s.hub.feed F hi); omega
       · obtain⟨c',M,_⟩:=(s.hub.wait F hi).blk m;have:=M.lt; omega
      have bs:G<wr.heap.size:=s.ref.blk.lt;obtain⟨f0,f1⟩:=Blk.c2 (v);have bp:=v.lt;have aB:=ω ab;have D:=ω v;have ao:=ω ay;have aG:=ω aW
      have X:=ω (show ∀ (wv':Nat->Value) (got':Nat->List UInt8) (far':Nat->Nat) (x2 y2:StA) (w':World) (H':cL),xF w g V fb wv' G got' far' (b+a.text.size) H' H' x2 y2 w'->H'=(if k % 3=0 then mG K (k % 8) else K)->xF w g V fb wv' G got' far' (jX (p.take (k+1))) (oI tlW rqF st p (k+1)) (oI tlW rqF st p (k+1)) x2 y2 w' from by
       intro wv' got' far' x2 y2 w' H' h m;rw [aK,z,zx ha,hH,Fd,hK,<- m];exact h)
      clear aO v ab ap ay hc s ha bh aK hu aW ar hH z hK hr;obtain⟨cz,aP⟩:∃ cz,a.conn=cz:=⟨_,rfl⟩;obtain⟨Q,aX⟩:∃ Q,a.text=Q:=⟨_,rfl⟩;rw [aP] at d0 f0 ai ag D ao;rw [aX] at d1 f1 ai ag D ao X;clear aP aX
      go_wp2_with fail
      try simp only [ao.z]
      clear ao d0 d1;refine ai.mono ?_;rintro m r ⟨rfl,af,x4,h4,t4⟩;have aq:=aB.prog t4 h4;have a3:=t4.gr.blk D.z aG.z;obtain⟨f0,f1⟩:=Blk.c2 (a3);have bm:=a3.lt;have aA:=ω aq;have aC:=ω (ag.z r aq.good aq.ref);clear aq a3 h4 t4 ai ag aB D aG bp
      go_wp2_with fail
      refine aC.mono ?_;rintro m w5 ⟨rfl,Y,Z,R,h5,r5,g5⟩;have az:=ω (aA.turn h5 r5 g5);clear h5 r5 g5 aC aA f0 f1 bm
      go_wp2_with fail
      refine rq (Γ:=Option StA) 168 (hsV g G aI a6 K.st R) [] (fun _ l o=>zB w g V fb af G Y Z (b+Q.size) K x4 R l o) none ⟨az.below (θ).drew,fun _ h=>by cases h⟩ ?_ ?_
      · clear az;refine⟨?_,?_,?_,?_,?_,?_,?_,?_,?_,?_,?_,?_,?_,?_,?_,?_,?_,?_,?_,trivial⟩
        · exact ok0 0 0 13 rfl fun _=>rfl
        · exact ok0 0 0 15 rfl fun _=>rfl
        · refine okQ 0 0 fun q l a o _ _ e i=>?_;obtain⟨u1,d,rfl⟩:=i.g 0 86 rfl rfl;obtain⟨u2,u,rfl⟩:=i.g 1 87 rfl rfl;simp [go_sem,Oper.wp,execOp,Act.eval,d,u];exact⟨_,rfl,l,fun _ _ _ h=>h,rfl,e⟩
        · exact ok1 0 0 2 88 rfl rfl (fun _ _ h=>h) fun _=>rfl
        · refine okR false 3 89 rfl rfl rfl (fun _ _ h=>h) fun q l a o _ _ e i=>?_;have d:=i.k 14 rfl;simp [go_sem,Oper.wp,execOp,Act.eval,d];exact⟨_,rfl,l,fun _ _ _ h=>h,rfl,e⟩
        · refine okR false 3 89 rfl rfl rfl (fun _ _ h=>h) fun q l a o _ _ e i=>?_;have d:=i.k 16 rfl;simp [go_sem,Oper.wp,execOp,Act.eval,d];exact⟨_,rfl,l,fun _ _ _ h=>h,rfl,e⟩
        · refine okR false 3 89 rfl rfl rfl (fun _ _ h=>h) fun q l a o _ _ e i=>?_;obtain⟨u1,d,rfl⟩:=i.g 4 90 rfl rfl;obtain⟨u2,u,rfl⟩:=i.g 5 91 rfl rfl;simp [go_sem,Oper.wp,execOp,Act.eval,d,u];exact⟨_,rfl,l,fun _ _ _ h=>h,rfl,e⟩
        · refine okQ 0 0 fun q l a o _ _ e i=>?_;obtain⟨u1,d,rfl⟩:=i.g 3 89 rfl rfl;obtain⟨u2,u,rfl⟩:=i.g 6 92 rfl rfl;simp [go_sem,Oper.wp,execOp,Act.eval,d,u];exact⟨_,rfl,l,fun _ _ _ h=>h,rfl,e⟩
        · exact ok1 0 0 7 93 rfl rfl (fun _ _ h=>h) fun _=>rfl
        · refine okR false 8 94 rfl rfl rfl (fun _ _ h=>h) fun q l a o _ _ e i=>?_;have d:=i.k 5 rfl;simp [go_sem,Oper.wp,execOp,Act.eval,d];exact⟨_,rfl,l,fun _ _ _ h=>h,rfl,e⟩
        · refine okR false 8 94 rfl rfl rfl (fun _ _ h=>h) fun q l a o _ _ e i=>?_;obtain⟨u1,d,rfl⟩:=i.g 9 95 rfl rfl;have e:=(show zB w g V fb af G Y Z (b+Q.size) K x4 R l o from e);simp [go_sem,Oper.wp,execOp,Act.eval,d];refine (GU o e.1.hub).mono ?_;rintro m w' ⟨y,rfl,hy,z⟩;exact⟨_,rfl,some y,P9 _,⟨y,rfl,rfl⟩,e.1.below z,fun b1 m=>by injection m with m; subst m; exact hy⟩
        · refine okR false 8 94 rfl rfl rfl (fun _ _ h=>h) fun q l a o _ _ e i=>?_;have d:=i.k 10 rfl;simp [go_sem,Oper.wp,execOp,Act.eval,d];exact⟨_,rfl,l,fun _ _ _ h=>h,rfl,e⟩
        · refine okR false 8 94 rfl rfl rfl (fun _ _ h=>h) fun q l a o _ _ e i=>?_;obtain⟨u1,d,rfl⟩:=i.g 11 97 rfl rfl;simp [go_sem,Oper.wp,execOp,Act.eval,d];exact⟨_,rfl,l,fun _ _ _ h=>h,rfl,e⟩
        · refine okR false 8 94 rfl rfl rfl (fun _ _ h=>h) fun q l a o _ _ e i=>?_;obtain⟨u1,d,rfl⟩:=i.g 12 98 rfl rfl;simp [go_sem,Oper.wp,execOp,Act.eval,d];exact⟨_,rfl,l,fun _ _ _ h=>h,rfl,e⟩
        · refine okR false 8 94 rfl rfl rfl (fun _ _ h=>h) fun q l a o _ _ e i=>?_;obtain⟨u1,d,rfl⟩:=i.g 13 99 rfl rfl;simp [go_sem,Oper.wp,execOp,Act.eval,d];exact⟨_,rfl,l,fun _ _ _ h=>h,rfl,e⟩
        · refine okR false 8 94 rfl rfl rfl (fun _ _ h=>h) fun q l a o _ _ e i=>?_;obtain⟨u1,d,rfl⟩:=i.g 14 100 rfl rfl;have e:=(show zB w g V fb af G Y Z (b+Q.size) K x4 R l o from e);obtain⟨bi,bj,bk,bl⟩:=Blk.c4 (e.1.ref.blk);simp [go_sem,Oper.wp,execOp,Act.eval,d,bi,bj,bk,bl];exact⟨_,rfl,l,fun _ _ _ h=>h,rfl,e⟩
        · refine okR false 8 94 rfl rfl rfl (fun _ _ h=>h) fun q l a o _ _ e i=>?_;obtain⟨u1,d,U,bg,rfl⟩:=i.g 10 96 rfl rfl;obtain⟨u2,u,rfl⟩:=i.g 15 101 rfl rfl;have e:=(show zB w g V fb af G Y Z (b+Q.size) K x4 R l o from e);simp [go_sem,Oper.wp,execOp,Act.eval,d,u];refine (wM K.st K.st U R o (e.2 U bg) e.1.ref.at_).mono ?_;rintro m w' ⟨t,rfl,ht,z⟩;obtain rfl:=ht.2 rfl;exact⟨_,rfl,l,fun _ _ _ h=>h,rfl,e.kept z⟩
        · refine okR false 8 94 rfl rfl rfl (fun _ _ h=>h) fun q l a o _ _ e i=>?_;obtain⟨u1,d,rfl⟩:=i.g 16 102 rfl rfl;simp [go_sem,Oper.wp,execOp,Act.eval,d];exact⟨_,rfl,l,fun _ _ _ h=>h,rfl,e⟩
        · refine okQ 0 0 fun q l a o _ _ e i=>?_;obtain⟨u1,d,rfl⟩:=i.g 8 94 rfl rfl;obtain⟨u2,u,rfl⟩:=i.g 17 103 rfl rfl;simp [go_sem,Oper.wp,execOp,Act.eval,d,u];exact⟨_,rfl,l,fun _ _ _ h=>h,rfl,e⟩
      intro l br wz hd;have hz:=(show zB w g V fb af G Y Z (b+Q.size) K x4 R l wz from hd.ph);obtain⟨fv,rfl,aS⟩:=hd.frame [86,87,88,89,90,91,92,93,94,95,96,97,98,99,100,101,102,103,104] rfl;have fE:fv 104 = .bool false:=aS 18 _ 104 rfl rfl;have HZ:=ω hz.1;simp only [foldl_cons,foldl_nil,setIfInBounds_toArray,set_cons_succ,set_cons_zero,fE];clear hd aS hz fE az;obtain⟨j,hj⟩:∃ j,k % 8=j:=⟨_,rfl⟩;have ae:j<8:=by omega
      have aF:=ω (show (k:Int) % 8=(j:Int) from by omega);have HJ:=ω hj;obtain⟨cl,a5⟩:∃ cl,(K.cs j).closed=cl:=⟨_,rfl⟩;have T:=ω (JO wz HZ.hub ae);rw [a5] at T;have aD:=ω a5;clear hj a5
      go_wp2_with fail
      rw [aF.z];refine T.mono ?_;rintro m w6 ⟨rfl,ac⟩;have L:=ω (HZ.below ac);have q1:ζ w6 G (21+j) (.bool cl):=by rw [<- aD.z]; exact aQ.closed L.ref ae
      have bn:=L.ref.blk.lt;have bx:((!cl) == cl)=false:=by cases cl <;> rfl
      clear ac T HZ aD aF;by_cases M:k % 3=0
      · have hm:(k:Int) % 3=0:=by omega
        have HU:=ω (Nf w6 L.hub ae);obtain⟨t,ht⟩:∃ t,BA (K.cs j).waits=t:=⟨_,rfl⟩;have Ht:=ω ht;have H3:=ω M;unfold AO at HU;rw [ht] at HU;clear ht M
        go_wp2_with fail
        refine HU.mono ?_;rintro m w7 ⟨rfl,b0,x7,h7,t7⟩;have N:=L.prog t7 h7;have q5:ζ w7 G (37+j) (.string t):=by rw [<- Ht.z]; exact aQ.waits N.ref ae
        have z5:κ w7 G (37+j):=N.ref.blk.thaw _;have bv:=N.ref.blk.lt;have aT:=aR w7 G (37+j) (.string ⟨#[]⟩);have HF:=ω (X.z _ _ _ _ _ _ _ (N.turn (aQ.flush N.ref ae) (N.good.flush j) aT) (by rw [if_pos H3.z,HJ.z]));clear h7 t7 N aT HU L X q1 bn;go_wp2
        go_roundw
        case rel=>exact⟨k+1,_,_,_,_,_,by omega,by go_num,HF.z⟩
        case measure=>simp [intOf]; omega
      · have hm:¬ (k:Int) % 3=0:=by omega
        have HF:=ω (X.z _ _ _ _ _ _ _ L.z (by rw [if_neg M]));clear L X M;go_wp2
        go_roundw
        case rel=>exact⟨k+1,_,_,_,_,_,by omega,by go_num,HF.z⟩
        case measure=>simp [intOf]; omega
    · obtain rfl:k=n:=by omega
      clear hlt;have T:=ω (JP g 8 wr (by omega))
      go_wp2_with fail
      refine T.mono ?_;rintro m w6 ⟨rfl,ac⟩;have a0:=ω (s.below ac);have a8:=ω (GT g (-1) w6 (by omega));clear ac T s
      go_wp2_with fail
      refine a8.mono ?_;rintro m w7 ⟨rfl,aM⟩;have bb:=ω (a0.inn.base.trans (aM.mono a0.inn.base.size));clear aM a8 a0;go_wp2;go_ret;exact⟨rfl,bb⟩
end Go.Proofs.YtimglglgcgpjgaaGreatDoor
