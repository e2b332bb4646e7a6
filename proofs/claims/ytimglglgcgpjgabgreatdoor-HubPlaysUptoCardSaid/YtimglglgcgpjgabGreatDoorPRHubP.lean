/- Of the proof of a statement: RHubP, ArgSt, WHubPlays, ArgAct. -/
import Derived.Deep.Slices
import Derived.Lib.SmallJoins
import Derived.Test.YtimglglgcgpjgabGreatDoorPRHubT
set_option linter.unusedVariables false
set_option linter.unusedSimpArgs false
set_option maxRecDepth 100000
set_option maxHeartbeats 8000000
namespace Go.Proofs.YtimglglgcgpjgabGreatDoor
open Go.RowKit
open Go.ChangeShapes Go.WideShapes Go.ChangeAt Go.RowKit
theorem De {g k:Nat} {got:Nat->List UInt8} {far:Nat->Nat} {H:cX} {x:StA} (w:World) (p:ByteArray) (h:aR w g got far H x) (d:k<8) (c:(H.cs k).closed=true) :
 ψ 12 #[π g 0,(k:Int),p] w fun e w'=>e = .returned (.tuple #[.string ⟨#[]⟩,(6:Int)])/\w'=w:=by
 have a:=ω (tF (k:Int) 0 7 w);have l:(!ranged (k:Int) 0 7)=false:=by rw [aM.2 ⟨by omega,by omega⟩]; rfl
 have m:ζ w g (21+k) (.bool true):=by rw [<- c]; exact aR.closed h d
 have j:=h.blk.lt;clear h c;go_enter Tryz.func12,Tryz.ntmps12
 go_wp2_with fail
 refine a.mono ?_;rintro i w0 ⟨rfl,rfl⟩;clear a;go_wp2;go_ret2;exact⟨rfl,rfl⟩
theorem Gv (g:Nat) (k:Int) (w:World) (p:ByteArray) (c:k<0\/7<k) :
 ψ 12 #[π g 0,k,p] w fun e w'=>e = .returned (.tuple #[.string ⟨#[]⟩,(1:Int)])/\w'=w:=by
 have a:=ω (tF k 0 7 w)
 have i:(!ranged k 0 7)=true:=by
  cases h:ranged k 0 7 with
  | false=>rfl
  | true=>have:=aM.1 h; omega
 clear c;go_enter Tryz.func12,Tryz.ntmps12
 go_wp2_with fail
 refine a.mono ?_;rintro d w0 ⟨rfl,rfl⟩;clear a;go_wp2;go_ret2;exact⟨rfl,rfl⟩
structure Iv (got:Nat->List UInt8) (far:Nat->Nat) (b:Nat) (S:mK):Prop where
 op:∀ k,(S.H.cs k).closed=false->(S.H.cs k).rest=BA ((got k).drop (far k))/\far k<=(got k).length
 len:∀ k,(got k).length<=b
def wN (g b:Nat) (S:mK) (a:lP) (w:World) (e:Ending) (w':World):Prop:=
 ∃ (t:ByteArray) (E:Int) (got':Nat->List UInt8) (far':Nat->Nat) (x':StA),e = .returned (.tuple #[t,E])/\aR w' g got' far' (stepT tlW rqF S a).H x'/\Iv got' far' (b+a.text.size) (stepT tlW rqF S a)/\w.grownBy w' (some g) /\
  ((E=0/\0<=a.conn/\a.conn<=7/\(stepT tlW rqF S a).O=upd S.O a.conn.toNat (S.O a.conn.toNat ++ t.data.toList))\/(E≠0/\(stepT tlW rqF S a).O=S.O))
theorem JJ {g:Nat} {got:Nat->List UInt8} {far:Nat->Nat} {x:StA} {N b n:Nat} {S:mK} (w:World) (G:yR N b n S) (W:N<=1048576) (L:n<=60) {a:lP} (ha:b+a.text.size<=N) (R:Iv got far b S) (h:aR w g got far S.H x) :
 ψ 12 #[π g 0,a.conn,a.text] w (wN g b S a w):=by
 by_cases l:0<=a.conn/\a.conn<=7
 · obtain⟨k,z⟩:∃ k:Nat,a.conn=k:=⟨a.conn.toNat,by omega⟩;have y:k<8:=by omega
   have p:a.conn.toNat=k:=by omega
   cases c:(S.H.cs k).closed with
   | false=>
    obtain⟨Z,o2⟩:=G.op k c;obtain⟨Q,B⟩:=R.op k c;have r3:=R.len k;obtain⟨s,m⟩:∃ s,(S.H.cs k).rest ++ a.text=s:=⟨_,rfl⟩;have X:s.size=(S.H.cs k).rest.size+a.text.size:=by rw [<- m,ByteArray.size_append]
    have d:stepT tlW rqF S a=⟨oF (je tlW rqF S.H k s (kA s).1 (kA s).2.1 (kA s).2.2) k,upd S.O k (S.O k ++ ((je tlW rqF S.H k s (kA s).1 (kA s).2.1 (kA s).2.2).cs k).waits)⟩:=by
     unfold stepT;rw [p,if_pos ⟨l,c⟩];unfold BY;rw [m]
    have t:=xG s;obtain⟨T,U,V⟩:=t.facts
    have J:∀ i,i<8->(S.H.cs i).waits.length<=35000000000000:=fun i _=>by
     have q:=G.len i;have r:n*(21000*N+6020)<=60*(21000*1048576+6020):=Nat.mul_le_mul L (by omega);omega
    have o:BA ((got k).drop (far k)) ++ a.text=s:=by rw [<- Q]; exact m
    rw [z];refine (Gw w a.text h y c o B t (by omega) (by omega) J).mono ?_;rintro e w' ⟨rfl,x',q,r⟩;refine⟨_,_,upd got k (got k ++ a.text.data.toList),upd far k (far k+(kA s).2.1),x',rfl,?_,?_,r,.inl ⟨rfl,l.1,l.2,?_⟩⟩
    · rw [d]; exact q
    · rw [d];obtain⟨u,F⟩:=Ah (tl:=tlW) (rq:=rqF) S.H k s (kA s).1 (kA s).2.1 (kA s).2.2;refine⟨fun i j=>?_,fun i=>?_⟩
      · obtain⟨M,q2,P,q4⟩:=Ai (je tlW rqF S.H k s (kA s).1 (kA s).2.1 (kA s).2.2) k i;dsimp only at j |-;rw [M] at j;rw [P,u.rest i];by_cases e:i=k
        · subst e;have C:=F j
          show (upd S.H.cs i _ i).rest=_/\_
          rw [bI,bI,bI];have K:s.size=((got i).drop (far i)).length+a.text.size:=by rw [<- o,ByteArray.size_append,jA]
          rw [List.length_drop] at K;have E:a.text.data.toList.length=a.text.size:=A8 _;refine⟨?_,by rw [List.length_append,E]; omega⟩
          show (if (kA s).2.2=3 then s.extract (kA s).2.1 s.size else ⟨#[]⟩)=_
          rw [if_pos C,<- List.drop_drop,List.drop_append_of_le_length B];have D:s=BA ((got i).drop (far i) ++ a.text.data.toList):=by rw [<- o,wJ]
          generalize (kA s).2.1=Y;rw [D];exact LN _ _
        · have I:=u.closed i j;have v:(upd S.H.cs k (nX (S.H.cs k) s (kA s).2.1 (kA s).2.2) i).closed=false:=I;rw [upd_ne _ _ e] at v
          show (upd S.H.cs k _ i).rest=_/\_
          rw [upd_ne _ _ e,upd_ne _ _ e,upd_ne _ _ e];exact R.op i v
      · by_cases e:i=k
        · subst e;rw [bI,List.length_append,A8];omega
        · rw [upd_ne _ _ e];have:=R.len i;omega
    · rw [d,p,tY]
   | true=>
    rw [z];refine (De w a.text h y c).mono ?_;rintro e w' ⟨rfl,rfl⟩
    have d:stepT tlW rqF S a=S:=by
     unfold stepT;rw [p,if_neg (fun h=>by rw [h.2] at c; cases c)]
    rw [wN,d];exact⟨_,_,got,far,x,rfl,h,⟨R.op,fun k=>by have:=R.len k; omega⟩,bP _ _,.inr ⟨by decide,rfl⟩⟩
 · refine (Gv g a.conn w a.text (by omega)).mono ?_;rintro e w' ⟨rfl,rfl⟩
   have d:stepT tlW rqF S a=S:=by
    unfold stepT;rw [if_neg (fun h=>l h.1)]
   rw [wN,d];exact⟨_,_,got,far,x,rfl,h,⟨R.op,fun k=>by have:=R.len k; omega⟩,bP _ _,.inr ⟨by decide,rfl⟩⟩
structure PyR (w0:World) (g b:Nat) (got:Nat->List UInt8) (far:Nat->Nat) (H:cX) (O:Nat->List UInt8) (x:StA) (w:World):Prop where
 hub:aR w g got far H x
 below:Below w0 w0 w
 otx:Blk w b 9 (tu O)
 ne:b≠g
 lo:w0.heap.size<=b/\w0.heap.size<=g
section
variable {w0 w w':World} {g b:Nat} {got got':Nat->List UInt8} {far far':Nat->Nat} {H H':cX} {O:Nat->List UInt8} {x x':StA}
theorem PyR.sent (h:PyR w0 g b got far H O x w) (c:aR w' g got' far' H' x') (a:w.grownBy w' (some g)):PyR w0 g b got' far' H' O x' w':=
 ⟨c,cR h.below a h.lo.2,ay a h.otx h.ne,h.ne,h.lo⟩
theorem PyR.up (h:PyR w0 g b got far H O x w) (a:Below w w w'):PyR w0 g b got far H O x w':=h.sent (gO.below h.hub a) (grown_of g a)
theorem PyR.set (h:PyR w0 g b got far H O x w) {k:Nat} (c:k<8) (t:List UInt8):PyR w0 g b got far H (upd O k t) x (sQ w b k (.string (BA t))):=by
 have a:=aQ w b k (.string (BA t));refine⟨⟨ay a h.hub.blk h.ne.symm,(h.hub.at_.Nc h.otx Ey a).more a.size,h.hub.ok,h.hub.t,h.hub.far⟩,cR h.below a h.lo.1,?_,h.ne,h.lo⟩;rw [<- Ex c];exact h.otx.set _ _
end
theorem JK (st:ah) (x:StA) (d:List lP) (A:Option Addr) (n c:Nat) (w:World) (I:StAt w w st x) (hq:bg w w 2 A n (au Ew d)) (hl:d.length=n) (hN:iA d<=1048576) :
 ψ 5 #[.agg (stC st x),.slice A n c] w (lJ st d w):=by
 obtain⟨W,hW⟩:∃ W,w.alloc (.cells (stC st x) 26)=W:=⟨_,rfl⟩;have af:Below w w W:=by rw [<- hW]; exact (θ).alloc lQ _
 have p:Blk W w 26 (stC st x):=by rw [<- hW]; exact n5 w _
 have J:=ω (lR st x W (I.upS af));obtain⟨c0,c1,c2,c3⟩:=Blk.c4 (p);have ai:=p.lt;have N:=ω af;have HW:=ω hW;have m:=ω p;obtain⟨E,s⟩:∃ E,aE st=E:=⟨_,rfl⟩;have G:=ω s;have HS:=ω (I.upS af);have V:=ω hq;have o:=ω hl;have K:=ω hN;unfold Ar at J;rw [s] at J;clear af p hW s I hq hl hN;unfold stC at HW J |-;go_enter Tryz.func5,Tryz.ntmps5
 go_wp2_with fail
 try simp only [HW.z]
 clear HW;refine J.mono ?_;rintro aM v ⟨rfl,ae⟩;have y:=ω (N.trans (ae.mono N.size));have al:=m.below ae m.lt;have aA:=HS.upS ae;obtain⟨c0,c1,c2,c3⟩:=Blk.c4 (al);have ai:=al.lt;have L:=ω aA;clear ae al aA J m HS;by_cases z:E=0;rotate_left
 · have d1:(E != 0)=true:=by simpa using z
   have d2:(E == 0)=false:=by simpa using z
   have F:=ω (show lJ st d w (.returned (.tuple #[.slice none 0 0,E])) v from ⟨y,.inl ⟨by rw [G.z]; exact z,by rw [G.z]⟩⟩);clear z y G N V o K L;go_wp2;go_ret2;exact F
 · have T:=ω (G.trans z);subst z;by_cases a5:n<=60;rotate_left
   · have d3:decide ((60:Int)<(n:Int))=true:=t7 (by omega);have F:=ω (show lJ st d w (.returned (.tuple #[.slice none 0 0,(2:Int)])) v from ⟨y,.inr (.inl ⟨T,by rw [o.z]; omega,rfl⟩)⟩);clear a5 G N V K y T L;go_wp2;go_ret2;exact F
   obtain⟨g,ar⟩:∃ g,v.heap.size=g:=⟨_,rfl⟩;obtain⟨i,ac⟩:∃ i,v.alloc (.cells (DJ (ow (fun _=>[]) (fun _=>0) (qG st).cs) st x 0) 51)=i:=⟨_,rfl⟩;have ag:Below v v i:=by rw [<- ac]; exact (θ).alloc lQ _
   have am:aR i g (fun _=>[]) (fun _=>0) (qG st) x:=⟨by rw [<- ac,<- ar]; exact n5 v _,L.upS ag,T,⟨Int.le_refl _,show (0:Int)<=1099511627776 by decide⟩,L.far (by omega)⟩;obtain⟨W2,ad⟩:∃ W2,i.alloc (.cells (tu fun _=>[]) 9)=W2:=⟨_,rfl⟩;obtain⟨b,aq⟩:∃ b,i.heap.size=b:=⟨_,rfl⟩;have ap:Below i i W2:=by rw [<- ad]; exact (θ).alloc lQ _
   have aH:=Oc i;rw [ad,aq] at aH;have Jv:=am.blk.lt
   have a7:PyR w g b (fun _=>[]) (fun _=>0) (pyT st d 0).H (pyT st d 0).O x W2:=by
    have l:=y.size;exact⟨gO.below am ap,y.trans ((ag.trans (ap.mono ag.size)).mono l),by rw [<- ad,<- aq]; exact n5 i _,by omega,by omega,by omega⟩
   have a9:Iv (fun _=>[]) (fun _=>0) (iA (d.take 0)) (pyT st d 0):=⟨fun _ _=>⟨rfl,lQ⟩,fun _=>Nat.zero_le _⟩;have az:=ω a7;have a0:=ω a9;have aL:=ω aH;have a3:=ω ac;have a4:=ω ar;have U:φ (∀ n,n<=d.length->yR 1048576 (iA (d.take n)) n (pyT st d n)):=ω (uT (rq:=rqF) wK st d K.z);have aS:=ω y.size;have bb:((n:Nat):Int)<=60:=by omega
   clear ac ar ad aq ag ap a7 a9 am L G N
   go_upto_region 7 with fail
   change Code.wp _ _ _ _ (χ v (DJ (ow (fun _=>[]) (fun _=>0) (qG st).cs) st x 0) 51);rw [a3.z,a4.z];clear a3 a4 c0 c1 c2 c3 ai;go_wp2
   go_loopw [29] (fun D wr=>∃ (k:Nat) (got:Nat->List UInt8) (far:Nat->Nat) (x1:StA),k<=n/\D = .int .i64 k/\PyR w g b got far (pyT st d k).H (pyT st d k).O x1 wr/\Iv got far (iA (d.take k)) (pyT st d k)) (fun D _=>n - (intOf D).toNat)
   case atStart=>exact⟨0,_,_,x,Nat.zero_le _,rfl,az,a0⟩
   case round=>
    obtain⟨k,got,far,x1,hk,rfl,hP,hR⟩:=hrel;have r:=ω hP;have HR:=ω hR;clear hP hR;by_cases hlt:k<n
    · obtain⟨a,ha⟩:∃ a,d[k]? = some a:=⟨_,δ (by rw [o.z]; exact hlt)⟩;have aO:=(pX ha).2;have aC:=(pX ha).1;have aN:=K.z;obtain⟨ba,aK,rfl,aT,hc⟩:=(V.below r.below).dL qO o.z ha;have bf:=r.below.size;have d0:ζ wr ba (aK+k*2) (.int .i64 a.conn):=hc 0 _ rfl;have d1:ζ wr ba (aK+k*2+1) (.string a.text):=hc 1 _ rfl;have bd:k*2+2<=n*2:=by omega
      have aU:ba<wr.heap.size:=by omega
      obtain⟨R,aj⟩:∃ R,wr.alloc (.cells #[a.conn,a.text] 39)=R:=⟨_,rfl⟩;have aD:Below wr wr R:=by rw [<- aj]; exact (θ).alloc lQ _
      have p:Blk R wr 39 #[a.conn,a.text]:=by rw [<- aj]; exact n5 wr _
      have ao:=r.up aD;have aI:=EA (st:=st) ha;have a6:=U.z k (by rw [o.z]; omega);have Lp:=U.z (k+1) (by rw [o.z]; omega);have ab:=JJ (a:=a) (S:=pyT st d k) R a6 lQ (by omega) (by omega) HR.z ao.hub;unfold wN at ab;rw [<- aC,<- aI] at ab;have M:=ω ab;have aX:g<wr.heap.size:=r.hub.blk.lt;obtain⟨f0,f1⟩:=Blk.c2 (p);have be:=p.lt;have ak:=ω ao;have m:=ω p;have Gk:=ω Lp;have X:=ω aj;clear aD p ao aI a6 Lp aj hc r HR ha aO aC aN ab;obtain⟨P,aG⟩:∃ P,a.conn=P:=⟨_,rfl⟩;obtain⟨tx,aJ⟩:∃ tx,a.text=tx:=⟨_,rfl⟩;rw [aG] at d0 f0 M m X;rw [aJ] at d1 f1 M m X;clear aG aJ
      go_wp2_with fail
      try simp only [X.z]
      clear X d0 d1;refine M.mono ?_;rintro aM Q ⟨t,E,Y,Z,x4,rfl,h4,r4,t4,s⟩;have C:=ak.sent h4 t4;have aa:=ay t4 m.z (by omega);have e0:ζ Q wr 0 (.int .i64 P):=aa.cell 0;have aZ:=aa.lt;have a1:=ω r4;rcases s with ⟨rfl,aV,aW,B⟩ | ⟨s,B⟩
      · obtain⟨cn,rfl⟩:∃ cn:Nat,P=cn:=⟨P.toNat,by omega⟩;rw [Int.toNat_natCast] at B;have aF:cn<8:=by omega
        obtain⟨e,q⟩:∃ e,BA ((pyT st d k).O cn)=e:=⟨_,rfl⟩;have y0:ζ Q b cn (.string e):=by rw [C.otx.cell,zM aF,q]
        have zt:κ Q b cn:=C.otx.thaw _;obtain⟨u,av⟩:∃ u,e ++ t=u:=⟨_,rfl⟩;have ai:=C.otx.lt
        have aw:e.size+t.size<=1400000000000:=by
         have l:=Gk.len cn;have h2:((pyT st d (k+1)).O cn).length<=(k+1)*(21000*1048576+6020):=v6 (Nat.le_add_right _ _) l;rw [B,bI,List.length_append] at h2;have h3:t.data.toList.length=t.size:=by simp
         rw [<- q,jA];omega
        have aP:¬ 9223372036854775807<e.size+t.size:=by omega
        have aQ:e.size+t.size<=9223372036854775807:=by omega
        have F:=ω (show PyR w g b Y Z (pyT st d (k+1)).H (pyT st d (k+1)).O x4 (sQ Q b cn (.string u)) from by
         have l:=C.set aF ((pyT st d k).O cn ++ t.data.toList);rw [<- wJ,q,av,<- B] at l;exact l)
        clear C aa h4 r4 t4 B aw q M ak m Gk f0 f1;go_wp2
        go_roundw
        case rel=>exact⟨k+1,Y,Z,x4,by omega,by go_num,F,a1⟩
        case measure=>simp [intOf]; omega
      · have z:(E == 0)=false:=by simpa using s
        have F:=ω (show PyR w g b Y Z (pyT st d (k+1)).H (pyT st d (k+1)).O x4 Q from by
         rw [B]; exact C)
        clear C aa h4 r4 t4 B s M ak m Gk f0 f1 e0;go_wp2
        go_roundw
        case rel=>exact⟨k+1,Y,Z,x4,by omega,by go_num,F,a1⟩
        case measure=>simp [intOf]; omega
    · obtain rfl:k=n:=by omega
      have aB:pyT st d k=oJ tlW rqF ⟨qG st,fun _=>[]⟩ d:=by unfold pyT; rw [List.take_of_length_le (by rw [o.z]; omega)]
      have a2:=ω aB;have ax:=ω (U.z k (by rw [o.z]; omega));obtain⟨S,I⟩:∃ S,pyT st d k=S:=⟨_,rfl⟩;rw [I] at r a2 ax;clear aB I U hlt V K az a0 HR aL;go_wp2
      go_loopw [55] (fun D wr=>∃ (j:Nat),j<=8/\D = .int .i64 j/\PyR w g b got far S.H (yg S j) x1 wr) (fun D _=>8 - (intOf D).toNat)
      case atStart=>exact⟨0,by omega,rfl,by rw [Cd]; exact r.z⟩
      case round=>
       obtain⟨j,hj,rfl,a8⟩:=hrel;have h:=ω a8;clear a8 r;by_cases hlt:j<8
       · have ai:=h.otx.lt;have bc:=h.hub.blk.lt;have aY:(j:Int)<8:=by omega
         obtain⟨t,ht⟩:∃ t,BA (S.H.cs j).waits=t:=⟨_,rfl⟩;obtain⟨e,q⟩:∃ e,BA (S.O j)=e:=⟨_,rfl⟩;have y1:ζ wr g (37+j) (.string t):=by rw [<- ht]; exact aR.waits h.hub hlt
         have y0:ζ wr b j (.string e):=by rw [h.z.otx.cell,zM hlt,Im,q]
         have zt:κ wr b j:=h.otx.thaw _;obtain⟨u,av⟩:∃ u,e ++ t=u:=⟨_,rfl⟩
         have aw:e.size+t.size<=1400000000000:=by
          have l:=ax.len j;rw [<- q,<- ht,jA,jA];omega
         have aP:¬ 9223372036854775807<e.size+t.size:=by omega
         have aQ:e.size+t.size<=9223372036854775807:=by omega
         have F:=ω (show PyR w g b got far S.H (yg S (j+1)) x1 (wr.setCell ⟨b,j,none⟩ (.string u)).drew from by
          have l:=h.set hlt (S.O j ++ (S.H.cs j).waits);have h2:BA (S.O j ++ (S.H.cs j).waits)=u:=by rw [<- av,<- q,<- ht,wJ,tY]
          rw [Ce,h2] at l;exact l.up (θ).drew)
         clear aw q ht h;go_wp2
         go_region
         go_wp2
         go_roundw
         case rel=>exact⟨j+1,by omega,by go_num,F⟩
         case measure=>simp [intOf]; omega
       · obtain rfl:j=8:=by omega
         have F:=ω (show lJ st d w (.returned (.tuple #[.slice (some ⟨b,0,none⟩) 8 8,(0:Int)])) wr from by
          refine⟨h.below,.inr (.inr ⟨T,by rw [o.z]; exact a5,b,rfl,h.lo.1,?_⟩)⟩;rw [<- a2.z,<- Ez];exact h.otx)
         clear h;go_wp2;go_ret2;exact F
def I64 (n:Int):Prop:=-9223372036854775808<=n/\n<=9223372036854775807
def Short (s:ByteArray):Prop:=s.size<=9223372036854775807
def Df (j:aC):Prop:=Short j.name/\I64 j.prio/\I64 j.need/\I64 j.tries/\Short j.tag
def A9 (n:av):Prop:=Short n.name/\I64 n.room/\Short n.zone
def yB (l:ak):Prop:=Short l.job/\Short l.node/\I64 l.till
theorem yC {H α:Type} {enc:TypeId × Value->H} {W:World} {B:Bool} {P:Nat} {cs:List Value} {x:DataW H × List MemPlace} {K e:TypeId} {sz:Nat} (h:α->List Value) (ok:α->Prop) (M:α)
 (X : Tryz.prog.underlying K=some (.slice e)) (S : Tryz.prog.cellsOf e=sz) (o:0<sz) (m:∀ a,(h a).length=sz)
 (N:∀ n q y,DataW.trod enc Tryz.prog W 0 (fun _=>true) B n e q=some y->∃ a:α,q=h a/\ok a)
 (Q:DataW.trod enc Tryz.prog W 0 (fun _=>true) B P K cs=some x) (hlt:∀ z ∈ x.2,z.block<W.heap.size) :
 ∃ (xs:List α) (A:Option Addr) (n c:Nat),cs=[.slice A n c]/\xs.length=n/\n<=9223372036854775807/\bg W W sz A n (au h xs)/\∀ a ∈ xs,ok a:=by
 haveI:Inhabited α:=⟨M⟩
 rcases Go.Deep.open_slice X Q with ⟨rfl,-⟩ | ⟨a,l,ab,I,n,aa,Pl,rfl,hb,hl,T,E,rfl,G⟩
 · exact⟨[],none,0,0,rfl,rfl,by omega,bg.nil,by simp⟩
 · simp only [if_true] at E;subst E;rw [S] at G hlt
   obtain⟨r,C⟩:=Go.Deep.choose_lt (α:=α) (p:=fun i u=>W.cells? 0 (a.add (i*sz)) sz=some (h u)/\ok u) (fun i k=>by
    obtain⟨q,d,R⟩:=G i k;obtain⟨u,rfl,f⟩:=N _ _ _ R;exact⟨u,d,f⟩)
   have t:∀ i,i<I->∀ j,j<sz->W.cell? ((a.add (i*sz)).add j)=(h (r i))[j]?:=fun i k j s=>(World.cells?_some (C i k).1).2.2 j s;refine⟨(List.range l).map r,some a,l,I,rfl,by simp,by unfold maxLen at T; omega,⟨by rw [jC m]; simp,fun hn=>?_⟩,fun u f=>?_⟩
   · have L:∃ v,W.cell? ((a.add (0*sz)).add 0)=some v:=by
      rw [t 0 (by omega) 0 o];exact⟨_,δ (by rw [m]; exact o)⟩
     obtain⟨v,Y⟩:=L;obtain⟨b,J,Z⟩:=a;have V:Z=none:=by simpa [Addr.add] using World.cell?_spot Y
     subst V;refine⟨b,J,rfl,?_,fun j u f=>?_⟩
     · refine hlt (.cell b J) (List.mem_append_left _ (MemPlace.mem_row.2 ⟨0,?_,rfl⟩));exact Nat.mul_pos (by omega) o
     · have s:j<l*sz:=by
        rcases Nat.lt_or_ge j (l*sz) with d | d
        · exact d
        · rw [List.getElem?_eq_none (by rw [jC m]; simpa using d)] at f; cases f
       have U:j / sz<l:=Nat.div_lt_of_lt_mul (by rw [Nat.mul_comm]; exact s);have F:j % sz<sz:=Nat.mod_lt _ o;have D:j=j / sz*sz+j % sz:=by rw [Nat.mul_comm]; exact (Nat.div_add_mod j sz).symm
       have d:=t (j / sz) (by omega) (j % sz) F;rw [add_plain,add_plain,Nat.add_assoc,<- D] at d;rw [d,<- f]
       conv=>rhs; rw [D]
       rw [ug m _ _ _ (r (j / sz)) (by simp [U]) F]
   · obtain⟨i,k,rfl⟩:=List.mem_map.1 f;exact (C i (by have:=List.mem_range.1 k; omega)).2
theorem ET : Tryz.prog.cellsOf 86 = 5:=by kernel_rfl
theorem Co : Tryz.prog.cellsOf 81 = 3:=by kernel_rfl
theorem Ba : Tryz.prog.cellsOf 77 = 3:=by kernel_rfl
theorem Gx : Tryz.prog.cellsOf 26 = 4:=by kernel_rfl
theorem tG {s:ByteArray} (h:s.size<=maxLen):Short s:=by unfold maxLen at h; unfold Short; omega
theorem Ns {H:Type} {enc:TypeId × Value->H} {W:World} {q:Bool} (n:Nat) (cs:List Value) (y:DataW H × List MemPlace) (p:DataW.trod enc Tryz.prog W 0 (fun _=>true) q n 86 cs=some y):∃ a:aC,cs=aS a/\Df a:=by
 obtain⟨K,Q,-,-,r,u,c⟩:=DataW.trod_struct Tryz.underlying86 p;have s:cs.length=5:=r.trans ET;have P:K.length=5:=u
 match cs,s with
 | [E,F,G,I,J],_=>
  have j:=c 0 _ rfl;rw [List.getElem?_eq_getElem (by omega)] at j;obtain⟨v,d,-,L⟩:=DataW.trod_string Tryz.underlying9 j;replace d:[E]=[_]:=d;obtain rfl:=(List.cons.inj d).1;have k:=c 1 _ rfl;rw [List.getElem?_eq_getElem (by omega)] at k;obtain⟨z,e,-,M⟩:=DataW.trod_int Tryz.underlying3 k;replace e:[F]=[_]:=e;obtain rfl:=(List.cons.inj e).1;have l:=c 2 _ rfl;rw [List.getElem?_eq_getElem (by omega)] at l;obtain⟨B,f,-,z2⟩:=DataW.trod_int Tryz.underlying3 l;replace f:[G]=[_]:=f;obtain rfl:=(List.cons.inj f).1;have m:=c 3 _ rfl;rw [List.getElem?_eq_getElem (by omega)] at m;obtain⟨C,h,-,N⟩:=DataW.trod_int Tryz.underlying3 m;replace h:[I]=[_]:=h;obtain rfl:=(List.cons.inj h).1;have o:=c 4 _ rfl;rw [List.getElem?_eq_getElem (by omega)] at o;obtain⟨D,i,-,z4⟩:=DataW.trod_string Tryz.underlying9 o;replace i:[J]=[_]:=i;obtain rfl:=(List.cons.inj i).1;exact⟨⟨v,z,B,C,D⟩,rfl,tG L,jO M,jO z2,jO N,tG z4⟩
theorem Bb :
 (∀ {H:Type} {enc:TypeId × Value->H} {W:World} {c:Bool} (n:Nat) (cs:List Value) (y:DataW H × List MemPlace) (h:DataW.trod enc Tryz.prog W 0 (fun _=>true) c n 81 cs=some y),∃ a:av,cs=aH a/\A9 a) /\
 (∀ {H:Type} {enc:TypeId × Value->H} {W:World} {c:Bool} (n:Nat) (cs:List Value) (y:DataW H × List MemPlace) (h:DataW.trod enc Tryz.prog W 0 (fun _=>true) c n 77 cs=some y),∃ a:ak,cs=aB a/\yB a):=by
 refine⟨@fun H enc W c n cs y h=>(fun(j:Unit)=>?_) (),@fun H enc W c n cs y h=>?_⟩<;>(
 first|(guard_hyp j;have m:=@Tryz.underlying81;have o:=@Co;have p:=@jO;have q:=@tG)|(have m:=@Tryz.underlying77;have o:=@Ba;have p:=@tG;have q:=@jO)
 obtain⟨I,L,-,-,z,C,i⟩:=DataW.trod_struct m h;have B:cs.length=3:=z.trans o;have K:I.length=3:=C
 match cs,B with
 | [E,F,G],_=>
  have r:=i 0 _ rfl;rw [List.getElem?_eq_getElem (by omega)] at r;obtain⟨D,f,-,J⟩:=DataW.trod_string Tryz.underlying9 r;replace f:[E]=[_]:=f;obtain rfl:=(List.cons.inj f).1;have k:=i 1 _ rfl;rw [List.getElem?_eq_getElem (by omega)] at k
  first|(guard_hyp j;obtain⟨s,d,-,v⟩:=DataW.trod_int Tryz.underlying3 k)|obtain⟨s,d,-,v⟩:=DataW.trod_string Tryz.underlying9 k
  replace d:[F]=[_]:=d;obtain rfl:=(List.cons.inj d).1;have l:=i 2 _ rfl;rw [List.getElem?_eq_getElem (by omega)] at l
  first|(guard_hyp j;obtain⟨u,e,-,z2⟩:=DataW.trod_string Tryz.underlying9 l)|obtain⟨u,e,-,z2⟩:=DataW.trod_int Tryz.underlying3 l
  replace e:[G]=[_]:=e;obtain rfl:=(List.cons.inj e).1;exact⟨⟨D,s,u⟩,rfl,tG J,p v,q z2⟩)
structure LP (st:ah):Prop where
 rev:I64 st.rev
 jobs:∀ j ∈ st.jobs,Df j
 nodes:∀ n ∈ st.nodes,A9 n
 leases:∀ l ∈ st.leases,yB l
theorem Gn {H:Type} {enc:TypeId × Value->H} {W:World} {aa:Reach} {o:Nat} {N:Bool} {v:Value} {d:DataW H} {p:List MemPlace}
 (S:Value.okWide Tryz.prog W aa o 26 v) (M:DataW.Trod enc Tryz.prog W 0 (fun _=>true) N 26 v d p) (hlt:∀ x ∈ p,x.block<W.heap.size) :
 ∃ (st:ah) (x:StA),v = .agg (stC st x)/\StAt W W st x/\LP st:=by
 obtain⟨v0,v1,v2,v3,y0,y1,y2,y3,n,rfl,rfl,rfl,I,J,K,L⟩:=Joins.open_agg4 Tryz.underlying26 (by kernel_rfl) Gx S M;obtain⟨rev,D,-,zr⟩:=DataW.trod_int Tryz.underlying3 I;obtain⟨T,k,Z,u,E,U,q,P,f⟩:=yC aS Df ⟨⟨#[]⟩,0,0,0,⟨#[]⟩⟩ Tryz.underlying22 ET (by omega) aU (fun n c y h=>Ns n c y h) J (fun z e=>hlt z (by simp [e]));obtain⟨ns,m,nn,C,F,X,s,R,j⟩:=yC aH A9 ⟨⟨#[]⟩,0,⟨#[]⟩⟩ Tryz.underlying23 Co (by omega) aO (fun n c y h=>Bb.1 n c y h) K (fun z e=>hlt z (by simp [e]));obtain⟨Y,l,nl,B,G,V,r,Q,i⟩:=yC aB yB ⟨⟨#[]⟩,⟨#[]⟩,0⟩ Tryz.underlying24 Ba (by omega) aI (fun n c y h=>Bb.2 n c y h) L (fun z e=>hlt z (by simp [e]));obtain rfl:=(List.cons.inj D).1;obtain rfl:=(List.cons.inj E).1;obtain rfl:=(List.cons.inj F).1;obtain rfl:=(List.cons.inj G).1
 exact⟨⟨rev,T,ns,Y⟩,⟨k,Z,u,m,nn,C,l,nl,B⟩,rfl,⟨P,R,Q,U,X,V,q,s,r,fun x a=>⟨(f x a).1,(f x a).2.2.2.2⟩,fun x a=>⟨(j x a).1,(j x a).2.2⟩,fun x a=>⟨(i x a).1,(i x a).2.1⟩⟩,
  ⟨jO zr,f,j,i⟩⟩
noncomputable def Bc (st:ah) (acts:List lP):List ByteArray × Int:=
 if aE st≠0 then ([],aE st) else if 60<acts.length then ([],2)
 else ([BA (tA (oJ tlW rqF ⟨qG st,fun _=>[]⟩ acts) 0),BA (tA (oJ tlW rqF ⟨qG st,fun _=>[]⟩ acts) 1),BA (tA (oJ tlW rqF ⟨qG st,fun _=>[]⟩ acts) 2),BA (tA (oJ tlW rqF ⟨qG st,fun _=>[]⟩ acts) 3),BA (tA (oJ tlW rqF ⟨qG st,fun _=>[]⟩ acts) 4),BA (tA (oJ tlW rqF ⟨qG st,fun _=>[]⟩ acts) 5),BA (tA (oJ tlW rqF ⟨qG st,fun _=>[]⟩ acts) 6),BA (tA (oJ tlW rqF ⟨qG st,fun _=>[]⟩ acts) 7)],0)
def Gy (r:List ByteArray × Int) (w:World) (e:Ending) (w':World):Prop:=
 ∃ (A:Option Addr) (n c:Nat),e = .returned (.tuple #[.slice A n c,r.2])/\bg w' w' 1 A n (au kQ r.1)/\r.1.length=n/\n<=8/\Below w w w'
theorem lJ.is {st:ah} {d:List lP} {w w':World} {e:Ending} (i:lJ st d w e w'):Gy (Bc st d) w e w':=by
 obtain⟨c,⟨a,rfl⟩ | ⟨a,f,rfl⟩ | ⟨a,f,b,rfl,l,h⟩⟩:=i
 · unfold Bc; rw [if_pos a];exact⟨none,0,0,rfl,bg.nil,rfl,by omega,c⟩
 · unfold Bc; rw [if_neg (by rw [a]; simp),if_pos f];exact⟨none,0,0,rfl,bg.nil,rfl,by omega,c⟩
 · unfold Bc; rw [if_neg (by rw [a]; simp),if_neg (by omega)];exact⟨some ⟨b,0,none⟩,8,8,rfl,⟨rfl,fun _=>⟨b,0,rfl,h.lt,fun k u j=>by rw [Nat.zero_add,h.cell]; show (List.toArray _)[k]? = _; rw [List.getElem?_toArray]; exact j⟩⟩,rfl,by omega,c⟩
theorem LQ:Bc Ie []=([],1):=by
 unfold Bc;rw [I6,if_pos (by decide)]
theorem C7 (w:World) (st:ah) (x:StA) (e:List lP) (A:Option Addr) (n c:Nat) (P:StAt w w st x/\LP st) (N:bg w w 2 A n (au Ew e)) (M:e.length=n) (Q:iA e<=1048576) (K:Tabs w) :
 ψ 3 #[.agg (stC st x),.slice A n c] w fun i w'=>i = .returned (.bool true)/\Below w w w':=by
 obtain⟨W,r⟩:∃ W,w.alloc (.cells (stC st x) 26)=W:=⟨_,rfl⟩;have l:Below w w W:=by rw [<- r]; exact (θ).alloc lQ _
 have p:Blk W w 26 (stC st x):=by rw [<- r]; exact n5 w _
 obtain⟨c0,c1,c2,c3⟩:=Blk.c4 (p);have ad:=p.lt;have q:=(EC st x e A n c W (P.1.upS l) (K.below l) ((N.below l).more l.size) M Q).mono fun _ _ h=>h.is;have m:=ω (fun a (o:Below w w a)=>(JK st x e A n c a (P.1.upS o) ((N.below o).more o.size) M Q).mono fun _ _ h=>h.is)
 have y:=ω (fun a (o:Below w w a)=>show ψ 4 #[.agg #[.int .i64 (-1),.slice none 0 0,.slice none 0 0,.slice none 0 0],.slice none 0 0] a (Gy ([],1) a) from by
  have:=(EC Ie badA [] none 0 0 a (PQ a _) (K.below o) bg.nil rfl (Nat.zero_le _)).mono fun _ _ h=>h.is;rw [LQ] at this;exact this)
 obtain⟨R,hr⟩:∃ R,Bc st e=R:=⟨_,rfl⟩;rw [hr] at q m;obtain⟨Z,ai⟩:=R;unfold Gy at q m y;have v:=ω q;have B:=ω l;have u:=ω p;have z:=ω r;clear l p r q hr P N M Q K;unfold stC at z v m |-;go_enter Tryz.func3,Tryz.ntmps3
 go_wp2_with fail
 try simp only [z.z]
 clear z;refine v.mono ?_;rintro i a ⟨A1,n1,af,rfl,s1,l1,b1,L⟩;have J:=u.below L u.lt;have C:=B.trans (L.mono B.size);have aa:=m.z a C;obtain⟨c0,c1,c2,c3⟩:=Blk.c4 (J);have ad:=J.lt;have U:=ω aa;have D:=ω C;have d:=ω s1;have X:=ω l1;clear J L C aa m v u B s1 l1
 go_wp2_with fail
 refine U.mono ?_;rintro i w2 ⟨A2,n2,ag,rfl,s2,l2,b2,s⟩;have S:=ω (MS w2);have d:=ω ((d.below s).more s.size);have E:=ω (D.trans (s.mono D.size));have S2:=ω s2;have Y:=ω l2;clear s s2 l2 D U c0 c1 c2 c3 ad
 go_wp2_with fail
 refine S.mono ?_;rintro i w3 ⟨rfl,j⟩;have F:=E.trans (j.mono E.size);have V:=ω (y.z w3 F);have d:=ω ((d.below j).more j.size);have S2:=ω ((S2.below j).more j.size);have G:=ω F;clear j F E y S
 go_wp2_with fail
 refine V.mono ?_;rintro i w4 ⟨A4,n4,aj,rfl,s4,l4,b4,k⟩;have ac:=G.trans (k.mono G.size);have T:=ω ((OX Z Z A1 A2 n1 n2 af ag w4 ((d.below k).more k.size) ((S2.below k).more k.size) X.z Y.z (by omega) (by omega)).mono fun _ _ h=>h.same);have I:=ω ac;clear k ac G s4 l4 V d S2 X Y
 go_wp2_with fail
 refine T.mono ?_;rintro i w5 ⟨rfl,ab⟩;have ae:=ω (I.trans (ab.mono I.size));clear ab I T;go_wp2;go_ret;exact⟨rfl,ae⟩
theorem EU : Tryz.prog.cellsOf 39 = 2:=by kernel_rfl
theorem Nt {H:Type} {enc:TypeId × Value->H} {W:World} {e:Bool} (n:Nat) (cs:List Value) (y:DataW H × List MemPlace) (h:DataW.trod enc Tryz.prog W 0 (fun _=>true) e n 39 cs=some y):∃ a:lP,cs=Ew a/\a.text.size<=Rows.uptoBulk y.1:=by
 obtain⟨u,v,r,rfl,f,j,l⟩:=trod_struct2 Tryz.underlying39 h;have i:cs.length=2:=f.trans EU
 match cs,i with
 | [m,o],_=>
  obtain⟨k,c,z,-⟩:=DataW.trod_int Tryz.underlying3 j;replace c:[m]=[_]:=c;obtain rfl:=(List.cons.inj c).1;obtain⟨s,d,p,-⟩:=DataW.trod_string Tryz.underlying9 l;replace d:[o]=[_]:=d;obtain rfl:=(List.cons.inj d).1;refine⟨⟨k,s⟩,rfl,?_⟩;subst p;simp only [Rows.uptoBulk,Rows.uptoBulkAll];have q:s.data.toList.length=s.size:=by rw [Array.length_toList]; rfl
  omega
theorem Cp {H:Type}:∀ (l:List (lP × DataW H)),(∀ z ∈ l,z.1.text.size<=Rows.uptoBulk z.2)->iA (l.map (·.1))<=Rows.uptoBulkAll (l.map (·.2))
 | [],_=>Nat.zero_le _
 | z :: l,h=>by
  have a:=Cp l fun y c=>h y (List.mem_cons_of_mem _ c);have d:=h z List.mem_cons_self;unfold iA at a |-;simp only [List.map_cons,List.sum_cons,Rows.uptoBulkAll] at a |-;omega
theorem Jz {H:Type} {enc:TypeId × Value->H} {W:World} {V:Reach} {L:Nat} {P:Bool} {v:Value} {d:DataW H} {p:List MemPlace}
 (T:Value.okWide Tryz.prog W V L 27 v) (N:DataW.Trod enc Tryz.prog W 0 (fun _=>true) P 27 v d p) (hlt:∀ x ∈ p,x.block<W.heap.size) :
 ∃ (s:List lP) (A:Option Addr) (n c:Nat),v = .slice A n c/\s.length=n/\bg W W 2 A n (au Ew s)/\iA s<=Rows.uptoBulk d:=by
 obtain⟨A,n,c,rfl⟩:=okWide_slice Tryz.underlying27 T;obtain⟨ab,o⟩:=N
 haveI:Inhabited lP:=⟨⟨0,⟨#[]⟩⟩⟩
 rcases Go.Deep.open_slice Tryz.underlying27 o with ⟨h,-⟩ | ⟨e,ac,Z,I,k,D,Y,h,hb,hl,hm,E,G,y⟩
 · simp only [Value.cells,List.cons.injEq,Value.slice.injEq,and_true] at h;obtain⟨rfl,rfl,rfl⟩:=h;exact⟨[],none,0,0,rfl,rfl,bg.nil,Nat.zero_le _⟩
 · simp only [Value.cells,List.cons.injEq,Value.slice.injEq,and_true] at h;obtain⟨rfl,rfl,rfl⟩:=h;simp only [if_true] at E;subst E;simp only [Prod.mk.injEq] at G;obtain⟨rfl,rfl⟩:=G;rw [EU] at y hlt
   obtain⟨f,o⟩:=Go.Deep.choose_lt (α:=lP) (p:=fun i u=>W.cells? 0 (e.add (i*2)) 2=some (Ew u)/\u.text.size<=Rows.uptoBulk (D i)) (fun i l=>by
    obtain⟨aa,a,q⟩:=y i l;obtain⟨u,rfl,m⟩:=Nt _ _ _ q;exact⟨u,a,m⟩)
   have B:∀ i,i<I->∀ j,j<2->W.cell? ((e.add (i*2)).add j)=(Ew (f i))[j]?:=fun i l j r=>(World.cells?_some (o i l).1).2.2 j r;refine⟨(List.range n).map f,some e,n,I,rfl,by simp,⟨by rw [jC qO]; simp,fun hn=>?_⟩,?_⟩
   · have K:∃ v,W.cell? ((e.add (0*2)).add 0)=some v:=by
      rw [B 0 (by omega) 0 (by decide)];exact⟨_,δ (by rw [qO]; decide)⟩
     obtain⟨v,S⟩:=K;obtain⟨b,J,X⟩:=e;have R:X=none:=by simpa [Addr.add] using World.cell?_spot S
     subst R;refine⟨b,J,rfl,?_,fun j u m=>?_⟩
     · refine hlt (.cell b J) (List.mem_append_left _ (MemPlace.mem_row.2 ⟨0,by omega,rfl⟩))
     · have r:j<n*2:=by
        rcases Nat.lt_or_ge j (n*2) with a | a
        · exact a
        · rw [List.getElem?_eq_none (by rw [jC qO]; simpa using a)] at m; cases m
       have Q:j / 2<n:=Nat.div_lt_of_lt_mul (by rw [Nat.mul_comm]; exact r);have F:j % 2<2:=Nat.mod_lt _ (by decide);have C:j=j / 2*2+j % 2:=by rw [Nat.mul_comm]; exact (Nat.div_add_mod j 2).symm
       have a:=B (j / 2) (by omega) (j % 2) F;rw [add_plain,add_plain,Nat.add_assoc,<- C] at a;rw [a,<- m]
       conv=>rhs; rw [C]
       rw [ug qO _ _ _ (f (j / 2)) (by simp [Q]) F]
   · have a:=Cp ((List.range n).map fun i=>(f i,D i)) (fun z U=>by
      obtain⟨i,l,rfl⟩:=List.mem_map.1 U;exact (o i (by have:=List.mem_range.1 l; omega)).2)
     rw [List.map_map,List.map_map] at a;simp only [Rows.uptoBulk];have q:(List.range n).map ((fun z:lP × DataW H=>z.1) ∘ fun i=>(f i,D i))=(List.range n).map f:=rfl;have M:(List.range n).map ((fun z:lP × DataW H=>z.2) ∘ fun i=>(f i,D i))=(List.range n).map D:=rfl;rw [q,M] at a;omega
end Go.Proofs.YtimglglgcgpjgabGreatDoor
