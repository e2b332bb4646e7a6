/- Of the proof of a statement: RHub, RHubS, HubQ. -/
import Derived.Test.YtimglglgcgpjgabGreatDoorPHubG
import Derived.Test.YtimglglgcgpjgabGreatDoorPNxD
import Derived.Test.YtimglglgcgpjgabGreatDoorPRRqD
set_option linter.unusedVariables false
set_option linter.unusedSimpArgs false
set_option maxRecDepth 100000
set_option maxHeartbeats 8000000
namespace Go.Proofs.YtimglglgcgpjgabGreatDoor
open Go.RowKit
def l8 (f:Nat->Value):List Value:=[f 0,f 1,f 2,f 3,f 4,f 5,f 6,f 7]
def tl5 (a b c d e:Nat->Value):List Value:=l8 a ++ (l8 b ++ (l8 c ++ (l8 d ++ l8 e)))
section
variable {a b c d e:Nat->Value} {k:Nat} {v:Value}
theorem P1 (h:k<8):(tl5 a b c d e)[k]? = some (a k):=by rcases lt8 h with rfl | rfl | rfl | rfl | rfl | rfl | rfl | rfl <;> rfl
theorem P2 (h:k<8):(tl5 a b c d e)[8+k]? = some (b k):=by rcases lt8 h with rfl | rfl | rfl | rfl | rfl | rfl | rfl | rfl <;> rfl
theorem P3 (h:k<8):(tl5 a b c d e)[16+k]? = some (c k):=by rcases lt8 h with rfl | rfl | rfl | rfl | rfl | rfl | rfl | rfl <;> rfl
theorem P4 (h:k<8):(tl5 a b c d e)[24+k]? = some (d k):=by rcases lt8 h with rfl | rfl | rfl | rfl | rfl | rfl | rfl | rfl <;> rfl
theorem P5 (h:k<8):(tl5 a b c d e)[32+k]? = some (e k):=by rcases lt8 h with rfl | rfl | rfl | rfl | rfl | rfl | rfl | rfl <;> rfl
theorem OY (h:k<8):(tl5 a b c d e).set k v=tl5 (upd a k v) b c d e:=by rcases lt8 h with rfl | rfl | rfl | rfl | rfl | rfl | rfl | rfl <;> rfl
theorem OZ (h:k<8):(tl5 a b c d e).set (8+k) v=tl5 a (upd b k v) c d e:=by rcases lt8 h with rfl | rfl | rfl | rfl | rfl | rfl | rfl | rfl <;> rfl
theorem O0 (h:k<8):(tl5 a b c d e).set (16+k) v=tl5 a b (upd c k v) d e:=by rcases lt8 h with rfl | rfl | rfl | rfl | rfl | rfl | rfl | rfl <;> rfl
theorem O3 (h:k<8):(tl5 a b c d e).set (24+k) v=tl5 a b c (upd d k v) e:=by rcases lt8 h with rfl | rfl | rfl | rfl | rfl | rfl | rfl | rfl <;> rfl
theorem O4 (h:k<8):(tl5 a b c d e).set (32+k) v=tl5 a b c d (upd e k v):=by rcases lt8 h with rfl | rfl | rfl | rfl | rfl | rfl | rfl | rfl <;> rfl
end
theorem wI {α h:Type} (f:α->h) (g:Nat->α) (k:Nat) (x:α):(fun i=>f (upd g k x i))=upd (fun i=>f (g i)) k (f x):=by
 funext i; unfold upd; split <;> rfl
theorem upd_same {α j:Type} (f:α->j) (g:Nat->α) (k:Nat) (x:α) (h:f x=f (g k)):(fun i=>f (upd g k x i))=fun i=>f (g i):=by
 funext i; unfold upd; split
 · subst_vars; exact h
 · rfl
def ow (got:Nat->List UInt8) (far:Nat->Nat) (cs:Nat->bE):List Value:=
 tl5 (fun i=>.string (BA (got i))) (fun i=>.int .i64 (far i:Int)) (fun i=>.bool (cs i).closed) (fun i=>.bool (cs i).aG) (fun i=>.string (BA (cs i).waits))
abbrev aR (w:World) (g:Nat) (got:Nat->List UInt8) (far:Nat->Nat) (H:cX) (x:StA):Prop:=gO (ow got far H.cs) w 51 g H.st x H.now
section
variable {w w':World} {g k:Nat} {got:Nat->List UInt8} {far:Nat->Nat} {H:cX} {x:StA}
theorem gO.Eu {tl:List Value} {T:TypeId} {st:ah} {now:Int} (h:gO tl w T g st x now) (j:Nat):w.cell? ⟨g,5+j,none⟩=tl[j]?:=by
 rw [h.blk.cell]
 show (List.toArray _)[5+j]? = _
 rw [List.getElem?_toArray,show 5+j=j+1+1+1+1+1 by omega];simp only [List.getElem?_cons_succ]
theorem gO.Le {tl:List Value} {T:TypeId} {st:ah} {now:Int} (h:gO tl w T g st x now) (j:Nat) (v:Value):gO (tl.set j v) (sQ w g (5+j) v) T g st x now:=by
 have f:=aQ w g (5+j) v;refine⟨Blk.eq (h.blk.set (5+j) v) ?_,(h.at_.qZ h.far f).more f.size,h.ok,h.t,h.far⟩
 show (List.toArray _).setIfInBounds (5+j) v=List.toArray _
 rw [List.setIfInBounds_toArray,show 5+j=j+1+1+1+1+1 by omega];simp only [List.set_cons_succ]
theorem aR.gotK (h:aR w g got far H x) (f:k<8):ζ w g (5+k) (.string (BA (got k))):=(h.Eu k).trans (P1 f)
theorem aR.far_ (h:aR w g got far H x) (f:k<8):ζ w g (13+k) (.int .i64 (far k:Int)):=by have:=(h.Eu (8+k)).trans (P2 f); rwa [show 5+(8+k)=13+k by omega] at this
theorem aR.closed (h:aR w g got far H x) (f:k<8):ζ w g (21+k) (.bool (H.cs k).closed):=by have:=(h.Eu (16+k)).trans (P3 f); rwa [show 5+(16+k)=21+k by omega] at this
theorem aR.aG (h:aR w g got far H x) (f:k<8):ζ w g (29+k) (.bool (H.cs k).aG):=by have:=(h.Eu (24+k)).trans (P4 f); rwa [show 5+(24+k)=29+k by omega] at this
theorem aR.waits (h:aR w g got far H x) (f:k<8):ζ w g (37+k) (.string (BA (H.cs k).waits)):=by have:=(h.Eu (32+k)).trans (P5 f); rwa [show 5+(32+k)=37+k by omega] at this
theorem aR.O5 (h:aR w g got far H x) (f:k<8) (l:List UInt8):aR (sQ w g (5+k) (.string (BA l))) g (upd got k l) far H x:=by
 have:=h.Le k (.string (BA l));rw [ow,OY f,<- wI (fun l=>Value.string (BA l))] at this;exact this
theorem aR.O6 (h:aR w g got far H x) (f:k<8) (n:Nat):aR (sQ w g (13+k) (.int .i64 (n:Int))) g got (upd far k n) H x:=by
 have:=h.Le (8+k) (.int .i64 (n:Int));rw [ow,OZ f,<- wI (fun n:Nat=>Value.int .i64 (n:Int)),show 5+(8+k)=13+k by omega] at this;exact this
theorem aR.Ju (h:aR w g got far H x) (j:k<8) (c:bE) (f:c.aG=(H.cs k).aG) (i:c.waits=(H.cs k).waits):aR (sQ w g (21+k) (.bool c.closed)) g got far { H with cs:=upd H.cs k c } x:=by
 have:=h.Le (16+k) (.bool c.closed);rw [ow,O0 j,<- wI (fun c:bE=>Value.bool c.closed),show 5+(16+k)=21+k by omega,<- upd_same (fun c:bE=>Value.bool c.aG) H.cs k c (congrArg Value.bool f),<- upd_same (fun c:bE=>Value.string (BA c.waits)) H.cs k c (congrArg (fun l=>Value.string (BA l)) i)] at this;exact this
theorem aR.Ev (h:aR w g got far H x) (j:k<8) (c:bE) (f:c.closed=(H.cs k).closed) (i:c.waits=(H.cs k).waits):aR (sQ w g (29+k) (.bool c.aG)) g got far { H with cs:=upd H.cs k c } x:=by
 have:=h.Le (24+k) (.bool c.aG);rw [ow,O3 j,<- wI (fun c:bE=>Value.bool c.aG),show 5+(24+k)=29+k by omega,<- upd_same (fun c:bE=>Value.bool c.closed) H.cs k c (congrArg Value.bool f),<- upd_same (fun c:bE=>Value.string (BA c.waits)) H.cs k c (congrArg (fun l=>Value.string (BA l)) i)] at this;exact this
theorem aR.AT (h:aR w g got far H x) (j:k<8) (c:bE) (f:c.closed=(H.cs k).closed) (i:c.aG=(H.cs k).aG):aR (sQ w g (37+k) (.string (BA c.waits))) g got far { H with cs:=upd H.cs k c } x:=by
 have:=h.Le (32+k) (.string (BA c.waits));rw [ow,O4 j,<- wI (fun c:bE=>Value.string (BA c.waits)),show 5+(32+k)=37+k by omega,<- upd_same (fun c:bE=>Value.bool c.closed) H.cs k c (congrArg Value.bool f),<- upd_same (fun c:bE=>Value.bool c.aG) H.cs k c (congrArg Value.bool i)] at this;exact this
end
def kN (g:Nat) (got:Nat->List UInt8) (far:Nat->Nat) (H:cX) (v:Value) (w:World) (e:Ending) (w':World):Prop:=
 e = .returned v/\∃ x,aR w' g got far H x/\w.grownBy w' (some g)
theorem gO.drew {tl:List Value} {w:World} {T:TypeId} {B:Nat} {st:ah} {x:StA} {now:Int} (h:gO tl w T B st x now):gO tl w.drew T B st x now:=⟨h.blk,h.at_.drew,h.ok,h.t,h.far⟩
theorem kN.drew {g:Nat} {got:Nat->List UInt8} {far:Nat->Nat} {H:cX} {v:Value} {w w':World} {e:Ending} (h:kN g got far H v w e w'):kN g got far H v w e w'.drew:=by
 obtain⟨i,x,j,f⟩:=h;exact⟨i,x,j.drew,f.os,f.tape,f.output,f.size,f.block⟩
theorem Cb {g k:Nat} {got:Nat->List UInt8} {far:Nat->Nat} {H:cX} {x:StA} (kind:Nat) (p:ByteArray) (w:World) (n:aR w g got far H x) (C:k<8) (I:1<=kind/\kind<=4) (u:p.size<=6000) (N:(H.cs k).waits.length<=35184372088832) :
 ψ 32 #[π g 0,(k:Int),(kind:Int),p] w (kN g got far { H with cs:=upd H.cs k (uG kind p (H.cs k)) } (.tuple #[]) w):=by
 have B:=Lc (kind:=(kind:Int)) (by omega) u;have i:=ω (M9 B w);have J:=pW 3 kind p.data.toList (by simpa using u);have r:(uG kind p (H.cs k)).waits=(H.cs k).waits ++ pR 3 kind p.data.toList:=rfl;rw [Int.toNat_natCast] at i;generalize pR 3 kind p.data.toList=L at i J r;obtain⟨s,j⟩:∃ s,BA L=s:=⟨_,rfl⟩;rw [j] at i;have U:s.size=L.length:=by rw [<- j]; exact jA L
 have G:=ω j;have E:=ω r;have y:=ω n;have P:=n.blk.lt;clear B r j n u I;go_enter Tryz.func32,Tryz.ntmps32
 go_wp2_with fail
 refine i.mono ?_;rintro e m ⟨rfl,o⟩;have h:=ω (y.below o);obtain⟨t,l⟩:∃ t,BA (H.cs k).waits=t:=⟨_,rfl⟩;have X:ζ m g (37+k) (.string t):=by rw [<- l]; exact aR.waits h.z C
 have Y:κ m g (37+k):=h.blk.thaw _;have K:t.size=(H.cs k).waits.length:=by rw [<- l]; exact jA _
 have S:¬ 9223372036854775807<t.size+s.size:=by omega
 have T:t.size+s.size<=9223372036854775807:=by omega
 have M:=h.blk.lt
 have F:=ω (show kN g got far { H with cs:=upd H.cs k (uG kind p (H.cs k)) } (.tuple #[]) w (.returned (.tuple #[])) (sQ m g (37+k) (.string (t ++ s))) from by
  have z:=aR.AT h.z C (uG kind p (H.cs k)) rfl rfl;rw [E.z,show BA ((H.cs k).waits ++ L)=t ++ s from by rw [<- l,<- G.z]; exact ByteArray.ext (by rw [ByteArray.data_append]; simp [BA])] at z;exact⟨rfl,x,z,aP (grown_of g o) (aQ m g (37+k) _)⟩)
 clear o i y h l K;go_wp2
 go_region
 go_end0;exact F.drew
theorem rL {g k:Nat} {got:Nat->List UInt8} {far:Nat->Nat} {H:cX} {x:StA} (E:Int) (w:World) (i:aR w g got far H x) (I:k<8) (J:(H.cs k).waits.length<=35184372088832) :
 ψ 28 #[π g 0,(k:Int),E] w (kN g got far { H with cs:=upd H.cs k (iV E H.st.rev (H.cs k)) } (.tuple #[]) w):=by
 have h:=ω (Gh E H.st.rev w);have c0:ζ w g 0 (.int .i64 H.st.rev):=i.blk.cell 0;have K:=nV E H.st.rev;have l:=ω (fun j (G:aR j g got far H x)=>Cb (k:=k) 4 (gP E H.st.rev).1 j G I (by decide) (by omega) J);unfold AU at h;have B:iV E H.st.rev (H.cs k)=uG 4 (gP E H.st.rev).1 (H.cs k):=rfl;rw [B];obtain⟨s,n⟩:∃ s,(gP E H.st.rev).1=s:=⟨_,rfl⟩;obtain⟨o,z⟩:∃ o,(gP E H.st.rev).2=o:=⟨_,rfl⟩;rw [n,z] at h;rw [n] at l |-;have t:=ω i;have N:=i.blk.lt;clear i n z B K;go_enter Tryz.func28,Tryz.ntmps28
 go_wp2_with fail
 refine h.mono ?_;rintro e j ⟨rfl,m⟩;have r:=ω (l.z j (t.below m));have C:=ω m;clear m h l t c0
 go_wp2_with fail
 refine r.mono ?_;rintro e L ⟨rfl,M,y,u⟩;have F:=ω (show kN g got far { H with cs:=upd H.cs k (uG 4 s (H.cs k)) } (.tuple #[]) w (.returned (.tuple #[])) L from ⟨rfl,M,y,aP (grown_of g C.z) u⟩);clear y u r;go_wp2;go_end0;exact F
theorem Cc {g k:Nat} {got:Nat->List UInt8} {far:Nat->Nat} {H:cX} {x:StA} (w:World) (n:aR w g got far H x) (C:k<8) (U:(H.cs k).waits.length<=35184372088832) :
 ψ 30 #[π g 0,(k:Int)] w (kN g got far { H with cs:=upd H.cs k (uw (tlW H.st) (H.cs k)) } (.tuple #[]) w):=by
 obtain⟨c0,P,c2,S⟩:=Blk.c4 n.blk;have j:=vV.2 H.st x 3 w n.at_;have N:=yc H.st;have M:∀ l,(uw l (H.cs k)).waits=(H.cs k).waits ++ l:=fun _=>rfl;have m:=ω (show tlW H.st=if (lg H.st 3).2=0 then (lg H.st 3).1.data.toList else pR 3 4 (gP 2 H.st.rev).1.data.toList from rfl);have y:=ω (fun h (T:aR h g got far H x)=>rL (k:=k) 2 h T C U);unfold q8 at j;obtain⟨s,G⟩:∃ s,(lg H.st 3).1=s:=⟨_,rfl⟩;obtain⟨E,L⟩:∃ E,(lg H.st 3).2=E:=⟨_,rfl⟩;rw [G,L] at j m;rw [G] at N;unfold stC at j;have j:=ω j;have J:=ω n;have aa:=n.blk.lt;clear n G L;go_enter Tryz.func30,Tryz.ntmps30
 go_wp2_with fail
 refine j.mono ?_;rintro e h ⟨rfl,B⟩;have i:=ω (J.below B);have z:=ω B;have Jv:=i.blk.lt;clear B j J c0 P c2 S;by_cases r:E=0
 · subst r;rw [if_pos rfl] at m;obtain⟨t,u⟩:∃ t,BA (H.cs k).waits=t:=⟨_,rfl⟩;have y0:ζ h g (37+k) (.string t):=by rw [<- u]; exact aR.waits i.z C
   have z0:κ h g (37+k):=i.blk.thaw _;have X:t.size=(H.cs k).waits.length:=by rw [<- u]; exact jA _
   have ab:¬ 9223372036854775807<t.size+s.size:=by omega
   have ac:t.size+s.size<=9223372036854775807:=by omega
   have F:=ω (show kN g got far { H with cs:=upd H.cs k (uw (tlW H.st) (H.cs k)) } (.tuple #[]) w (.returned (.tuple #[])) (sQ h g (37+k) (.string (t ++ s))) from by
    have o:=aR.AT i.z C (uw (tlW H.st) (H.cs k)) rfl rfl;rw [M,m.z,show BA ((H.cs k).waits ++ s.data.toList)=t ++ s from by rw [<- u]; exact ByteArray.ext (by rw [ByteArray.data_append]; simp [BA])] at o;rw [m.z];exact⟨rfl,x,o,aP (grown_of g z.z) (aQ h g (37+k) _)⟩)
   clear i u X z y N M;go_wp2
   go_region
   go_end0;exact F.drew
 · rw [if_neg r] at m;have d0:(E == 0)=false:=beq_eq_false_iff_ne.2 r;have I:=ω (y.z h i.z);clear r y i
   go_wp2_with fail
   refine I.mono ?_;rintro e Y ⟨rfl,Z,o,K⟩;have F:=ω (show kN g got far { H with cs:=upd H.cs k (uw (tlW H.st) (H.cs k)) } (.tuple #[]) w (.returned (.tuple #[])) Y from ⟨rfl,Z,by rw [m.z]; exact o,aP (grown_of g z.z) K⟩);clear o K I;go_wp2;go_end0;exact F
theorem gO.other {tl:List Value} {w w':World} {T j:TypeId} {B f:Nat} {st:ah} {x:StA} {now:Int} {cs:Array Value} (h:gO tl w T B st x now) (l:Blk w f j cs) (m:gJ cs) (i:w.grownBy w' (some f)) (n:B≠f):gO tl w' T B st x now:=
 ⟨ay i h.blk n,(h.at_.gy l m i).more i.size,h.ok,h.t,h.far⟩
def Na (g k:Nat) (h s:ByteArray) (f m e:Nat) (γ:Option (Option Addr × Nat × Nat)):Nat->Value->Prop
 | 0,u=>u = π g 0
 | 1,u=>u = .int .i64 (k:Int)
 | 2,u=>u = π g 0
 | 3,u=>u = π g 5
 | 4,u=>u = π g (5+k)
 | 5,u=>u = .string h
 | 6,u=>u = π g 0
 | 7,u=>u = .int .i64 (k:Int)
 | 8,u=>u = π g 0
 | 9,u=>u = π g 13
 | 10,u=>u = π g (13+k)
 | 11,u=>u = .int .i64 (f:Int)
 | 12,u=>u = .string s
 | 13,u=>∃ q,γ=some q/\u = .tuple #[.slice q.1 q.2.1 q.2.2,.int .i64 (m:Int),.int .i64 (e:Int)]
 | 14,u=>∃ q,γ=some q/\u = .tuple #[.slice q.1 q.2.1 q.2.2,.int .i64 (m:Int),.int .i64 (e:Int)]
 | 15,u=>∃ q,γ=some q/\u = .slice q.1 q.2.1 q.2.2
 | 16,u=>u = .int .i64 (m:Int)
 | 17,u=>u = .int .i64 (e:Int)
 | 18,u=>∃ q,γ=some q/\u = .slice q.1 q.2.1 q.2.2
 | 19,u=>u = .int .i64 (m:Int)
 | 20,u=>u = .int .i64 (e:Int)
 | _,_=>True
theorem Lf {g k:Nat} {i s:ByteArray} {f m e:Nat} {q:Option Addr × Nat × Nat}:∀ j v,j≠13->Na g k i s f m e none j v->Na g k i s f m e (some q) j v:=by
 intro j v n h;unfold Na at *
 split at h
 all_goals first | exact h | exact absurd rfl n | (obtain⟨_,l,_⟩:=h; cases l)
structure Nb (W:World) (fs:List cL) (p:Nat) (γ:Option (Option Addr × Nat × Nat)) (w:World):Prop where
 below:Below W W w
 none_:p=0->γ=none
 row:0<p->∃ q:Option Addr × Nat × Nat,γ=some q/\fs.length=q.2.1/\w.ownsRow W 69 3 (.slice q.1 q.2.1 q.2.2) q.2.1 (au zx fs)
structure DoG where
 N:Option Nat
 M:Option Nat
 y:Option (eG × StA)
def doV (g Q:Nat) (q:aL) (R:mF) (D:aY) (γ:DoG):Nat->Value->Prop
 | 0,u=>u = π g 0
 | 1,u=>u = π g 0
 | 2,u=>u = π g 0
 | 3,u=>u = .agg (aT q)
 | 4,u=>∃ d,γ.y=some d/\u = .tuple #[.agg #[.int .i64 R.e,.int .i64 R.st.rev],.agg (dC D d.1),.bool R.ch]
 | 5,u=>∃ d,γ.y=some d/\u = .tuple #[.agg #[.int .i64 R.e,.int .i64 R.st.rev],.agg (dC D d.1),.bool R.ch]
 | 6,u=>u = .agg #[.int .i64 R.e,.int .i64 R.st.rev]
 | 7,u=>∃ d,γ.y=some d/\u = .agg (dC D d.1)
 | 8,u=>u = .bool R.ch
 | 9,u=>∃ N,γ.N=some N/\u = π N 0
 | 10,u=>∃ M,γ.M=some M/\u = π M 0
 | 13,u=>u = .bool R.ch
 | _,_=>True
section
variable {g Q:Nat} {q:aL} {R:mF} {D:aY} {γ:DoG}
theorem P6 (N:Option Nat):∀ j v,j≠9->doV g Q q R D γ j v->doV g Q q R D ⟨N,γ.M,γ.y⟩ j v:=by
 intro j v f h; unfold doV at *; split at h
 all_goals first | exact h | exact absurd rfl f
theorem P7 (M:Option Nat):∀ j v,j≠10->doV g Q q R D γ j v->doV g Q q R D ⟨γ.N,M,γ.y⟩ j v:=by
 intro j v f h; unfold doV at *; split at h
 all_goals first | exact h | exact absurd rfl f
theorem P8 (l:γ.y=none) (y:Option (eG × StA)):∀ j v,j≠4->doV g Q q R D γ j v->doV g Q q R D ⟨γ.N,γ.M,y⟩ j v:=by
 intro j v i h; unfold doV at *; split at h
 all_goals first | exact h | exact absurd rfl i | (obtain⟨_,f,_⟩:=h; rw [l] at f; cases f)
end
structure DoP (W:World) (g Q:Nat) (tl:List Value) (st:ah) (x:StA) (now:Int) (q:aL) (R:mF) (D:aY) (p:Nat) (γ:DoG) (w:World):Prop where
 gr:W.grownBy w (some g)
 lt:g<W.heap.size
 q:Blk w Q 88 (aT q)
 qg:Q<W.heap.size/\Q≠g
 h0:p=0->γ.y=none/\gO tl w 51 g st x now
 h1:0<p->∃ d,γ.y=some d/\gO tl w 51 g R.st d.2 R.now/\dB w w D d.1/\zZ g d.1
 n:∀ N,γ.N=some N->W.heap.size<=N/\Blk w N 93 (if p<2 then #[(0:Int),(0:Int)] else #[R.e,R.st.rev])
 m:∀ M,γ.M=some M->W.heap.size<=M/\(p<3->Blk w M 95 eS)/\(3<=p->∃ d,γ.y=some d/\Blk w M 95 (dC D d.1))
section
variable {W w w':World} {g Q:Nat} {tl:List Value} {st:ah} {x:StA} {now:Int} {q:aL} {R:mF} {D:aY} {p:Nat} {γ:DoG}
theorem DoP.hlt (h:DoP W g Q tl st x now q R D p γ w):g<w.heap.size:=uI h.lt h.gr.size
theorem DoP.drew (h:DoP W g Q tl st x now q R D 0 γ w):DoP W g Q tl st x now q R D 0 γ w.drew:=
 ⟨⟨h.gr.os,h.gr.tape,h.gr.output,h.gr.size,h.gr.block⟩,h.lt,h.q,h.qg,fun f=>⟨(h.h0 f).1,(h.h0 f).2.drew⟩,fun f=>absurd f (by decide),h.n,h.m⟩
theorem DoP.keep (h:DoP W g Q tl st x now q R D p γ w) (f:w.grownBy w' (some g)):W.grownBy w' (some g)/\Blk w' Q 88 (aT q)/\(∀ N,γ.N=some N->W.heap.size<=N/\Blk w' N 93 (if p<2 then #[(0:Int),(0:Int)] else #[R.e,R.st.rev])) /\
 ∀ M,γ.M=some M->W.heap.size<=M/\(p<3->Blk w' M 95 eS)/\(3<=p->∃ d,γ.y=some d/\Blk w' M 95 (dC D d.1)):=by
 have u:=h.lt;refine⟨aP h.gr f,ay f h.q h.qg.2,fun N e=>⟨(h.n N e).1,ay f (h.n N e).2 (by have:=(h.n N e).1; omega)⟩,fun M e=>?_⟩;obtain⟨o,r,s⟩:=h.m M e;refine⟨o,fun i=>ay f (r i) (by omega),fun i=>?_⟩;obtain⟨d,j,l⟩:=s i;exact⟨d,j,ay f l (by omega)⟩
theorem DoP.call (h:DoP W g Q tl st x now q R D 0 γ w) (m:w.grownBy w' (some g)) {dx:eG} {x':StA} (n:gO tl w' 51 g R.st x' R.now) (j:dB w' w' D dx) (l:zZ g dx):DoP W g Q tl st x now q R D 1 ⟨γ.N,γ.M,some (dx,x')⟩ w':=by
 obtain⟨o,r,s,i⟩:=h.keep m;exact⟨o,h.lt,r,h.qg,fun f=>absurd f (by decide),fun _=>⟨(dx,x'),rfl,n,j,l⟩,s,fun M e=>⟨(i M e).1,fun _=>(i M e).2.1 (by decide),fun f=>absurd f (by decide)⟩⟩
theorem DoP.alloc (h:DoP W g Q tl st x now q R D p γ w) (f:p<2) (o:Obj) (N M:Option Nat) (z:∀ n,N=some n->γ.N=some n\/(n=w.heap.size/\o = .cells #[(0:Int),(0:Int)] 93)) (u:∀ n,M=some n->γ.M=some n\/(n=w.heap.size/\o = .cells eS 95)):DoP W g Q tl st x now q R D p ⟨N,M,γ.y⟩ (w.alloc o):=by
 have i:Below w w (w.alloc o):=(θ).alloc lQ _;obtain⟨A,B,C,E⟩:=h.keep (grown_of g i);have j:=h.gr.size;refine⟨A,h.lt,B,h.qg,fun f=>⟨(h.h0 f).1,(h.h0 f).2.below i⟩,fun f=>?_,fun n e=>?_,fun n e=>?_⟩
 · obtain⟨d,l,m,r,s⟩:=h.h1 f;exact⟨d,l,m.below i,r.upS i,s⟩
 · rcases z n e with e | ⟨rfl,rfl⟩
   · exact C n e
   · rw [if_pos f];exact⟨j,n5 w _⟩
 · rcases u n e with e | ⟨rfl,rfl⟩
   · exact E n e
   · exact⟨j,fun _=>n5 w _,fun f=>by omega⟩
theorem DoP.O7 (h:DoP W g Q tl st x now q R D 1 γ w) {N:Nat} (l:γ.N=some N) (f:w.grownBy w' (some N)) (B:Blk w' N 93 #[R.e,R.st.rev]):DoP W g Q tl st x now q R D 2 γ w':=by
 obtain⟨s,i⟩:=h.n N l;rw [if_pos (by decide)] at i;have C:=h.lt;have o:gJ #[(0:Int),(0:Int)]:=gG 0 0;obtain⟨d,u,y,z,A⟩:=h.h1 (by decide);refine⟨tP h.gr f s,C,ay f h.q (by have:=h.qg.1; omega),h.qg,fun j=>absurd j (by decide),fun _=>⟨d,u,y.other i o f (by omega),(z.gy i o f).more f.size,A⟩,fun n e=>?_,fun M e=>?_⟩
 · rw [l] at e;injection e with e;subst e;exact⟨s,B⟩
 · obtain⟨E,r,_⟩:=h.m M e;exact⟨E,fun _=>ay f (r (by decide)) (bC (r (by decide)) i (by decide)),fun j=>absurd j (by decide)⟩
theorem DoP.O8 (h:DoP W g Q tl st x now q R D 2 γ w) {M:Nat} {d:eG × StA} (o:γ.M=some M) (E:γ.y=some d) (f:w.grownBy w' (some M)) (F:Blk w' M 95 (dC D d.1)):DoP W g Q tl st x now q R D 3 γ w':=by
 obtain⟨s,i,_⟩:=h.m M o;have i:=i (by decide);have G:=h.lt;have r:gJ eS:=qY zD zA;obtain⟨u,z,A,B,C⟩:=h.h1 (by decide);refine⟨tP h.gr f s,G,ay f h.q (by have:=h.qg.1; omega),h.qg,fun j=>absurd j (by decide),fun _=>⟨u,z,A.other i r f (by omega),(B.gy i r f).more f.size,C⟩,fun n e=>?_,fun n e=>?_⟩
 · obtain⟨I,l⟩:=h.n n e;rw [if_neg (by decide)] at l |-;exact⟨I,ay f l (bC l i (by decide))⟩
 · rw [o] at e;injection e with e;subst e;exact⟨s,fun j=>absurd j (by decide),fun _=>⟨d,E,F⟩⟩
end
def Ew (a:lP):List Value:=[.int .i64 a.conn,.string a.text]
theorem qO (a:lP):(Ew a).length=2:=rfl
def tu (O:Nat->List UInt8):Array Value:=#[.string (BA (O 0)),.string (BA (O 1)),.string (BA (O 2)),.string (BA (O 3)),.string (BA (O 4)),.string (BA (O 5)),.string (BA (O 6)),.string (BA (O 7))]
theorem zM {O:Nat->List UInt8} {k:Nat} (h:k<8):(tu O)[k]? = some (.string (BA (O k))):=by rcases lt8 h with rfl | rfl | rfl | rfl | rfl | rfl | rfl | rfl <;> rfl
theorem Ex {O:Nat->List UInt8} {k:Nat} (h:k<8) (t:List UInt8):(tu O).setIfInBounds k (.string (BA t))=tu (upd O k t):=by
 rcases lt8 h with rfl | rfl | rfl | rfl | rfl | rfl | rfl | rfl <;> simp [tu,upd]
theorem Ey {O:Nat->List UInt8}:∀ v ∈ tu O,∃ s,v = .string s:=by
 intro v f;simp only [tu,List.mem_toArray,List.mem_cons,List.not_mem_nil,or_false] at f;rcases f with rfl | rfl | rfl | rfl | rfl | rfl | rfl | rfl <;> exact⟨_,rfl⟩
theorem bg.Gi {W o:World} {B g sz n:Nat} {J:TypeId} {cs:Array Value} {A:Option Addr} {xs:List Value} (h:bg W B sz A n xs) (u:Blk W g J cs) (z:∀ v ∈ cs,∃ s,v = .string s) (r:0<n->∃ (j:Nat) (i:Int),xs[j]? = some (.int .i64 i)) (C:W.grownBy o (some g)):bg o B sz A n xs:=
 ⟨h.len,fun l=>by
  obtain⟨b,I,e,t,m⟩:=h.at_ l;obtain⟨j,i,E⟩:=r l;have f:=m j _ E
  have y:b≠g:=fun e=>by
   subst e;rw [u.cell] at f;obtain⟨s,F⟩:=z _ (Array.mem_of_getElem? f);cases F
  exact⟨b,I,e,t,fun j K G=>C.cell (m j K G) (fun e=>y (by simpa using e))⟩⟩
theorem StAt.Nc {W r:World} {B g:Nat} {t:TypeId} {cs:Array Value} {s:ah} {x:StA} (h:StAt W B s x) (i:Blk W g t cs) (m:∀ v ∈ cs,∃ s,v = .string s) (o:W.grownBy r (some g)):StAt r B s x:=
 ⟨h.j.Gi i m (fun f=>by obtain⟨a,ha⟩:=tZ (enc:=aS) h.lj f; exact⟨1,_,ha 1 _ rfl⟩) o,
  h.n.Gi i m (fun f=>by obtain⟨a,ha⟩:=tZ (enc:=aH) h.ln f; exact⟨1,_,ha 1 _ rfl⟩) o,
  h.l.Gi i m (fun f=>by obtain⟨a,ha⟩:=tZ (enc:=aB) h.ll f; exact⟨2,_,ha 2 _ rfl⟩) o,
  h.lj,h.ln,h.ll,h.bj,h.bn,h.bl,h.oj,h.on_,h.ol⟩
theorem cK.Nc {w w':World} {g V b:Nat} {fb:Nat->Nat} {wv:Nat->Value} {cs:Nat->bE} {st:ah} {x:StA} {now:Int} {c:Array Value} (h:cK w g V fb wv cs st x now) (i:Blk w b 9 c) (n:∀ v ∈ c,∃ s,v = .string s) (f:w.grownBy w' (some b)):cK w' g V fb wv cs st x now:=
 ⟨ay f h.blk (bC h.blk i (by decide)),⟨ay f h.srv.blk (bC h.srv.blk i (by decide)),(h.srv.at_.Nc i n f).more f.size,h.srv.ok,h.srv.t⟩,fun l j=>ay f (h.feed l j) (bC (h.feed l j) i (by decide)),fun l j=>(h.wait l j).keep fun q o=>by
  obtain⟨r,m,_⟩:=(h.wait l j).blk o;exact f.block q m.lt (fun e=>by injection e with e; exact bC i m (by decide) e.symm),h.fbi,h.wvi⟩
structure vA (w0:World) (g V:Nat) (fb:Nat->Nat) (b:Nat) (H:cX) (O:Nat->List UInt8) (wv:Nat->Value) (x:StA) (w:World):Prop where
 hub:cK w g V fb wv H.cs H.st x H.now
 inn:oK w0 w g V fb wv
 otx:Blk w b 9 (tu O)
 ap:¬ sZ g V fb wv b
 lo:w0.heap.size<=b
section
variable {w0 w w':World} {g V b:Nat} {fb:Nat->Nat} {wv wv':Nat->Value} {H H':cX} {O:Nat->List UInt8} {x x':StA}
theorem vA.sent (h:vA w0 g V fb b H O wv x w) (j:dS g V fb wv wv' w w') (m:cK w' g V fb wv' H'.cs H'.st x' H'.now):vA w0 g V fb b H' O wv' x' w':=by
 refine⟨m,h.inn.to j,j.gr.blk h.otx h.ap,fun n=>?_,h.lo⟩;rcases n with e | e | ⟨l,i,e | e⟩
 · exact h.ap (.inl e)
 · exact h.ap (.inr (.inl e))
 · exact h.ap (.inr (.inr ⟨l,i,.inl e⟩))
 · rcases j.own l i with f | f | ⟨q,f,o⟩
   · rw [f] at e; cases e
   · rw [f] at e; exact h.ap (.inr (.inr ⟨l,i,.inr e⟩))
   · rw [f] at e;injection e with e;have:=h.otx.lt;omega
theorem vA.below (h:vA w0 g V fb b H O wv x w) (f:Below w w w'):vA w0 g V fb b H O wv x w':=h.sent ((dS.refl g V fb wv w).below_ f) (h.hub.below f)
theorem vA.set (h:vA w0 g V fb b H O wv x w) {k:Nat} (i:k<8) (t:List UInt8):vA w0 g V fb b H (upd O k t) wv x (sQ w b k (.string (BA t))):=by
 have f:=aQ w b k (.string (BA t));refine⟨h.hub.Nc h.otx Ey f,⟨cR h.inn.base f h.lo,h.inn.tabs,h.inn.lo⟩,?_,h.ap,h.lo⟩;rw [<- Ex i];exact h.otx.set _ _
end
def flN (H:cX) (n:Nat):cX:=⟨H.st,H.now,fun i=>if i<n then xI (H.cs i) else H.cs i⟩
def tA (S:mK) (k:Nat):List UInt8:=S.O k ++ (S.H.cs k).waits
def yg (S:mK) (n:Nat):Nat->List UInt8:=fun i=>if i<n then tA S i else S.O i
theorem Lg (H:cX):flN H 0=H:=by
 obtain⟨st,now,f⟩:=H;unfold flN
 congr 1
theorem O9 (H:cX) (n:Nat):(flN H n).cs n=H.cs n:=by
 show (if n<n then _ else _)=_
 rw [if_neg (by omega)]
theorem Lh (H:cX) (n:Nat):oF (flN H n) n=flN H (n+1):=by
 unfold oF flN
 congr 1
 funext i
 dsimp only;unfold upd;by_cases h:i=n
 · subst h;rw [if_pos rfl,if_neg (by omega),if_pos (by omega)]
 · rw [if_neg h];dsimp only;by_cases f:i<n
   · rw [if_pos f,if_pos (by omega)]
   · rw [if_neg f,if_neg (by omega)]
theorem Cd (S:mK):yg S 0=S.O:=by
 funext i; unfold yg; rw [if_neg (by omega)]
theorem Im (S:mK) (n:Nat):yg S n n=S.O n:=by
 unfold yg; rw [if_neg (by omega)]
theorem Ce (S:mK) (n:Nat):upd (yg S n) n (S.O n ++ (S.H.cs n).waits)=yg S (n+1):=by
 funext i
 unfold yg upd;by_cases h:i=n
 · subst h; rw [if_pos rfl,if_pos (by omega)]; rfl
 · rw [if_neg h];dsimp only;by_cases f:i<n
   · rw [if_pos f,if_pos (by omega)]
   · rw [if_neg f,if_neg (by omega)]
theorem Ez (S:mK):tu (yg S 8)=tu (tA S):=by simp [tu,yg]
theorem Nd:(Tryz.prog.info? 9).map (fun i=>(i.zero,i.size,i.bytes))=some (some (.string ⟨#[]⟩),1,16):=by kernel_rfl
theorem Oc (W:World):(Instr.makeSlice 28 (.int .i64 8) (.int .i64 8)).run Tryz.prog W = .ok (.slice (some ⟨W,0,none⟩) 8 8) (χ W (tu fun _=>[]) 9):=by
 obtain⟨m,i,j,f,l⟩:=info_parts Nd;have h:=run_makeSlice (P:=Tryz.prog) (w:=W) 28 9 m _ Tryz.underlying28 i j .i64 .i64 8 8 (by omega) (by omega) (by rw [f]; decide) (by rw [l]; decide) (by omega);rw [f,show madeCells (Value.cells (.string ⟨#[]⟩)) (Int.toNat 8*1)=tu (fun _=>[]) from Array.ext' (by simp [madeCells,tu,BA,Value.cells,List.range,List.range.loop])] at h;exact h
theorem wJ (l:List UInt8) (t:ByteArray):BA l ++ t=BA (l ++ t.data.toList):=ByteArray.ext (by rw [ByteArray.data_append]; simp [BA])
noncomputable def pyT (st:ah) (acts:List lP) (k:Nat):mK:=oJ tlW rqF ⟨qG st,fun _=>[]⟩ (acts.take k)
theorem EA {st:ah} {f:List lP} {k:Nat} {a:lP} (h:f[k]? = some a):pyT st f (k+1)=stepT tlW rqF (pyT st f k) a:=by
 obtain⟨hlt,e⟩:=List.getElem?_eq_some_iff.1 h;unfold pyT;rw [List.take_succ_eq_append_getElem hlt,Af,e]
def lJ (st:ah) (f:List lP) (w:World) (e:Ending) (w':World):Prop:=
 Below w w w'/\((aE st≠0/\e = .returned (.tuple #[.slice none 0 0,(aE st)]))\/(aE st=0/\60<f.length/\e = .returned (.tuple #[.slice none 0 0,(2:Int)])) \/
  (aE st=0/\f.length<=60/\∃ b,e = .returned (.tuple #[.slice (some ⟨b,0,none⟩) 8 8,(0:Int)])/\w.heap.size<=b/\Blk w' b 9 (tu (tA (oJ tlW rqF ⟨qG st,fun _=>[]⟩ f)))))
theorem rok0:ROk gF:=⟨by decide,by decide,by decide,by decide,by decide,by decide,by decide⟩
theorem AV (b:ByteArray) (i:b.size<=9223372036854775807):ROk (rqF b).1:=by
 rcases AL b i with ⟨x,_,_,h⟩ | ⟨q,s,f,_,h⟩
 · rw [h]; exact rok0
 · rw [h]
   split
   · exact zK f
   · exact rok0
theorem EB {g V k:Nat} {fb:Nat->Nat} {wv:Nat->Value} {cs:Nat->bE} {st:ah} {x:StA} {now:Int} (w:World) (p:ByteArray) (n:cK w g V fb wv cs st x now) (r:k<8) (o:(cs k).closed=true) :
 ψ 9 #[π g 0,(k:Int),p] w fun e w'=>e = .returned (.tuple #[.string ⟨#[]⟩,(6:Int)])/\Below w w w':=by
 have j:=ω (Gf g k w r);have m:=ω n;have l:=ω o;clear n o;go_enter Tryz.func9,Tryz.ntmps9
 go_wp2_with fail
 refine j.mono ?_;rintro y t ⟨rfl,i⟩;have h:=m.below i;have z:ζ t g (1+k*4+1) (.bool true):=by rw [h.blk.cell,lX r,l.z]
 have u:=h.blk.lt;have s:=ω i;clear h i j m l;go_wp2;go_ret2;exact⟨rfl,s⟩
theorem Jw (g:Nat) (k:Int) (w:World) (p:ByteArray) (j:k<0\/7<k) :
 ψ 9 #[π g 0,k,p] w fun e w'=>e = .returned (.tuple #[.string ⟨#[]⟩,(1:Int)])/\Below w w w':=by
 have h:=ω (Ne g k w j);clear j;go_enter Tryz.func9,Tryz.ntmps9
 go_wp2_with fail
 refine h.mono ?_;rintro n m ⟨rfl,i⟩;have l:=ω i;clear i h;go_wp2;go_ret2;exact⟨rfl,l⟩
theorem Nf {g V k:Nat} {fb:Nat->Nat} {wv:Nat->Value} {H:cX} {x:StA} (w:World) (r:cK w g V fb wv H.cs H.st x H.now) (h:k<8) :
 ψ 10 #[π g 0,(k:Int)] w (Ep g V fb wv H k w):=by
 have l:=ω (Gf g k w h);have o:=ω r;clear r;go_enter Tryz.func10,Tryz.ntmps10
 go_wp2_with fail
 refine l.mono ?_;rintro z y ⟨rfl,j⟩;have i:=ω (o.below j);have m:=ω ((dS.refl g V fb wv w).below_ j);have s:=ω (tX g (1+k*4) 61 _ (wv k) (H.cs k).waits y i.blk (jy h) (i.wait k h));have n:=ω (i.flush h);have u:=ω (m.trans n.z.2);clear j l o m
 go_wp2_with fail
 refine s.mono ?_;rintro z B ⟨rfl,rfl⟩;go_wp2;go_ret2;exact⟨rfl,_,_,n.z.1,u⟩
def Ng (g V:Nat) (fb:Nat->Nat) (wv:Nat->Value) (S:mK) (a:lP) (w:World) (e:Ending) (w':World):Prop:=
 ∃ (t:ByteArray) (E:Int) (wv':Nat->Value) (x':StA),e = .returned (.tuple #[t,E])/\cK w' g V fb wv' (stepT tlW rqF S a).H.cs (stepT tlW rqF S a).H.st x' (stepT tlW rqF S a).H.now/\dS g V fb wv wv' w w' /\
  ((E=0/\0<=a.conn/\a.conn<=7/\(stepT tlW rqF S a).O=upd S.O a.conn.toNat (S.O a.conn.toNat ++ t.data.toList))\/(E≠0/\(stepT tlW rqF S a).O=S.O))
theorem Li {g V:Nat} {fb:Nat->Nat} {wv:Nat->Value} {x:StA} {P:World} {N b n:Nat} {S:mK} (w:World) (G:yR N b n S) (T:N<=1048576) (L:n<=60) {a:lP} (ha:b+a.text.size<=N) (h:cK w g V fb wv S.H.cs S.H.st x S.H.now) (I:oK P w g V fb wv) :
 ψ 9 #[π g 0,a.conn,a.text] w (Ng g V fb wv S a w):=by
 by_cases r:0<=a.conn/\a.conn<=7
 · obtain⟨k,F⟩:∃ k:Nat,a.conn=k:=⟨a.conn.toNat,by omega⟩;have E:k<8:=by omega
   have y:a.conn.toNat=k:=by omega
   cases m:(S.H.cs k).closed with
   | false=>
    obtain⟨M,X⟩:=G.op k m;obtain⟨s,u⟩:∃ s,(S.H.cs k).rest ++ a.text=s:=⟨_,rfl⟩;have U:s.size=(S.H.cs k).rest.size+a.text.size:=by rw [<- u,ByteArray.size_append]
    have j:stepT tlW rqF S a=⟨oF (je tlW rqF S.H k s (kA s).1 (kA s).2.1 (kA s).2.2) k,upd S.O k (S.O k ++ ((je tlW rqF S.H k s (kA s).1 (kA s).2.1 (kA s).2.2).cs k).waits)⟩:=by
     unfold stepT;rw [y,if_pos ⟨r,m⟩];unfold BY;rw [u]
    have C:=xG s;have t:∀ f ∈ (kA s).1,f.pay.size<=9223372036854775807:=fun f l=>v6 (C.pays f l) (by omega)
    have K:∀ i,i<8->(S.H.cs i).waits.length<=35000000000000:=fun i _=>by
     have z:=G.len i;have B:n*(21000*N+6020)<=60*(21000*1048576+6020):=Nat.mul_le_mul L (by omega);omega
    rw [F];refine (Jl tlW rqF w a.text u C h E I m M (by omega) (by omega) (fun f l _ _ W J=>Gj f.pay W (t f l) J) (fun f l=>AV _ (t f l)) (fun n f l=>Lk (AV _ (t f (m8 l))) _ _) (.inr Lm) wK K).mono ?_;rintro e w' ⟨rfl,wv',x',z,B⟩;refine⟨_,_,wv',x',rfl,?_,B,.inl ⟨rfl,r.1,r.2,?_⟩⟩
    · rw [j]; exact z
    · rw [j,y,tY]
   | true=>
    rw [F];refine (EB w a.text h E m).mono ?_;rintro e w' ⟨rfl,o⟩
    have j:stepT tlW rqF S a=S:=by
     unfold stepT;rw [y,if_neg (fun h=>by rw [h.2] at m; cases m)]
    refine⟨_,_,wv,x,rfl,?_,(dS.refl g V fb wv w).below_ o,.inr ⟨by decide,?_⟩⟩
    · rw [j]; exact h.below o
    · rw [j]
 · refine (Jw g a.conn w a.text (by omega)).mono ?_;rintro e w' ⟨rfl,o⟩
   have j:stepT tlW rqF S a=S:=by
    unfold stepT;rw [if_neg (fun h=>r h.1)]
   refine⟨_,_,wv,x,rfl,?_,(dS.refl g V fb wv w).below_ o,.inr ⟨by decide,?_⟩⟩
   · rw [j]; exact h.below o
   · rw [j]
theorem EC (st:ah) (x:StA) (h:List lP) (A:Option Addr) (n c:Nat) (w:World) (hS:StAt w w st x) (hT:Tabs w) (hq:bg w w 2 A n (au Ew h)) (hl:h.length=n) (hN:iA h<=1048576) :
 ψ 4 #[.agg (stC st x),.slice A n c] w (lJ st h w):=by
 obtain⟨W,hW⟩:∃ W,w.alloc (.cells (stC st x) 26)=W:=⟨_,rfl⟩;have af:Below w w W:=by rw [<- hW]; exact (θ).alloc lQ _
 have B:Blk W w 26 (stC st x):=by rw [<- hW]; exact n5 w _
 have HN:=ω (Lo st x W (hS.upS af) (hT.below af));obtain⟨c0,c1,c2,c3⟩:=Blk.c4 (B);have aq:=B.lt;have T:=ω af;have HW:=ω hW;obtain⟨E,C⟩:∃ E,aE st=E:=⟨_,rfl⟩;have I:=ω C;have HT:=ω hT;have HQ:=ω hq;have r:=ω hl;have Z:=ω hN;clear af B hW C hS hT hq hl hN;unfold stC at HW HN |-;go_enter Tryz.func4,Tryz.ntmps4
 go_wp2_with fail
 try simp only [HW.z]
 clear HW;refine HN.mono ?_;rintro e u ⟨a5,a8⟩;rw [I.z] at a8;have K:=ω (T.trans (a5.mono T.size));clear a5 HN c0 c1 c2 c3 aq;rcases a8 with ⟨ag,rfl⟩ | ⟨a9,g,V,fb,x',rfl,hA,ar⟩
 · have d1:(E != 0)=true:=by simpa using ag
   have d2:(E == 0)=false:=by simpa using ag
   have F:=ω (show lJ st h w (.returned (.tuple #[.slice none 0 0,E])) u from ⟨K,.inl ⟨by rw [I.z]; exact ag,by rw [I.z]⟩⟩);clear ag K I T HT HQ r Z;go_wp2;go_ret2;exact F
 · have aj:=ω (I.trans a9);subst a9;by_cases a0:n<=60;rotate_left
   · have d3:decide ((60:Int)<(n:Int))=true:=t7 (by omega);have F:=ω (show lJ st h w (.returned (.tuple #[.slice none 0 0,(2:Int)])) u from ⟨K,.inr (.inl ⟨aj,by rw [r.z]; omega,rfl⟩)⟩);clear a0 hA ar I T HT HQ Z K aj;go_wp2;go_ret2;exact F
   have X:=ω hA;have HI:=ω (show oK w u g V fb (fun _=>.slice none 0 0) from ⟨K,HT,fun b hb=>v6 T.size (ar b hb)⟩);clear hA ar I T;obtain⟨W2,ae⟩:∃ W2,u.alloc (.cells (tu fun _=>[]) 9)=W2:=⟨_,rfl⟩;obtain⟨b,ao⟩:∃ b,u.heap.size=b:=⟨_,rfl⟩;have am:Below u u W2:=by rw [<- ae]; exact (θ).alloc lQ _
   have aA:=Oc u;rw [ae,ao] at aA
   have a2:vA w g V fb b (pyT st h 0).H (pyT st h 0).O (fun _=>.slice none 0 0) x' W2:=by
    refine⟨X.below am,HI.more am,?_,fun hs=>?_,by have:=K.size; omega⟩
    · rw [<- ae,<- ao]; exact n5 u _
    · rcases hs with e | e | ⟨m,hi,e | e⟩
      · have:=X.blk.lt; omega
      · have:=X.srv.blk.lt; omega
      · have:=Blk.lt (X.feed m hi); omega
      · cases e
   have ay:=ω a2;have aH:=ω aA;have HG:φ (∀ n,n<=h.length->yR 1048576 (iA (h.take n)) n (pyT st h n)):=ω (uT (rq:=rqF) wK st h Z.z);have aO:=ω K.size;have aW:((n:Nat):Int)<=60:=by omega
   clear ae ao am a2 X HI;go_wp2
   go_loopw [34] (fun m wr=>∃ (k:Nat) (wv:Nat->Value) (x1:StA),k<=n/\m = .int .i64 k/\vA w g V fb b (pyT st h k).H (pyT st h k).O wv x1 wr) (fun m _=>n - (intOf m).toNat)
   case atStart=>exact⟨0,_,x',Nat.zero_le _,rfl,ay⟩
   case round=>
    obtain⟨k,wv,x1,hk,rfl,hP⟩:=hrel;have o:=ω hP;clear hP;by_cases hlt:k<n
    · obtain⟨a,ha⟩:∃ a,h[k]? = some a:=⟨_,δ (by rw [r.z]; exact hlt)⟩;have aK:=(pX ha).2;have aJ:=Z.z;obtain⟨ba,aF,rfl,aQ,hc⟩:=(HQ.below o.inn.base).dL qO r.z ha;have bb:=o.inn.base.size;have d0:ζ wr ba (aF+k*2) (.int .i64 a.conn):=hc 0 _ rfl;have d1:ζ wr ba (aF+k*2+1) (.string a.text):=hc 1 _ rfl;have aX:k*2+2<=n*2:=by omega
      have aR:ba<wr.heap.size:=by omega
      obtain⟨wx,ai⟩:∃ wx,wr.alloc (.cells #[a.conn,a.text] 39)=wx:=⟨_,rfl⟩;have a6:Below wr wr wx:=by rw [<- ai]; exact (θ).alloc lQ _
      have B:Blk wx wr 39 #[a.conn,a.text]:=by rw [<- ai]; exact n5 wr _
      have ad:=o.below a6;have aC:=EA (st:=st) ha;have a1:=HG.z k (by rw [r.z]; omega);have Lp:=HG.z (k+1) (by rw [r.z]; omega);have aa:=ω (Li (a:=a) (S:=pyT st h k) wx a1 lQ (by omega) (by omega) ad.hub ad.inn)
      have aB:¬ sZ g V fb wv wr:=fun hs=>by
       rcases hs with e | e | ⟨m,hi,e | e⟩
       · have:=o.hub.blk.lt; omega
       · have:=o.hub.srv.blk.lt; omega
       · have:=Blk.lt (o.hub.feed m hi); omega
       · obtain⟨c',h3,_⟩:=(o.hub.wait m hi).blk e;have:=h3.lt; omega
      obtain⟨f0,f1⟩:=Blk.c2 (B);have aZ:=B.lt;have ak:=ω ad;have Y:=ω B;have Gk:=ω Lp;have al:=ω aC;have ab:=ω ai;have aI:=ω aB;clear a6 B ad aC a1 Lp ai hc o ha aK aB aJ;obtain⟨cz,ap⟩:∃ cz,a.conn=cz:=⟨_,rfl⟩;obtain⟨tx,aD⟩:∃ tx,a.text=tx:=⟨_,rfl⟩;rw [ap] at d0 f0 aa Y ab;rw [aD] at d1 f1 aa Y ab;have aG:=ω ap;clear ap aD
      go_wp2_with fail
      try simp only [ab.z]
      clear ab d0 d1;refine aa.mono ?_;rintro e y ⟨t,E,N,P,rfl,U,M,C⟩;rw [aG.z] at C;have l:=ak.sent M U;have ac:=M.gr.blk Y.z aI.z;have e0:ζ y wr 0 (.int .i64 cz):=ac.cell 0;have aU:=ac.lt;rcases C with ⟨rfl,aS,aT,L⟩ | ⟨C,L⟩
      · obtain⟨cn,rfl⟩:∃ cn:Nat,cz=cn:=⟨cz.toNat,by omega⟩;rw [Int.toNat_natCast] at L;have a7:cn<8:=by omega
        obtain⟨i,s⟩:∃ i,BA ((pyT st h k).O cn)=i:=⟨_,rfl⟩;have y0:ζ y b cn (.string i):=by rw [l.otx.cell,zM a7,s]
        have zt:κ y b cn:=l.otx.thaw _;obtain⟨G,av⟩:∃ G,i ++ t=G:=⟨_,rfl⟩;have aq:=l.otx.lt
        have aw:i.size+t.size<=1400000000000:=by
         have z:=Gk.len cn;have h2:((pyT st h (k+1)).O cn).length<=(k+1)*(21000*1048576+6020):=v6 (Nat.le_add_right _ _) z;rw [al.z,L,bI,List.length_append] at h2;have h3:t.data.toList.length=t.size:=by simp
         rw [<- s,jA];omega
        have aM:¬ 9223372036854775807<i.size+t.size:=by omega
        have aN:i.size+t.size<=9223372036854775807:=by omega
        have F:=ω (show vA w g V fb b (pyT st h (k+1)).H (pyT st h (k+1)).O N P (sQ y b cn (.string G)) from by
         have z:=l.set a7 ((pyT st h k).O cn ++ t.data.toList);rw [<- wJ,s,av,<- L,<- al.z] at z;exact z)
        clear l ac U M L aw s aa ak Y Gk f0 f1;go_wp2
        go_roundw
        case rel=>exact⟨k+1,N,P,by omega,by go_num,F⟩
        case measure=>simp [intOf]; omega
      · have aP:(E == 0)=false:=by simpa using C
        have F:=ω (show vA w g V fb b (pyT st h (k+1)).H (pyT st h (k+1)).O N P y from by
         rw [al.z,L]; exact l)
        clear l ac U M L C aa ak Y Gk f0 f1 e0;go_wp2
        go_roundw
        case rel=>exact⟨k+1,N,P,by omega,by go_num,F⟩
        case measure=>simp [intOf]; omega
    · obtain rfl:k=n:=by omega
      have a4:pyT st h k=oJ tlW rqF ⟨qG st,fun _=>[]⟩ h:=by unfold pyT; rw [List.take_of_length_le (by rw [r.z]; omega)]
      have az:=ω a4;have ax:=ω (HG.z k (by rw [r.z]; omega));obtain⟨S,hS⟩:∃ S,pyT st h k=S:=⟨_,rfl⟩;rw [hS] at o az ax;clear a4 hS HG hlt HQ Z ay aH;go_wp2
      go_loopw [60] (fun m wr=>∃ (j:Nat) (wv:Nat->Value) (x1:StA),j<=8/\m = .int .i64 j/\vA w g V fb b (flN S.H j) (yg S j) wv x1 wr) (fun m _=>8 - (intOf m).toNat)
      case atStart=>exact⟨0,wv,x1,by omega,rfl,by rw [Lg,Cd]; exact o.z⟩
      case round=>
       obtain⟨j,bc,xj,hj,rfl,a3⟩:=hrel;have J:=ω a3;clear a3 o;by_cases hlt:j<8
       · have HO:=ω (Nf (H:=flN S.H j) wr J.hub hlt);have aq:=J.otx.lt
         go_wp2_with fail
         refine HO.mono ?_;rintro e y ⟨rfl,N,P,U,M⟩;rw [O9];have l:=J.sent (H':=flN S.H (j+1)) M (by rw [<- Lh]; exact U);obtain⟨t,ht⟩:∃ t,BA (S.H.cs j).waits=t:=⟨_,rfl⟩;rw [ht];obtain⟨i,s⟩:∃ i,BA (S.O j)=i:=⟨_,rfl⟩;have y0:ζ y b j (.string i):=by rw [l.otx.cell,zM hlt,Im,s]
         have zt:κ y b j:=l.otx.thaw _;obtain⟨G,av⟩:∃ G,i ++ t=G:=⟨_,rfl⟩;have aV:=l.otx.lt
         have aw:i.size+t.size<=1400000000000:=by
          have z:=ax.len j;rw [<- s,<- ht,jA,jA];omega
         have aM:¬ 9223372036854775807<i.size+t.size:=by omega
         have aN:i.size+t.size<=9223372036854775807:=by omega
         have F:=ω (show vA w g V fb b (flN S.H (j+1)) (yg S (j+1)) N P (sQ y b j (.string G)) from by
          have z:=l.set hlt (S.O j ++ (S.H.cs j).waits);have h2:BA (S.O j ++ (S.H.cs j).waits)=G:=by rw [<- av,<- s,<- ht,wJ,tY]
          rw [Ce,h2] at z;exact z)
         clear l U M aw s ht HO;go_wp2
         go_roundw
         case rel=>exact⟨j+1,N,P,by omega,by go_num,F⟩
         case measure=>simp [intOf]; omega
       · obtain rfl:j=8:=by omega
         have F:=ω (show lJ st h w (.returned (.tuple #[.slice (some ⟨b,0,none⟩) 8 8,(0:Int)])) wr from by
          refine⟨J.inn.base,.inr (.inr ⟨aj,by rw [r.z]; exact a0,b,rfl,J.lo,?_⟩)⟩;rw [<- az.z,<- Ez];exact J.otx)
         clear J;go_wp2;go_ret2;exact F
end Go.Proofs.YtimglglgcgpjgabGreatDoor
