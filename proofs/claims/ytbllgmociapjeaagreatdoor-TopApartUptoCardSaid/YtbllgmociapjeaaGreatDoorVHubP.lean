/- Of the proof of a statement: HubA, HubP. -/
import Derived.Test.YtbllgmociapjeaaGreatDoorVHubS
import Derived.Test.YtbllgmociapjeaaGreatDoorVPlApart
set_option linter.unusedVariables false
set_option linter.unusedSimpArgs false
set_option maxRecDepth 100000
set_option maxHeartbeats 8000000
/- The walks of Send at a request's bytes, at junk and where the connection is closed; of Out. -/
namespace Go.Proofs.YtbllgmociapjeaaGreatDoor
open Go.Lib (hid)
open Go.RowKit
open Classical in
noncomputable def rqW (b:ByteArray):aF × Int:=if h:∃ q,cu q=0∧ROk q∧BA (gZ q)=b then (Classical.choose h,0) else (⟨0,⟨⟨#[]⟩,0,0,0,⟨#[]⟩⟩,dw,cC,⟨#[]⟩,0⟩,1)
theorem Ax {b:ByteArray} (h:(rqW b).2=0):cu (rqW b).1=0∧ROk (rqW b).1∧BA (gZ (rqW b).1)=b:=by
 unfold rqW at h ⊢
 split at h
 · rename_i hx
   rw [dif_pos hx]
   exact Classical.choose_spec hx
 · exact absurd h (by decide)
theorem KU {q:aF} (h0:cu q=0) (hok:ROk q):(rqW (BA (gZ q))).2=0:=by
 unfold rqW
 rw [dif_pos ⟨q,h0,hok,rfl⟩]
theorem Jb {b:ByteArray} (h:(rqW b).2=0) (W:World) (hT:Tabs W):Calls Tryz.prog 62 #[.string b] W (eK (rqW b).1 (rqW b).2 W):=by
 obtain⟨h1,h2,h3⟩:=Ax h
 have hd:=BZ (rqW b).1 W h1 h2 hT
 rw [h3] at hd
 rw [h]
 exact hd
theorem Ay {g V k:Nat} {fb:Nat→Nat} {wv:Nat→Value} {cs:Nat→bQ} {st:ah} {x:StA} {now:Int} (w:World) (p:ByteArray) (h:bL w g V fb wv cs st x now) (hk:k<8) (hc:(cs k).closed=true) :
 Calls Tryz.prog 13 #[.pointer (some ⟨g,0,none⟩),.int .i64 (k:Int),.string p] w fun e w'=>e = .returned (.tuple #[.string ⟨#[]⟩,.int .i64 6])∧Below w.heap.size w w':=by
 have HO:=hid (Bp g k w hk)
 have Hh:=hid h
 have Hc:=hid hc
 clear h hc
 go_enter Tryz.func13,Tryz.ntmps13
 go_wp2_with fail
 refine Calls.mono HO.out ?_
 rintro x0 w1 ⟨rfl,hb1⟩
 have h1:=Hh.out.below hb1
 have y1:w1.cell? ⟨g,1+k*4+1,none⟩=some (.bool true):=by rw [h1.blk.cell,iZ hk,Hc.out]
 have hlg:=h1.blk.lt
 have Hb1:=hid hb1
 clear h1 hb1 HO Hh Hc
 go_wp2
 go_ret2
 exact⟨rfl,Hb1.out⟩
theorem Jc {g V k:Nat} {fb:Nat→Nat} {wv:Nat→Value} {H:dM} {x:StA} (w:World) (h:bL w g V fb wv H.cs H.st x H.now) (hk:k<8) :
 Calls Tryz.prog 18 #[.pointer (some ⟨g,0,none⟩),.int .i64 (k:Int)] w (rz g V fb wv H k w):=by
 have HO:=hid (Bp g k w hk)
 have Hh:=hid h
 clear h
 go_enter Tryz.func18,Tryz.ntmps18
 go_wp2_with fail
 refine Calls.mono HO.out ?_
 rintro x0 w1 ⟨rfl,hb1⟩
 have HA:=hid (Hh.out.below hb1)
 have HT:=hid ((cT.refl g V fb wv w).below_ hb1)
 have FL:=hid (oS g (1+k*4) 89 _ (wv k) (H.cs k).waits w1 HA.out.blk (fX hk) (HA.out.wait k hk))
 have HX:=hid (HA.out.flush hk)
 have HTx:=hid (HT.out.trans HX.out.2)
 clear hb1 HO Hh HT
 go_wp2_with fail
 refine Calls.mono FL.out ?_
 rintro x0 w5 ⟨rfl,rfl⟩
 go_wp2
 go_ret2
 exact⟨rfl,_,_,HX.out.1,HTx.out⟩
def Db (g V:Nat) (fb:Nat→Nat) (wv:Nat→Value) (S:jB) (a:eL) (w:World) (e:Ending) (w':World):Prop:=
 ∃ (t:ByteArray) (E:Int) (wv':Nat→Value) (x':StA),e = .returned (.tuple #[.string t,.int .i64 E])∧bL w' g V fb wv' (iq tlW rqW S a).H.cs (iq tlW rqW S a).H.st x' (iq tlW rqW S a).H.now∧cT g V fb wv wv' w w' ∧
  ((E=0∧(iq tlW rqW S a).O=upd S.O a.conn (S.O a.conn ++ t.data.toList))∨(E≠0∧(iq tlW rqW S a).O=S.O))
theorem Gb {a:eL} (h:iw rqW a):a.conn<8:=by
 cases a with
 | req c L=>have:=h.1; show c<8; omega
 | junk j=>show 5<8; omega
theorem Gc {g V:Nat} {fb:Nat→Nat} {wv:Nat→Value} {x:StA} {wb:World} {n:Nat} {S:jB} (w:World) (G:Good n S) (hn:n≤60) {a:eL} (ho:iw rqW a) (h:bL w g V fb wv S.H.cs S.H.st x S.H.now) (hI:jZ wb w g V fb wv) :
 Calls Tryz.prog 13 #[.pointer (some ⟨g,0,none⟩),.int .i64 (a.conn:Int),.string a.text] w (Db g V fb wv S a w):=by
 have hl:∀ i,i<8→(S.H.cs i).waits.length≤35000000000000:=fun i _=>by have:=G.len i; omega
 have Gd:∀ i,(S.H.cs i).far≤2097152:=fun i=>by have:=G.far i; omega
 have fin:(S.H.cs a.conn).closed=false→∀ e w',rz g V fb wv (fq tlW rqW S.H a) a.conn w e w'→Db g V fb wv S a w e w':=by
  rintro hc e w' ⟨rfl,wv',x',h1,h2⟩
  have hp:iq tlW rqW S a=⟨lC (fq tlW rqW S.H a) a.conn,upd S.O a.conn (S.O a.conn ++ ((fq tlW rqW S.H a).cs a.conn).waits)⟩:=by
   unfold iq
   rw [if_neg (by rw [hc]; decide)]
  refine⟨_,_,wv',x',rfl,?_,h2,.inl ⟨rfl,?_⟩⟩
  · rw [hp]; exact h1
  · rw [hp,iM]
 cases a with
 | req c L=>
  obtain⟨hc5,hL,hr⟩:=ho
  obtain⟨o1,o2,o3⟩:=G.op c hc5
  have hfl:=jW 3 3 L hL
  refine (sL tlW rqW (k:=c) (s:=BA (cR 3 3 L)) (fs:=[⟨3,3,BA L⟩]) (m:=(cR 3 3 L).length) (e:=3) w (BA (cR 3 3 L)) (by rw [o3]; exact ByteArray.ext (by rw [ByteArray.data_append]; simp)) (Dc 3 3 L (by decide) (by decide) hL) h (by omega) hI o1 o2 (by rw [fY]; omega) (Gd c) (fun f hf _ _ W hW=>?_) (fun f hf=>?_) (.inr Az) uF hl).mono (fin o1)
  · have e1:f=⟨3,3,BA L⟩:=by simpa using hf
    subst e1
    exact Jb hr W hW
  · have e1:f=⟨3,3,BA L⟩:=by simpa using hf
    subst e1
    exact (Ax hr).2.1
 | junk j=>
  cases hc:(S.H.cs 5).closed with
  | false=>
   obtain⟨o2,o3⟩:=G.five.2 hc
   refine (sL tlW rqW (k:=5) (s:=j) (fs:=[]) (m:=0) (e:=4) w j (by rw [o3]; exact ByteArray.ext (by rw [ByteArray.data_append]; simp)) (Frs.stop ho.1 (by decide)) h (by omega) hI hc o2 (by have:=ho.2; omega) (Gd 5) (fun f hf=>by cases hf) (fun f hf=>by cases hf) (.inr Az) uF hl).mono (fin hc)
  | true=>
   refine (Ay (k:=5) w j h (by omega) hc).mono ?_
   rintro e w' ⟨rfl,hb⟩
   have hp:iq tlW rqW S (.junk j)=S:=by
    unfold iq
    exact if_pos hc
   refine⟨_,_,wv,x,rfl,?_,(cT.refl g V fb wv w).below_ hb,.inr ⟨by decide,?_⟩⟩
   · rw [hp]; exact h.below hb
   · rw [hp]
end Go.Proofs.YtbllgmociapjeaaGreatDoor
/- The walk of hub.Play, at requests' bytes and junk. -/
namespace Go.Proofs.YtbllgmociapjeaaGreatDoor
open Go.Lib (hid)
open Go.RowKit
def lQ (a:eL):List Value:=[.int .i64 (a.conn:Int),.string a.text]
theorem AB (a:eL):(lQ a).length=2:=rfl
def qj (O:Nat→List UInt8):Array Value:=#[.string (BA (O 0)),.string (BA (O 1)),.string (BA (O 2)),.string (BA (O 3)),.string (BA (O 4)),.string (BA (O 5)),.string (BA (O 6)),.string (BA (O 7))]
theorem yS {O:Nat→List UInt8} {k:Nat} (h:k<8):(qj O)[k]? = some (.string (BA (O k))):=by rcases lt8 h with rfl | rfl | rfl | rfl | rfl | rfl | rfl | rfl <;> rfl
theorem Ge {O:Nat→List UInt8} {k:Nat} (h:k<8) (t:List UInt8):(qj O).setIfInBounds k (.string (BA t))=qj (upd O k t):=by
 rcases lt8 h with rfl | rfl | rfl | rfl | rfl | rfl | rfl | rfl <;> simp [qj,upd]
theorem Gf {O:Nat→List UInt8}:∀ v ∈ qj O,∃ s,v = .string s:=by
 intro v hv
 simp only [qj,List.mem_toArray,List.mem_cons,List.not_mem_nil,or_false] at hv
 rcases hv with rfl | rfl | rfl | rfl | rfl | rfl | rfl | rfl <;> exact⟨_,rfl⟩
theorem aU.B0 {W w2:World} {B g sz n:Nat} {t:TypeId} {cs:Array Value} {A:Option Addr} {xs:List Value} (h:aU W B sz A n xs) (hb:Blk W g t cs) (hc:∀ v ∈ cs,∃ s,v = .string s) (h0:0<n→∃ (j:Nat) (i:Int),xs[j]? = some (.int .i64 i)) (hg:W.grownBy w2 (some g)):aU w2 B sz A n xs:=
 ⟨h.len,fun hn=>by
  obtain⟨b,off,e,hB,hr⟩:=h.at_ hn
  obtain⟨j,i,hi⟩:=h0 hn
  have h1:=hr j _ hi
  have hbg:b≠g:=fun e=>by
   subst e
   rw [hb.cell] at h1
   obtain⟨s,hs⟩:=hc _ (Array.mem_of_getElem? h1)
   cases hs
  exact⟨b,off,e,hB,fun j u hu=>hg.cell (hr j u hu) (fun e=>hbg (by simpa using e))⟩⟩
theorem StAt.KV {W w2:World} {B g:Nat} {t:TypeId} {cs:Array Value} {s:ah} {x:StA} (h:StAt W B s x) (hb:Blk W g t cs) (hc:∀ v ∈ cs,∃ s,v = .string s) (hg:W.grownBy w2 (some g)):StAt w2 B s x:=
 ⟨h.j.B0 hb hc (fun hn=>by obtain⟨a,ha⟩:=pz (enc:=aI) h.lj hn; exact⟨1,_,ha 1 _ rfl⟩) hg,
  h.n.B0 hb hc (fun hn=>by obtain⟨a,ha⟩:=pz (enc:=aB) h.ln hn; exact⟨1,_,ha 1 _ rfl⟩) hg,
  h.l.B0 hb hc (fun hn=>by obtain⟨a,ha⟩:=pz (enc:=av) h.ll hn; exact⟨2,_,ha 2 _ rfl⟩) hg,
  h.lj,h.ln,h.ll,h.bj,h.bn,h.bl,h.oj,h.on_,h.ol⟩
theorem bL.KV {w w':World} {g V b:Nat} {fb:Nat→Nat} {wv:Nat→Value} {cs:Nat→bQ} {st:ah} {x:StA} {now:Int} {c:Array Value} (h:bL w g V fb wv cs st x now) (hb:Blk w b 9 c) (hc:∀ v ∈ c,∃ s,v = .string s) (hg:w.grownBy w' (some b)):bL w' g V fb wv cs st x now:=
 ⟨aD hg h.blk (aZ h.blk hb (by decide)),⟨aD hg h.srv.blk (aZ h.srv.blk hb (by decide)),(h.srv.at_.KV hb hc hg).more hg.size,h.srv.ok,h.srv.t⟩,fun i hi=>aD hg (h.feed i hi) (aZ (h.feed i hi) hb (by decide)),fun i hi=>(h.wait i hi).keep fun q hq=>by
  obtain⟨c',h4,_⟩:=(h.wait i hi).blk hq
  exact hg.block q h4.lt (fun e=>by injection e with e; exact aZ hb h4 (by decide) e.symm),h.fbi,h.wvi⟩
structure ql (w0:World) (g V:Nat) (fb:Nat→Nat) (b:Nat) (H:dM) (O:Nat→List UInt8) (wv:Nat→Value) (x:StA) (w:World):Prop where
 hub:bL w g V fb wv H.cs H.st x H.now
 inn:jZ w0 w g V fb wv
 out:Blk w b 9 (qj O)
 ap:¬ nP g V fb wv b
 lo:w0.heap.size≤b
section
variable {w0 w w':World} {g V b:Nat} {fb:Nat→Nat} {wv wv':Nat→Value} {H H':dM} {O:Nat→List UInt8} {x x':StA}
theorem ql.sent (h:ql w0 g V fb b H O wv x w) (ht:cT g V fb wv wv' w w') (hh:bL w' g V fb wv' H'.cs H'.st x' H'.now):ql w0 g V fb b H' O wv' x' w':=by
 refine⟨hh,h.inn.to ht,ht.gr.blk h.out h.ap,fun hs=>?_,h.lo⟩
 rcases hs with e | e | ⟨i,hi,e | e⟩
 · exact h.ap (.inl e)
 · exact h.ap (.inr (.inl e))
 · exact h.ap (.inr (.inr ⟨i,hi,.inl e⟩))
 · rcases ht.own i hi with h1 | h1 | ⟨q,h1,h2⟩
   · rw [h1] at e; cases e
   · rw [h1] at e; exact h.ap (.inr (.inr ⟨i,hi,.inr e⟩))
   · rw [h1] at e
     injection e with e
     have:=h.out.lt
     omega
theorem ql.below (h:ql w0 g V fb b H O wv x w) (hb:Below w.heap.size w w'):ql w0 g V fb b H O wv x w':=h.sent ((cT.refl g V fb wv w).below_ hb) (h.hub.below hb)
theorem ql.set (h:ql w0 g V fb b H O wv x w) {k:Nat} (hk:k<8) (t:List UInt8):ql w0 g V fb b H (upd O k t) wv x (w.setCell ⟨b,k,none⟩ (.string (BA t))):=by
 have hg:=bE w b k (.string (BA t))
 refine⟨h.hub.KV h.out Gf hg,⟨dR h.inn.base hg h.lo,h.inn.tabs,h.inn.lo⟩,?_,h.ap,h.lo⟩
 rw [← Ge hk]
 exact h.out.set _ _
end
def flN (H:dM) (n:Nat):dM:=⟨H.st,H.now,fun i=>if i<n then rV (H.cs i) else H.cs i⟩
def vK (S:jB) (n:Nat):Nat→List UInt8:=fun i=>if i<n then vL S i else S.O i
theorem Gg (H:dM):flN H 0=H:=by
 obtain⟨st,now,cs⟩:=H
 unfold flN
 congr 1
theorem KW (H:dM) (n:Nat):(flN H n).cs n=H.cs n:=by
 show (if n<n then _ else _)=_
 rw [if_neg (by omega)]
theorem Gh (H:dM) (n:Nat):lC (flN H n) n=flN H (n+1):=by
 unfold lC flN
 congr 1
 funext i
 dsimp only
 unfold upd
 by_cases h:i=n
 · subst h
   rw [if_pos rfl,if_neg (by omega),if_pos (by omega)]
 · rw [if_neg h]
   dsimp only
   by_cases h2:i<n
   · rw [if_pos h2,if_pos (by omega)]
   · rw [if_neg h2,if_neg (by omega)]
theorem Ea (S:jB):vK S 0=S.O:=by
 funext i; unfold vK; rw [if_neg (by omega)]
theorem Jd (S:jB) (n:Nat):vK S n n=S.O n:=by
 unfold vK; rw [if_neg (by omega)]
theorem Eb (S:jB) (n:Nat):upd (vK S n) n (S.O n ++ (S.H.cs n).waits)=vK S (n+1):=by
 funext i
 unfold vK upd
 by_cases h:i=n
 · subst h; rw [if_pos rfl,if_pos (by omega)]; rfl
 · rw [if_neg h]
   dsimp only
   by_cases h2:i<n
   · rw [if_pos h2,if_pos (by omega)]
   · rw [if_neg h2,if_neg (by omega)]
theorem Gi (S:jB):qj (vK S 8)=qj (vL S):=by simp [qj,vK]
theorem Je:(Tryz.prog.info? 9).map (fun i=>(i.zero,i.size,i.bytes))=some (some (.string ⟨#[]⟩),1,16):=by kernel_rfl
theorem LI (W:World):(Instr.makeSlice 28 (.int .i64 8) (.int .i64 8)).run Tryz.prog W = .ok (.slice (some ⟨W.heap.size,0,none⟩) 8 8) (W.alloc (.cells (qj fun _=>[]) 9)):=by
 obtain⟨i0,hi,hz0,hz1,hz2⟩:=info_parts Je
 have h:=run_makeSlice (P:=Tryz.prog) (w:=W) 28 9 i0 _ Tryz.underlying28 hi hz0 .i64 .i64 8 8 (by omega) (by omega) (by rw [hz1]; decide) (by rw [hz2]; decide) (by omega)
 rw [hz1,show madeCells (Value.cells (.string ⟨#[]⟩)) (Int.toNat 8*1)=qj (fun _=>[]) from Array.ext' (by simp [madeCells,qj,BA,Value.cells,List.range,List.range.loop])] at h
 exact h
theorem Dd (l:List UInt8) (t:ByteArray):BA l ++ t=BA (l ++ t.data.toList):=ByteArray.ext (by rw [ByteArray.data_append]; simp [BA])
noncomputable def pyS (st:ah) (acts:List eL) (k:Nat):jB:=nK tlW rqW ⟨mA st,fun _=>[]⟩ (acts.take k)
theorem Gj {st:ah} {acts:List eL} {k:Nat} {a:eL} (h:acts[k]? = some a):pyS st acts (k+1)=iq tlW rqW (pyS st acts k) a:=by
 obtain⟨hlt,e⟩:=List.getElem?_eq_some_iff.1 h
 unfold pyS
 rw [List.take_succ_eq_append_getElem hlt,mR,e]
def lR (st:ah) (acts:List eL) (w:World) (e:Ending) (w':World):Prop:=
 Below w.heap.size w w'∧((aE st≠0∧e = .returned (.tuple #[.slice none 0 0,.int .i64 (aE st)])) ∨
  (aE st=0∧∃ b,e = .returned (.tuple #[.slice (some ⟨b,0,none⟩) 8 8,.int .i64 0])∧w.heap.size≤b∧Blk w' b 9 (qj (vL (nK tlW rqW ⟨mA st,fun _=>[]⟩ acts)))))
theorem AD (st:ah) (x:StA) (acts:List eL) (A:Option Addr) (n c:Nat) (w:World) (hS:StAt w w.heap.size st x) (hT:Tabs w) (hq:aU w w.heap.size 2 A n (au lQ acts)) (hl:acts.length=n) (hn:n≤60) (hok:∀ a ∈ acts,iw rqW a) :
 Calls Tryz.prog 9 #[.agg (stC st x),.slice A n c] w (lR st acts w):=by
 obtain⟨W,hW⟩:∃ W,w.alloc (.cells (stC st x) 26)=W:=⟨_,rfl⟩
 have hbW:Below w.heap.size w W:=by rw [← hW]; exact (Below.refl _ _).alloc (Nat.le_refl _) _
 have hB:Blk W w.heap.size 26 (stC st x):=by rw [← hW]; exact heap_alloc_new w _
 have HN:=hid (AE st x W (hS.upS hbW) (hT.below hbW))
 obtain⟨c0,c1,c2,c3⟩:=Blk.c4 (hB)
 have hlb:=hB.lt
 have HbW:=hid hbW
 have HW:=hid hW
 obtain⟨E,hE⟩:∃ E,aE st=E:=⟨_,rfl⟩
 have HE:=hid hE
 have HT:=hid hT
 have HQ:=hid hq
 have Hl:=hid hl
 have Hok:=hid hok
 clear hbW hB hW hE hS hT hq hl hok
 unfold stC at HW HN ⊢
 go_enter Tryz.func9,Tryz.ntmps9
 go_wp2_with fail
 try simp only [HW.out]
 clear HW
 refine Calls.mono HN.out ?_
 rintro e w1 ⟨hb1,hcase⟩
 rw [HE.out] at hcase
 have Hb1:=hid (HbW.out.trans (hb1.mono HbW.out.size))
 clear hb1 HN c0 c1 c2 c3 hlb
 rcases hcase with ⟨hbad,rfl⟩ | ⟨hgood,g,V,fb,x',rfl,hA,hlo⟩
 · have d1:(E != 0)=true:=by simpa using hbad
   have d2:(E == 0)=false:=by simpa using hbad
   have F:=hid (show lR st acts w (.returned (.tuple #[.slice none 0 0,.int .i64 E])) w1 from ⟨Hb1.out,.inl ⟨by rw [HE.out]; exact hbad,by rw [HE.out]⟩⟩)
   clear hbad Hb1 HE HbW HT HQ Hl Hok
   go_wp2
   go_ret2
   exact F.out
 · have HE0:=hid (HE.out.trans hgood)
   subst hgood
   have HA:=hid hA
   have HI:=hid (show jZ w w1 g V fb (fun _=>.slice none 0 0) from ⟨Hb1.out,HT.out,fun b hb=>Nat.le_trans HbW.out.size (hlo b hb)⟩)
   clear hA hlo HE HbW
   obtain⟨W2,hW2⟩:∃ W2,w1.alloc (.cells (qj fun _=>[]) 9)=W2:=⟨_,rfl⟩
   obtain⟨b,hbn⟩:∃ b,w1.heap.size=b:=⟨_,rfl⟩
   have hb2:Below w1.heap.size w1 W2:=by rw [← hW2]; exact (Below.refl _ _).alloc (Nat.le_refl _) _
   have hmk:=LI w1
   rw [hW2,hbn] at hmk
   have hP0:ql w g V fb b (pyS st acts 0).H (pyS st acts 0).O (fun _=>.slice none 0 0) x' W2:=by
    refine⟨HA.out.below hb2,HI.out.more hb2,?_,fun hs=>?_,by have:=Hb1.out.size; omega⟩
    · rw [← hW2,← hbn]; exact heap_alloc_new w1 _
    · rcases hs with e | e | ⟨i,hi,e | e⟩
      · have:=HA.out.blk.lt; omega
      · have:=HA.out.srv.blk.lt; omega
      · have:=Blk.lt (HA.out.feed i hi); omega
      · cases e
   have HP0:=hid hP0
   have Hmk:=hid hmk
   have HG:Hid (∀ n,n≤acts.length→Good n (pyS st acts n)):=hid (pA (rq:=rqW) uF st acts Hok.out)
   have Hsz1:=hid Hb1.out.size
   have hle:((n:Nat):Int)≤60:=by omega
   clear hW2 hbn hb2 hP0 HA HI
   go_wp2
   go_loopw [34] (fun i wr=>∃ (k:Nat) (wv:Nat→Value) (x1:StA),k≤n∧i = .int .i64 k∧ql w g V fb b (pyS st acts k).H (pyS st acts k).O wv x1 wr) (fun i _=>n - (intOf i).toNat)
   case atStart=>exact⟨0,_,x',Nat.zero_le _,rfl,HP0.out⟩
   case round=>
    obtain⟨k,wv,x1,hk,rfl,hP⟩:=hrel
    have HP:=hid hP
    clear hP
    by_cases hlt:k<n
    · obtain⟨a,ha⟩:∃ a,acts[k]? = some a:=⟨_,List.getElem?_eq_getElem (by rw [Hl.out]; exact hlt)⟩
      have hao:=Hok.out a (List.mem_of_getElem? ha)
      have hc8:=Gb hao
      obtain⟨ba,off,rfl,hbA,hc⟩:=(HQ.out.below HP.out.inn.base).dB AB Hl.out ha
      have hwb:=HP.out.inn.base.size
      have d0:wr.cell? ⟨ba,off+k*2,none⟩=some (.int .i64 (a.conn:Int)):=hc 0 _ rfl
      have d1:wr.cell? ⟨ba,off+k*2+1,none⟩=some (.string a.text):=hc 1 _ rfl
      have hlk:k*2+2≤n*2:=by omega
      have hbl:ba<wr.heap.size:=by omega
      obtain⟨wx,hwx⟩:∃ wx,wr.alloc (.cells #[.int .i64 (a.conn:Int),.string a.text] 45)=wx:=⟨_,rfl⟩
      have hbx:Below wr.heap.size wr wx:=by rw [← hwx]; exact (Below.refl _ _).alloc (Nat.le_refl _) _
      have hB:Blk wx wr.heap.size 45 #[.int .i64 (a.conn:Int),.string a.text]:=by rw [← hwx]; exact heap_alloc_new wr _
      have hPx:=HP.out.below hbx
      have hsn:=Gj (st:=st) ha
      have hGk:=HG.out k (by rw [Hl.out]; omega)
      have hGk1:=HG.out (k+1) (by rw [Hl.out]; omega)
      have HSd:=hid (Gc (S:=pyS st acts k) wx hGk (by omega) hao hPx.hub hPx.inn)
      have hnb:¬ nP g V fb wv wr.heap.size:=fun hs=>by
       rcases hs with e | e | ⟨i,hi,e | e⟩
       · have:=HP.out.hub.blk.lt; omega
       · have:=HP.out.hub.srv.blk.lt; omega
       · have:=Blk.lt (HP.out.hub.feed i hi); omega
       · obtain⟨c',h3,_⟩:=(HP.out.hub.wait i hi).blk e
         have:=h3.lt; omega
      obtain⟨f0,f1⟩:=Blk.c2 (hB)
      have hlx:=hB.lt
      have HPx:=hid hPx
      have HB:=hid hB
      have KX:=hid hGk1
      have Hsn:=hid hsn
      have Hwx:=hid hwx
      have Hnb:=hid hnb
      clear hbx hB hPx hsn hGk hGk1 hwx hc HP ha hao hnb
      obtain⟨cn,hcn⟩:∃ cn,a.conn=cn:=⟨_,rfl⟩
      obtain⟨tx,htx⟩:∃ tx,a.text=tx:=⟨_,rfl⟩
      rw [hcn] at hc8 d0 f0 HSd HB Hwx
      rw [htx] at d1 f1 HSd HB Hwx
      have Hcn:=hid hcn
      clear hcn htx
      go_wp2_with fail
      try simp only [Hwx.out]
      clear Hwx d0 d1
      refine Calls.mono HSd.out ?_
      rintro e w4 ⟨t,E,wv4,x4,rfl,h4,t4,hE⟩
      rw [Hcn.out] at hE
      have hP4:=HPx.out.sent t4 h4
      have hB4:=t4.gr.blk HB.out Hnb.out
      have e0:w4.cell? ⟨wr.heap.size,0,none⟩=some (.int .i64 (cn:Int)):=hB4.cell 0
      have hl4:=hB4.lt
      rcases hE with ⟨rfl,hO⟩ | ⟨hE,hO⟩
      · obtain⟨o1,ho1⟩:∃ o1,BA ((pyS st acts k).O cn)=o1:=⟨_,rfl⟩
        have y0:w4.cell? ⟨b,cn,none⟩=some (.string o1):=by rw [hP4.out.cell,yS hc8,ho1]
        have zt:w4.frozen? ⟨b,cn,none⟩=false:=hP4.out.thaw _
        obtain⟨o2,ho2⟩:∃ o2,o1 ++ t=o2:=⟨_,rfl⟩
        have hlb:=hP4.out.lt
        have hsz:o1.size+t.size≤1300000:=by
         have h1:=KX.out.len cn
         have h2:((pyS st acts (k+1)).O cn).length≤21000*(k+1):=Nat.le_trans (Nat.le_add_right _ _) h1
         rw [Hsn.out,hO,bB,List.length_append] at h2
         have h3:t.data.toList.length=t.size:=by simp
         rw [← ho1,fY]
         omega
        have hs1:¬ 9223372036854775807<o1.size+t.size:=by omega
        have hs2:o1.size+t.size≤9223372036854775807:=by omega
        have F:=hid (show ql w g V fb b (pyS st acts (k+1)).H (pyS st acts (k+1)).O wv4 x4 (w4.setCell ⟨b,cn,none⟩ (.string o2)) from by
         have h1:=hP4.set hc8 ((pyS st acts k).O cn ++ t.data.toList)
         rw [← Dd,ho1,ho2,← hO,← Hsn.out] at h1
         exact h1)
        clear hP4 hB4 h4 t4 hO hsz ho1 HSd HPx HB KX f0 f1
        go_wp2
        go_roundw
        case rel=>exact⟨k+1,wv4,x4,by omega,by go_num,F.out⟩
        case measure=>simp [intOf]; omega
      · have hE0:(E == 0)=false:=by simpa using hE
        have F:=hid (show ql w g V fb b (pyS st acts (k+1)).H (pyS st acts (k+1)).O wv4 x4 w4 from by
         rw [Hsn.out,hO]; exact hP4)
        clear hP4 hB4 h4 t4 hO hE HSd HPx HB KX f0 f1 e0
        go_wp2
        go_roundw
        case rel=>exact⟨k+1,wv4,x4,by omega,by go_num,F.out⟩
        case measure=>simp [intOf]; omega
    · obtain rfl:k=n:=by omega
      have hSn:pyS st acts k=nK tlW rqW ⟨mA st,fun _=>[]⟩ acts:=by unfold pyS; rw [List.take_of_length_le (by rw [Hl.out]; omega)]
      have HSn:=hid hSn
      have HGn:=hid (HG.out k (by rw [Hl.out]; omega))
      obtain⟨S,hS⟩:∃ S,pyS st acts k=S:=⟨_,rfl⟩
      rw [hS] at HP HSn HGn
      clear hSn hS HG hlt HQ Hok HP0 Hmk
      go_wp2
      go_loopw [60] (fun i wr=>∃ (j:Nat) (wv:Nat→Value) (x1:StA),j≤8∧i = .int .i64 j∧ql w g V fb b (flN S.H j) (vK S j) wv x1 wr) (fun i _=>8 - (intOf i).toNat)
      case atStart=>exact⟨0,wv,x1,by omega,rfl,by rw [Gg,Ea]; exact HP.out⟩
      case round=>
       obtain⟨j,wvj,xj,hj,rfl,hPj⟩:=hrel
       have HPj:=hid hPj
       clear hPj HP
       by_cases hlt:j<8
       · have HO:=hid (Jc (H:=flN S.H j) wr HPj.out.hub hlt)
         have hlb:=HPj.out.out.lt
         go_wp2_with fail
         refine Calls.mono HO.out ?_
         rintro e w4 ⟨rfl,wv4,x4,h4,t4⟩
         rw [KW]
         have hP4:=HPj.out.sent (H':=flN S.H (j+1)) t4 (by rw [← Gh]; exact h4)
         obtain⟨t,ht⟩:∃ t,BA (S.H.cs j).waits=t:=⟨_,rfl⟩
         rw [ht]
         obtain⟨o1,ho1⟩:∃ o1,BA (S.O j)=o1:=⟨_,rfl⟩
         have y0:w4.cell? ⟨b,j,none⟩=some (.string o1):=by rw [hP4.out.cell,yS hlt,Jd,ho1]
         have zt:w4.frozen? ⟨b,j,none⟩=false:=hP4.out.thaw _
         obtain⟨o2,ho2⟩:∃ o2,o1 ++ t=o2:=⟨_,rfl⟩
         have hlb4:=hP4.out.lt
         have hsz:o1.size+t.size≤1300000:=by
          have h1:=HGn.out.len j
          rw [← ho1,← ht,fY,fY]
          omega
         have hs1:¬ 9223372036854775807<o1.size+t.size:=by omega
         have hs2:o1.size+t.size≤9223372036854775807:=by omega
         have F:=hid (show ql w g V fb b (flN S.H (j+1)) (vK S (j+1)) wv4 x4 (w4.setCell ⟨b,j,none⟩ (.string o2)) from by
          have h1:=hP4.set hlt (S.O j ++ (S.H.cs j).waits)
          have h2:BA (S.O j ++ (S.H.cs j).waits)=o2:=by rw [← ho2,← ho1,← ht,Dd,iM]
          rw [Eb,h2] at h1
          exact h1)
         clear hP4 h4 t4 hsz ho1 ht HO
         go_wp2
         go_roundw
         case rel=>exact⟨j+1,wv4,x4,by omega,by go_num,F.out⟩
         case measure=>simp [intOf]; omega
       · obtain rfl:j=8:=by omega
         have F:=hid (show lR st acts w (.returned (.tuple #[.slice (some ⟨b,0,none⟩) 8 8,.int .i64 0])) wr from by
          refine⟨HPj.out.inn.base,.inr ⟨HE0.out,b,rfl,HPj.out.lo,?_⟩⟩
          rw [← HSn.out,← Gi]
          exact HPj.out.out)
         clear HPj
         go_wp2
         go_ret2
         exact F.out
end Go.Proofs.YtbllgmociapjeaaGreatDoor
