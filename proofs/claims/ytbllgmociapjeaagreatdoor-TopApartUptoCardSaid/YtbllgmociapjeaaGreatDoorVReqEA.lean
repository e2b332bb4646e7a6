/- Of the proof of a statement: ReqEA, WEnc. -/
import Derived.Test.YtbllgmociapjeaaGreatDoorVReqDA
set_option linter.unusedVariables false
set_option linter.unusedSimpArgs false
set_option maxRecDepth 100000
set_option maxHeartbeats 8000000
/- req.Encode at any request that may be. -/
namespace Go.Proofs.YtbllgmociapjeaaGreatDoor
open Go.Lib (hid)
open Go.RowKit
theorem Ij (base g P:Nat) (l:List UInt8) (x:aC) (w:World) (hp:Blk w P 171 #[.string x.name,.int .i64 x.prio,.int .i64 x.need,.int .i64 x.tries,.string x.tag]) (hx:ug x) (h:dQ w base g l) (hl:l.length≤90000000) :
 Calls Tryz.prog 272 #[.pointer (some ⟨P,0,none⟩),.pointer (some ⟨g,0,none⟩)] w (dY base g (l ++ eG x 3) w):=by
 have HJ:=hid (show Calls Tryz.prog 176 #[.pointer (some ⟨g,0,none⟩),.agg #[.string x.name,.int .i64 x.prio,.int .i64 x.need,.int .i64 x.tries,.string x.tag],.int .i64 3] w _ from Ct base g l x 3 w (by decide) (by decide) hx h hl)
 obtain⟨p0,p1,p2,p3,p4⟩:=Blk.c5 (hp)
 have hlp:=hp.lt
 clear hp hx h hl
 go_enter Tryz.func272,Tryz.ntmps272
 go_wp2_with fail
 refine Calls.mono HJ.out ?_
 rintro e w1 hp
 have HP:=hid hp
 obtain⟨rfl,_⟩:=hp
 clear HJ p0 p1 p2 p3 p4
 go_wp2
 go_end0
 exact HP.out
theorem ET (base g P:Nat) (l:List UInt8) (x:aA) (w:World) (hp:Blk w P 174 #[.string x.name,.int .i64 x.room,.string x.zone]) (hx:oh x) (h:dQ w base g l) (hl:l.length≤90000000) :
 Calls Tryz.prog 281 #[.pointer (some ⟨P,0,none⟩),.pointer (some ⟨g,0,none⟩)] w (dY base g (l ++ cN x 3) w):=by
 have HJ:=hid (show Calls Tryz.prog 179 #[.pointer (some ⟨g,0,none⟩),.agg #[.string x.name,.int .i64 x.room,.string x.zone],.int .i64 3] w _ from za base g l x 3 w (by decide) hx h hl)
 have p0:w.cell? ⟨P,0,none⟩=some (.string x.name):=hp.cell 0
 have p1:w.cell? ⟨P,1,none⟩=some (.int .i64 x.room):=hp.cell 1
 have p2:w.cell? ⟨P,2,none⟩=some (.string x.zone):=hp.cell 2
 have hlp:=hp.lt
 clear hp hx h hl
 go_enter Tryz.func281,Tryz.ntmps281
 go_wp2_with fail
 refine Calls.mono HJ.out ?_
 rintro e w1 hp
 have HP:=hid hp
 obtain⟨rfl,_⟩:=hp
 clear HJ p0 p1 p2
 go_wp2
 go_end0
 exact HP.out
theorem CT (base g P:Nat) (l:List UInt8) (x:ak) (w:World) (hp:Blk w P 177 #[.string x.job,.string x.node,.int .i64 x.till]) (hx:sG x) (h:dQ w base g l) (hl:l.length≤90000000) :
 Calls Tryz.prog 286 #[.pointer (some ⟨P,0,none⟩),.pointer (some ⟨g,0,none⟩)] w (dY base g (l ++ dL x) w):=by
 have HJ:=hid (show Calls Tryz.prog 181 #[.pointer (some ⟨g,0,none⟩),.agg #[.string x.job,.string x.node,.int .i64 x.till]] w _ from wQ base g l x w hx h hl)
 have p0:w.cell? ⟨P,0,none⟩=some (.string x.job):=hp.cell 0
 have p1:w.cell? ⟨P,1,none⟩=some (.string x.node):=hp.cell 1
 have p2:w.cell? ⟨P,2,none⟩=some (.int .i64 x.till):=hp.cell 2
 have hlp:=hp.lt
 clear hp hx h hl
 go_enter Tryz.func286,Tryz.ntmps286
 go_wp2_with fail
 refine Calls.mono HJ.out ?_
 rintro e w1 hp
 have HP:=hid hp
 obtain⟨rfl,_⟩:=hp
 clear HJ p0 p1 p2
 go_wp2
 go_end0
 exact HP.out
theorem tA (base g P:Nat) (l:List UInt8) (x:ByteArray) (w:World) (hp:Blk w P 178 #[.string x]) (hx:x.size≤9223372036854775807) (h:dQ w base g l) (hl:l.length≤90000000) :
 Calls Tryz.prog 291 #[.pointer (some ⟨P,0,none⟩),.pointer (some ⟨g,0,none⟩)] w (dY base g (l ++ dN x) w):=by
 have HJ:=hid (show Calls Tryz.prog 183 #[.pointer (some ⟨g,0,none⟩),.string x] w _ from lU base g l x w hx h (by omega))
 have p0:w.cell? ⟨P,0,none⟩=some (.string x):=hp.cell 0
 have hlp:=hp.lt
 clear hp hx h hl
 go_enter Tryz.func291,Tryz.ntmps291
 go_wp2_with fail
 refine Calls.mono HJ.out ?_
 rintro e w1 hp
 have HP:=hid hp
 obtain⟨rfl,_⟩:=hp
 clear HJ p0
 go_wp2
 go_end0
 exact HP.out
theorem CU (base g P:Nat) (l:List UInt8) (x:Int) (w:World) (hp:Blk w P 180 #[.int .i64 x]) (hx:0≤x∧x≤9223372036854775807) (h:dQ w base g l) (hl:l.length≤90000000) :
 Calls Tryz.prog 295 #[.pointer (some ⟨P,0,none⟩),.pointer (some ⟨g,0,none⟩)] w (dY base g (l ++ aO x.toNat) w):=by
 have HJ:=hid (show Calls Tryz.prog 55 #[.pointer (some ⟨g,0,none⟩),.int .i64 x] w _ from jq base g l x w hx h (by omega))
 have p0:w.cell? ⟨P,0,none⟩=some (.int .i64 x):=hp.cell 0
 have hlp:=hp.lt
 clear hp hx h hl
 go_enter Tryz.func295,Tryz.ntmps295
 go_wp2_with fail
 refine Calls.mono HJ.out ?_
 rintro e w1 hp
 have HP:=hid hp
 obtain⟨rfl,_⟩:=hp
 clear HJ p0
 go_wp2
 go_end0
 exact HP.out
theorem pI {c:Prop} [Decidable c] {a:Int} (ha:a≠0) (h:(if c then 0 else a)=0):c:=by
 by_cases hc:c
 · exact hc
 · rw [if_neg hc] at h; exact absurd h ha
theorem EU (q:aF) (w:World) (hk:q.kind=1) (h0:cu q=0) (hok:ROk q) (hT:Tabs w):Calls Tryz.prog 26 #[bH q] w (wO q (aO q.kind.toNat ++ eG q.job 3) w):=by
 obtain⟨-,-,hp⟩:=cS h0
 rw [show bR q=(fB q.job) by unfold bR; simp [hk]] at hp
 have hpe:fB q.job=0:=hp
 refine gB q (eG q.job 3) w 169 272 (PtJ 171 #[.string q.job.name,.int .i64 q.job.prio,.int .i64 q.job.need,.int .i64 q.job.tries,.string q.job.tag]) (by omega) hok hT h0 (fun _ _=>by kernel_rfl) (fun w=>(Cy q w hk).mono fun e w' h=>?_) ?_ ?_
 · obtain⟨P,rfl,-,h,hb⟩:=h
   exact⟨_,rfl,⟨P,rfl,h⟩,hb⟩
 · rintro v w ⟨P,rfl,h⟩ w'
   kernel_rfl
 · rintro base g l v w ⟨P,rfl,h⟩ hw hl
   exact Ij base g P l q.job w h (by have hz:=gI hpe; have h1:=bO hz.1; have h2:=gy hz.2.1; exact⟨by omega,by omega,by omega,by omega,by omega⟩) hw hl
theorem EV (q:aF) (w:World) (hk:q.kind=2) (h0:cu q=0) (hok:ROk q) (hT:Tabs w):Calls Tryz.prog 26 #[bH q] w (wO q (aO q.kind.toNat ++ cN q.node 3) w):=by
 obtain⟨-,-,hp⟩:=cS h0
 rw [show bR q=(dO q.node) by unfold bR; simp [hk]] at hp
 have hpe:dO q.node=0:=hp
 refine gB q (cN q.node 3) w 172 281 (PtJ 174 #[.string q.node.name,.int .i64 q.node.room,.string q.node.zone]) (by omega) hok hT h0 (fun _ _=>by kernel_rfl) (fun w=>(Cz q w hk).mono fun e w' h=>?_) ?_ ?_
 · obtain⟨P,rfl,-,h,hb⟩:=h
   exact⟨_,rfl,⟨P,rfl,h⟩,hb⟩
 · rintro v w ⟨P,rfl,h⟩ w'
   kernel_rfl
 · rintro base g l v w ⟨P,rfl,h⟩ hw hl
   exact ET base g P l q.node w h (by have hz:=iY hpe; have h1:=bO hz.1; have h2:=gy hz.2.1; exact⟨by omega,by omega,by omega⟩) hw hl
theorem EW (q:aF) (w:World) (hk:q.kind=5) (h0:cu q=0) (hok:ROk q) (hT:Tabs w):Calls Tryz.prog 26 #[bH q] w (wO q (aO q.kind.toNat ++ dL q.lease) w):=by
 obtain⟨-,-,hp⟩:=cS h0
 rw [show bR q=(lsE q.lease) by unfold bR; simp [hk]] at hp
 have hpe:lsE q.lease=0:=hp
 refine gB q (dL q.lease) w 175 286 (PtJ 177 #[.string q.lease.job,.string q.lease.node,.int .i64 q.lease.till]) (by omega) hok hT h0 (fun _ _=>by kernel_rfl) (fun w=>(CA q w hk).mono fun e w' h=>?_) ?_ ?_
 · obtain⟨P,rfl,-,h,hb⟩:=h
   exact⟨_,rfl,⟨P,rfl,h⟩,hb⟩
 · rintro v w ⟨P,rfl,h⟩ w'
   kernel_rfl
 · rintro base g l v w ⟨P,rfl,h⟩ hw hl
   exact CT base g P l q.lease w h (by have hz:=wF hpe; have h1:=bO hz.1; have h2:=bO hz.2.1; exact⟨by omega,by omega,by omega⟩) hw hl
theorem EX (q:aF) (w:World) (hk:q.kind=3) (h0:cu q=0) (hok:ROk q) (hT:Tabs w):Calls Tryz.prog 26 #[bH q] w (wO q (aO q.kind.toNat ++ dN q.name) w):=by
 obtain⟨-,-,hp⟩:=cS h0
 rw [show bR q=(if bF q.name then 0 else 4) by unfold bR; simp [hk]] at hp
 have hpe:bF q.name=true:=pI (by decide) hp
 refine gB q (dN q.name) w 179 291 (PtJ 178 #[.string q.name]) (by omega) hok hT h0 (fun _ _=>by kernel_rfl) (fun w=>(CC q w hk).mono fun e w' h=>?_) ?_ ?_
 · obtain⟨P,rfl,-,h,hb⟩:=h
   exact⟨_,rfl,⟨P,rfl,h⟩,hb⟩
 · rintro v w ⟨P,rfl,h⟩ w'
   kernel_rfl
 · rintro base g l v w ⟨P,rfl,h⟩ hw hl
   exact tA base g P l q.name w h (by have h1:=bO hpe; omega) hw hl
theorem EY (q:aF) (w:World) (hk:q.kind=4) (h0:cu q=0) (hok:ROk q) (hT:Tabs w):Calls Tryz.prog 26 #[bH q] w (wO q (aO q.kind.toNat ++ dN q.name) w):=by
 obtain⟨-,-,hp⟩:=cS h0
 rw [show bR q=(if bF q.name then 0 else 4) by unfold bR; simp [hk]] at hp
 have hpe:bF q.name=true:=pI (by decide) hp
 refine gB q (dN q.name) w 179 291 (PtJ 178 #[.string q.name]) (by omega) hok hT h0 (fun _ _=>by kernel_rfl) (fun w=>(CD q w hk).mono fun e w' h=>?_) ?_ ?_
 · obtain⟨P,rfl,-,h,hb⟩:=h
   exact⟨_,rfl,⟨P,rfl,h⟩,hb⟩
 · rintro v w ⟨P,rfl,h⟩ w'
   kernel_rfl
 · rintro base g l v w ⟨P,rfl,h⟩ hw hl
   exact tA base g P l q.name w h (by have h1:=bO hpe; omega) hw hl
theorem EZ (q:aF) (w:World) (hk:q.kind=6) (h0:cu q=0) (hok:ROk q) (hT:Tabs w):Calls Tryz.prog 26 #[bH q] w (wO q (aO q.kind.toNat ++ dN q.name) w):=by
 obtain⟨-,-,hp⟩:=cS h0
 rw [show bR q=(if bF q.name then 0 else 4) by unfold bR; simp [hk]] at hp
 have hpe:bF q.name=true:=pI (by decide) hp
 refine gB q (dN q.name) w 179 291 (PtJ 178 #[.string q.name]) (by omega) hok hT h0 (fun _ _=>by kernel_rfl) (fun w=>(CF q w hk).mono fun e w' h=>?_) ?_ ?_
 · obtain⟨P,rfl,-,h,hb⟩:=h
   exact⟨_,rfl,⟨P,rfl,h⟩,hb⟩
 · rintro v w ⟨P,rfl,h⟩ w'
   kernel_rfl
 · rintro base g l v w ⟨P,rfl,h⟩ hw hl
   exact tA base g P l q.name w h (by have h1:=bO hpe; omega) hw hl
theorem E1 (q:aF) (w:World) (hk:q.kind=7) (h0:cu q=0) (hok:ROk q) (hT:Tabs w):Calls Tryz.prog 26 #[bH q] w (wO q (aO q.kind.toNat ++ aO q.n.toNat) w):=by
 obtain⟨-,-,hp⟩:=cS h0
 rw [show bR q=(if ranged q.n 0 1099511627776 then 0 else 1) by unfold bR; simp [hk]] at hp
 have hpe:ranged q.n 0 1099511627776=true:=pI (by decide) hp
 refine gB q (aO q.n.toNat) w 181 295 (PtJ 180 #[.int .i64 q.n]) (by omega) hok hT h0 (fun _ _=>by kernel_rfl) (fun w=>(CG q w hk).mono fun e w' h=>?_) ?_ ?_
 · obtain⟨P,rfl,-,h,hb⟩:=h
   exact⟨_,rfl,⟨P,rfl,h⟩,hb⟩
 · rintro v w ⟨P,rfl,h⟩ w'
   kernel_rfl
 · rintro base g l v w ⟨P,rfl,h⟩ hw hl
   exact CU base g P l q.n w h (by have h1:=aL.1 hpe; omega) hw hl
theorem yA (p:Value) (w:World):Calls Tryz.prog 299 #[.agg #[],p] w fun e w'=>e = .returned (.tuple #[])∧Below w.heap.size w w':=by
 go_enter Tryz.func299,Tryz.ntmps299
 go_wp2
 go_end0
 exact⟨rfl,(Below.refl _ _).alloc (Nat.le_refl _) _⟩
theorem E2 (q:aF) (w:World) (hk:q.kind=8) (h0:cu q=0) (hok:ROk q) (hT:Tabs w):Calls Tryz.prog 26 #[bH q] w (wO q (aO q.kind.toNat ++ []) w):=by
 refine gB q [] w 183 299 (fun v _=>v = .agg #[]) (by omega) hok hT h0 (fun _ _=>by kernel_rfl) (fun w=>(CP q w hk).mono fun e w' h=>⟨_,h.1,rfl,h.2⟩) ?_ ?_
 · rintro v w rfl w'
   kernel_rfl
 · rintro base g l v w rfl hw hl
   rw [List.append_nil]
   exact (yA _ w).mono fun e w' h=>⟨h.1,hw.below h.2,cD.of_below h.2⟩
theorem E3 (q:aF) (w:World) (hk:q.kind=9) (h0:cu q=0) (hok:ROk q) (hT:Tabs w):Calls Tryz.prog 26 #[bH q] w (wO q (aO q.kind.toNat ++ []) w):=by
 refine gB q [] w 183 299 (fun v _=>v = .agg #[]) (by omega) hok hT h0 (fun _ _=>by kernel_rfl) (fun w=>(CQ q w hk).mono fun e w' h=>⟨_,h.1,rfl,h.2⟩) ?_ ?_
 · rintro v w rfl w'
   kernel_rfl
 · rintro base g l v w rfl hw hl
   rw [List.append_nil]
   exact (yA _ w).mono fun e w' h=>⟨h.1,hw.below h.2,cD.of_below h.2⟩
theorem B5 (q:aF) (w:World) (h0:cu q=0) (hok:ROk q) (hT:Tabs w):Calls Tryz.prog 26 #[bH q] w (wO q (gZ q) w):=by
 have hr:=aL.1 (cS h0).1
 have:q.kind=1∨q.kind=2∨q.kind=3∨q.kind=4∨q.kind=5∨q.kind=6∨q.kind=7∨q.kind=8∨q.kind=9:=by omega
 unfold gZ
 rcases this with h | h | h | h | h | h | h | h | h
 · rw [show dH q=_ by unfold dH; simp only [h]; rfl]
   exact EU q w h h0 hok hT
 · rw [show dH q=_ by unfold dH; simp only [h]; rfl]
   exact EV q w h h0 hok hT
 · rw [show dH q=_ by unfold dH; simp only [h]; rfl]
   exact EX q w h h0 hok hT
 · rw [show dH q=_ by unfold dH; simp only [h]; rfl]
   exact EY q w h h0 hok hT
 · rw [show dH q=_ by unfold dH; simp only [h]; rfl]
   exact EW q w h h0 hok hT
 · rw [show dH q=_ by unfold dH; simp only [h]; rfl]
   exact EZ q w h h0 hok hT
 · rw [show dH q=_ by unfold dH; simp only [h]; rfl]
   exact E1 q w h h0 hok hT
 · rw [show dH q=_ by unfold dH; simp only [h]; rfl]
   exact E2 q w h h0 hok hT
 · rw [show dH q=_ by unfold dH; simp only [h]; rfl]
   exact E3 q w h h0 hok hT
end Go.Proofs.YtbllgmociapjeaaGreatDoor
/- The walk of wire.Encode. -/
namespace Go.Proofs.YtbllgmociapjeaaGreatDoor
open Go.Lib (hid)
open Go.RowKit
structure VGo (w0 w:World) (base g p S Q:Nat) (v:Int) (l:List UInt8) (cs:Array Value) (N:Nat):Prop where
 ok:dQ w base g l
 keep:cD base g w0 w
 bS:Blk w S 26 cs
 bq:Blk w Q 3 #[.int .i64 v]
 bp:Blk w p 126 #[.pointer (some ⟨g,0,none⟩)]
 nS:S≠g
 nq:Q≠g
 np:p≠g
 len:l.length≤N
theorem VGo.next {w0 w w':World} {base g p S Q N:Nat} {v:Int} {l k:List UInt8} {cs:Array Value} (h:VGo w0 w base g p S Q v l cs N) (ha:dQ w' base g (l ++ k)) (hk:cD base g w w') (hkl:k.length≤4000):VGo w0 w' base g p S Q v (l ++ k) cs (N+4000):=
 ⟨ha,h.keep.trans hk,hk.blk h.bS (by decide) h.nS,hk.blk h.bq (by decide) h.nq,hk.blk h.bp (by decide) h.np,h.nS,h.nq,h.np,by have:=h.len; rw [List.length_append]; omega⟩
theorem zI (st:ah) (x:StA) (v:Int) (w:World) (hS:StAt w w.heap.size st x) (hT:Tabs w) :
 Calls Tryz.prog 172 #[.agg (stC st x),.int .i64 v] w (uL st v w):=by
 have hb1:Below w.heap.size w (w.alloc (.cells (stC st x) 26)):=(Below.refl _ _).alloc (Nat.le_refl _) _
 have hb2:=hb1.alloc hb1.size (.cells #[.int .i64 v] 3)
 have hBS:Blk ((w.alloc (.cells (stC st x) 26)).alloc (.cells #[.int .i64 v] 3)) w.heap.size 26 (stC st x):=Blk.alloc (show Blk _ _ _ _ from heap_alloc_new w _) _
 have hBQ:Blk ((w.alloc (.cells (stC st x) 26)).alloc (.cells #[.int .i64 v] 3)) (w.heap.size+1) 3 #[.int .i64 v]:=by
  have h:=heap_alloc_new (w.alloc (.cells (stC st x) 26)) (.cells #[.int .i64 v] 3)
  rwa [show (w.alloc (.cells (stC st x) 26)).heap.size=w.heap.size+1 by simp] at h
 have HFit:=hid (GO st x v _ (hS.up hb2) (hT.below hb2))
 have aP:=hid (fun s E (h:gQ st v=(s,E)) w'=>uL.mk' (w:=w) (w':=w') h)
 have HS:=hid hS
 have HT:=hid hT
 have Hb2:=hid hb2
 have HBS:=hid hBS
 have HBQ:=hid hBQ
 have hF:vW st v=if aE st≠0 then (false,aE st) else if ranged v 1 3=false then (false,1) else (oF st v,0):=rfl
 have HF:=hid hF
 clear hb1 hb2 hS hBS hBQ hT hF
 obtain⟨rev,jobs,nodes,leases⟩:=st
 obtain⟨aj,nj,cj,an,nn,cn,al,nl,cl⟩:=x
 unfold stC at *
 dsimp only at *
 go_enter Tryz.func172,Tryz.ntmps172
 go_wp2_with fail
 refine Calls.mono HFit.out ?_
 rintro e w1 ⟨rfl,hb⟩
 have HbA:=hid (Hb2.out.trans (hb.mono Hb2.out.size))
 have HB1:=hid (HBS.out.below hb HBS.out.lt)
 have HQ1:=hid (HBQ.out.below hb HBQ.out.lt)
 have hsz:w.heap.size+1<w1.heap.size:=HQ1.out.lt
 rw [HF.out]
 clear hb HFit HBS HBQ
 obtain⟨E,hE⟩:∃ E,aE ⟨rev,jobs,nodes,leases⟩=E:=⟨_,rfl⟩
 obtain⟨fit,hfit⟩:∃ f,oF ⟨rev,jobs,nodes,leases⟩ v=f:=⟨_,rfl⟩
 have HE:=hid hE
 have GQ:=hid hfit
 rw [hE,hfit]
 clear hE hfit HF
 by_cases h0:E=0
 rotate_left
 · rw [if_pos h0]
   have e2:(E != 0)=true:=bne_iff_ne.2 h0
   have hend:=hid (aP.out _ _ (by rw [A5 (by rw [HE.out]; exact h0),HE.out]) _ HbA.out)
   go_wp2
   go_ret2
   exact hend.out
 subst h0
 rw [if_neg (by simp)]
 cases hr:ranged v 1 3
 · rw [if_pos rfl]
   have hend:=hid (aP.out _ _ (EF HE.out hr) _ HbA.out)
   clear hr
   go_wp2
   go_ret2
   exact hend.out
 rw [if_neg (by simp)]
 have Hr:=hid hr
 have hv:=aL.1 hr
 clear hr
 cases fit
 · have hend:=hid (aP.out _ _ (CL HE.out Hr.out GQ.out) _ HbA.out)
   go_wp2
   go_ret2
   exact hend.out
 have hend:=hid (aP.out _ _ (H7 HE.out Hr.out GQ.out))
 have G:=hid (LM HE.out)
 have HGJ:=hid (G.out.jobs)
 have HGN:=hid (G.out.nodes)
 have HGL:=hid (G.out.leases)
 have gr0:=G.out.r0
 have gr1:=G.out.r1
 have gnj:=G.out.nj
 have gnn:=G.out.nn
 have gnl:=G.out.nl
 have hl1:=HS.out.lj
 have hl2:=HS.out.ln
 have hl3:=HS.out.ll
 dsimp only at gr0 gr1 gnj gnn gnl hl1 hl2 hl3
 have hTl:=HT.out.lt
 have hw0:=dQ.new (HT.out.below HbA.out) hTl.1 hTl.2 (show w.heap.size≤w1.heap.size by omega)
 have hbW:Below w1.heap.size w1 (w1.alloc (.cells #[.slice none 0 0] 128)):=(Below.refl _ _).alloc (Nat.le_refl _) _
 have hsW:(w1.alloc (.cells #[.slice none 0 0] 128)).heap.size=w1.heap.size+1:=by simp
 have hbP:Below (w1.alloc (.cells #[.slice none 0 0] 128)).heap.size (w1.alloc (.cells #[.slice none 0 0] 128)) ((w1.alloc (.cells #[.slice none 0 0] 128)).alloc (.cells #[.pointer (some ⟨w1.heap.size,0,none⟩)] 126)):=(Below.refl _ _).alloc (Nat.le_refl _) _
 have hbp:Blk ((w1.alloc (.cells #[.slice none 0 0] 128)).alloc (.cells #[.pointer (some ⟨w1.heap.size,0,none⟩)] 126)) (w1.heap.size+1) 126 #[.pointer (some ⟨w1.heap.size,0,none⟩)]:=by
  have:=heap_alloc_new (w1.alloc (.cells #[.slice none 0 0] 128)) (.cells #[.pointer (some ⟨w1.heap.size,0,none⟩)] 126)
  rw [hsW] at this
  exact this
 have H0:=hid (VGo.mk (w0:=w) (N:=0) (hw0.below hbP) (((cD.of_below HbA.out).trans (cD.of_below hbW)).trans (cD.of_below hbP)) ((HB1.out.alloc _).alloc _) ((HQ1.out.alloc _).alloc _) hbp (show w.heap.size≠w1.heap.size by omega) (show w.heap.size+1≠w1.heap.size by omega) (by omega) (by simp))
 obtain⟨y0,y1,y2,y3⟩:=Blk.c4 (H0.out.bS)
 have yq:((w1.alloc (.cells #[.slice none 0 0] 128)).alloc (.cells #[.pointer (some ⟨w1.heap.size,0,none⟩)] 126)).cell? ⟨w.heap.size+1,0,none⟩=some (.int .i64 v):=H0.out.bq.cell 0
 clear hTl hw0 hbW hsW hbP hbp HbA
 by_cases h2:2<v
 · have d2:decide (2<v)=true:=decide_eq_true h2
   go_wp2_with fail
   refine Calls.mono (jq w.heap.size w1.heap.size _ rev _ (by omega) H0.out.ok (by have:=H0.out.len; omega)) ?_
   rintro e wk1 ⟨rfl,ok1,k1⟩
   have H1:=hid (H0.out.next ok1 k1 (rS _))
   clear ok1 k1 H0 y0 y1 y2 y3 yq
   have yp:wk1.cell? ⟨w1.heap.size+1,0,none⟩=some (.pointer (some ⟨w1.heap.size,0,none⟩)):=H1.out.bp.cell 0
   have hpl:w1.heap.size+1<wk1.heap.size:=H1.out.bp.lt
   have y1:wk1.cell? ⟨w.heap.size,1,none⟩=some (.slice aj nj cj):=H1.out.bS.cell 1
   have y2:wk1.cell? ⟨w.heap.size,2,none⟩=some (.slice an nn cn):=H1.out.bS.cell 2
   have y3:wk1.cell? ⟨w.heap.size,3,none⟩=some (.slice al nl cl):=H1.out.bS.cell 3
   go_wp2_with fail
   refine Calls.mono (Bc w.heap.size w1.heap.size (w1.heap.size+1) (w.heap.size+1) v _ jobs _ _ _ _ (HS.out.j.below (H1.out.keep.below (show w.heap.size≤w1.heap.size by omega) (Nat.le_refl _))) HS.out.lj (by first | omega | (dsimp only; omega)) HGJ.out H1.out.ok (by have:=H1.out.len; omega) H1.out.bp H1.out.np H1.out.bq H1.out.nq) ?_
   rintro e wk3 ⟨rfl,ok3,k3⟩
   have H3:=hid (H1.out.next ok3 k3 (fD (fun x=>lA x v) gnj))
   clear ok3 k3 yp hpl y1 y2 y3
   have yp:wk3.cell? ⟨w1.heap.size+1,0,none⟩=some (.pointer (some ⟨w1.heap.size,0,none⟩)):=H3.out.bp.cell 0
   have hpl:w1.heap.size+1<wk3.heap.size:=H3.out.bp.lt
   have y2:wk3.cell? ⟨w.heap.size,2,none⟩=some (.slice an nn cn):=H3.out.bS.cell 2
   have y3:wk3.cell? ⟨w.heap.size,3,none⟩=some (.slice al nl cl):=H3.out.bS.cell 3
   go_wp2_with fail
   refine Calls.mono (yB w.heap.size w1.heap.size (w1.heap.size+1) (w.heap.size+1) v _ nodes _ _ _ _ (HS.out.n.below (H3.out.keep.below (show w.heap.size≤w1.heap.size by omega) (Nat.le_refl _))) HS.out.ln (by first | omega | (dsimp only; omega)) HGN.out H3.out.ok (by have:=H3.out.len; omega) H3.out.bp H3.out.np H3.out.bq H3.out.nq) ?_
   rintro e wk4 ⟨rfl,ok4,k4⟩
   have H4:=hid (H3.out.next ok4 k4 (fD (fun x=>jF x v) (by omega)))
   clear ok4 k4 yp hpl y2 y3
   have yp:wk4.cell? ⟨w1.heap.size+1,0,none⟩=some (.pointer (some ⟨w1.heap.size,0,none⟩)):=H4.out.bp.cell 0
   have hpl:w1.heap.size+1<wk4.heap.size:=H4.out.bp.lt
   have y3:wk4.cell? ⟨w.heap.size,3,none⟩=some (.slice al nl cl):=H4.out.bS.cell 3
   go_wp2_with fail
   refine Calls.mono (rT w.heap.size w1.heap.size (w1.heap.size+1) _ leases _ _ _ _ (HS.out.l.below (H4.out.keep.below (show w.heap.size≤w1.heap.size by omega) (Nat.le_refl _))) HS.out.ll (by first | omega | (dsimp only; omega)) HGL.out H4.out.ok (by have:=H4.out.len; omega)) ?_
   rintro e wk5 ⟨rfl,ok5,k5⟩
   have H5:=hid (H4.out.next ok5 k5 (fD (fun x=>jG x) (by omega)))
   clear ok5 k5 yp hpl y3
   have yp:wk5.cell? ⟨w1.heap.size+1,0,none⟩=some (.pointer (some ⟨w1.heap.size,0,none⟩)):=H5.out.bp.cell 0
   have hpl:w1.heap.size+1<wk5.heap.size:=H5.out.bp.lt
   have hL:[] ++ aO rev.toNat ++ fV (fun x=>eG x v) jobs ++ fV (fun x=>cN x v) nodes ++ fV dL leases=yu ⟨rev,jobs,nodes,leases⟩ v:=by unfold yu GJ; rw [if_pos (by omega)]; simp only [List.append_assoc,List.nil_append]
   have hat:=H5.out.ok.at_
   rw [hL] at hat
   obtain⟨_,AA,m,c,hB,ho⟩:=hat
   have z0:wk5.cell? ⟨w1.heap.size,0,none⟩=some (.slice AA m c):=hB.cell 0
   have hrun:=eU Tryz.underlying84 Tryz.underlying5 Tryz.underlying9 ho
   have bI:=hid (hend.out _ (H5.out.keep.below (show w.heap.size≤w1.heap.size by omega) (Nat.le_refl _)))
   clear hL hB ho
   go_wp2
   go_ret2
   exact bI.out
 · have d2:decide (2<v)=false:=decide_eq_false h2
   have hsw:w1.heap.size<w1.heap.size+1:=by omega
   go_wp2_with fail
   refine Calls.mono (Bc w.heap.size w1.heap.size (w1.heap.size+1) (w.heap.size+1) v _ jobs _ _ _ _ (HS.out.j.below (H0.out.keep.below (show w.heap.size≤w1.heap.size by omega) (Nat.le_refl _))) HS.out.lj (by first | omega | (dsimp only; omega)) HGJ.out H0.out.ok (by have:=H0.out.len; omega) H0.out.bp H0.out.np H0.out.bq H0.out.nq) ?_
   rintro e wk3 ⟨rfl,ok3,k3⟩
   have H3:=hid (H0.out.next ok3 k3 (fD (fun x=>lA x v) gnj))
   clear ok3 k3 y0 y1 y2 y3 yq
   have yp:wk3.cell? ⟨w1.heap.size+1,0,none⟩=some (.pointer (some ⟨w1.heap.size,0,none⟩)):=H3.out.bp.cell 0
   have hpl:w1.heap.size+1<wk3.heap.size:=H3.out.bp.lt
   have y2:wk3.cell? ⟨w.heap.size,2,none⟩=some (.slice an nn cn):=H3.out.bS.cell 2
   have y3:wk3.cell? ⟨w.heap.size,3,none⟩=some (.slice al nl cl):=H3.out.bS.cell 3
   go_wp2_with fail
   refine Calls.mono (yB w.heap.size w1.heap.size (w1.heap.size+1) (w.heap.size+1) v _ nodes _ _ _ _ (HS.out.n.below (H3.out.keep.below (show w.heap.size≤w1.heap.size by omega) (Nat.le_refl _))) HS.out.ln (by first | omega | (dsimp only; omega)) HGN.out H3.out.ok (by have:=H3.out.len; omega) H3.out.bp H3.out.np H3.out.bq H3.out.nq) ?_
   rintro e wk4 ⟨rfl,ok4,k4⟩
   have H4:=hid (H3.out.next ok4 k4 (fD (fun x=>jF x v) (by omega)))
   clear ok4 k4 yp hpl y2 y3
   have yp:wk4.cell? ⟨w1.heap.size+1,0,none⟩=some (.pointer (some ⟨w1.heap.size,0,none⟩)):=H4.out.bp.cell 0
   have hpl:w1.heap.size+1<wk4.heap.size:=H4.out.bp.lt
   have y3:wk4.cell? ⟨w.heap.size,3,none⟩=some (.slice al nl cl):=H4.out.bS.cell 3
   go_wp2_with fail
   refine Calls.mono (rT w.heap.size w1.heap.size (w1.heap.size+1) _ leases _ _ _ _ (HS.out.l.below (H4.out.keep.below (show w.heap.size≤w1.heap.size by omega) (Nat.le_refl _))) HS.out.ll (by first | omega | (dsimp only; omega)) HGL.out H4.out.ok (by have:=H4.out.len; omega)) ?_
   rintro e wk5 ⟨rfl,ok5,k5⟩
   have H5:=hid (H4.out.next ok5 k5 (fD (fun x=>jG x) (by omega)))
   clear ok5 k5 yp hpl y3
   have yp:wk5.cell? ⟨w1.heap.size+1,0,none⟩=some (.pointer (some ⟨w1.heap.size,0,none⟩)):=H5.out.bp.cell 0
   have hpl:w1.heap.size+1<wk5.heap.size:=H5.out.bp.lt
   have hL:[] ++ fV (fun x=>eG x v) jobs ++ fV (fun x=>cN x v) nodes ++ fV dL leases=yu ⟨rev,jobs,nodes,leases⟩ v:=by unfold yu GJ; rw [if_neg (by omega)]; simp only [List.append_assoc,List.nil_append]
   have hat:=H5.out.ok.at_
   rw [hL] at hat
   obtain⟨_,AA,m,c,hB,ho⟩:=hat
   have z0:wk5.cell? ⟨w1.heap.size,0,none⟩=some (.slice AA m c):=hB.cell 0
   have hrun:=eU Tryz.underlying84 Tryz.underlying5 Tryz.underlying9 ho
   have bI:=hid (hend.out _ (H5.out.keep.below (show w.heap.size≤w1.heap.size by omega) (Nat.le_refl _)))
   clear hL hB ho
   go_wp2
   go_ret2
   exact bI.out
end Go.Proofs.YtbllgmociapjeaaGreatDoor
