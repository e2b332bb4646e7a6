/- Of the proof of a statement: WDec. -/
import Derived.Test.YtcpgnjmaampglaaGreatDoorWInsert
set_option linter.unusedVariables false
set_option linter.unusedSimpArgs false
set_option maxRecDepth 100000
set_option maxHeartbeats 8000000
/- The walk of wire.Decode. -/
namespace Go.Proofs.YtcpgnjmaampglaaGreatDoor
open Go.Lib (hid)
open Go.RowKit
theorem OF {s:ByteArray} (h:s.size≠0):(s.toList != [])=true:=by unfold bne; rw [kZ h]; rfl
theorem Kr {s:ByteArray} (h:s.size≠0):(s.toList != ByteArray.toList ⟨#[]⟩)=true:=by unfold bne; rw [o9 h]; rfl
theorem Ri (g:Nat) (σ:RR Unit) (w:World) (h:eS w g σ) :
 Calls Tryz.prog 34 #[.pointer (some ⟨g,0,none⟩)] w fun e w'=>e = .returned (.int .i64 (sI σ:Int))∧w.grownBy w' (some g):=by
 obtain⟨s,x,hA,hx⟩:∃ (s:ByteArray) (x:Nat),oL w g s x∧((x=0∧sI σ=(if s.size=0 then 0 else 4))∨(x≠0∧sI σ=x)):=by
  cases σ with
  | ok u s=>exact⟨s,0,h.at_,.inl ⟨rfl,rfl⟩⟩
  | bad x=>obtain⟨s,_,hA⟩:=h.at_; exact⟨s,x,hA,.inr ⟨h.good.1,rfl⟩⟩
 obtain⟨E,hE⟩:∃ E,sI σ=E:=⟨_,rfl⟩
 rw [hE] at hx ⊢
 have y0:w.cell? ⟨g,0,none⟩=some (.string s):=Blk.cell hA 0
 have y1:w.cell? ⟨g,1,none⟩=some (.int .i64 (x:Int)):=Blk.cell hA 1
 have HA:=hid hA
 clear h hE hA
 by_cases hs:s.size=0
 · obtain rfl:=qY hs
   have hEx:E=x:=by
    rcases hx with ⟨h1,h2⟩ | ⟨h1,h2⟩
    · rw [if_pos hs] at h2; omega
    · exact h2
   subst hEx
   clear hx hs
   go_enter Tryz.func34,Tryz.ntmps34
   go_wp2
   go_ret
   exact⟨rfl,gF _ _⟩
 · have e1:=OF hs
   have e2:=Kr hs
   have e3:=mP hs
   have hEx:(if x=0 then 4 else x)=E:=by
    rcases hx with ⟨h1,h2⟩ | ⟨h1,h2⟩
    · rw [if_neg hs] at h2; rw [if_pos h1]; exact h2.symm
    · rw [if_neg h1]; exact h2.symm
   have HEx:=hid hEx
   clear hx hs hEx
   go_enter Tryz.func34,Tryz.ntmps34
   go_wp2_with fail
   refine Calls.mono (wK g s 4 x _ HA.out) ?_
   rintro e w1 ⟨rfl,hA2,hg2⟩
   rw [HEx.out] at hA2
   have x1:w1.cell? ⟨g,1,none⟩=some (.int .i64 (E:Int)):=Blk.cell hA2 1
   clear hA2 y0 y1
   go_wp2
   go_ret
   exact⟨rfl,hg2⟩
def uV (b:ByteArray) (v:Int) (w:World) (e:Ending) (w':World):Prop:=
 ∃ (st:ah) (x:StA) (E:Int),e = .returned (.tuple #[.agg (stC st x),.int .i64 E])∧Cp b v=(st,E)∧StAt w' w'.heap.size st x∧Below w.heap.size w w'
def Nf:StA:=⟨none,0,0,none,0,0,none,0,0⟩
theorem zeroAt (w:World) (B:Nat):StAt w B aY Nf:=
 ⟨aQ.nil,aQ.nil,aQ.nil,rfl,rfl,rfl,by decide,by decide,by decide,(fun _ h=>by cases h),(fun _ h=>by cases h),(fun _ h=>by cases h)⟩
theorem uV.none_ {b:ByteArray} {v E:Int} {w w':World} (h:Cp b v=(aY,E)) (hb:Below w.heap.size w w'):uV b v w (.returned (.tuple #[.agg iT,.int .i64 E])) w':=
 ⟨aY,Nf,E,rfl,h,zeroAt _ _,hb⟩
theorem OG (w:World) (ca cb cc cd ce:Array Value) {ta tb tc td te:TypeId}:Blk (((((w.alloc (.cells ca ta)).alloc (.cells cb tb)).alloc (.cells cc tc)).alloc (.cells cd td)).alloc (.cells ce te)) (w.heap.size) ta ca:=by
 have h:=heap_alloc_new w (.cells ca ta)
 exact (Blk.alloc (Blk.alloc (Blk.alloc (Blk.alloc (show Blk _ _ _ _ from h) _) _) _) _)
theorem OH (w:World) (ca cb cc cd ce:Array Value) {ta tb tc td te:TypeId}:Blk (((((w.alloc (.cells ca ta)).alloc (.cells cb tb)).alloc (.cells cc tc)).alloc (.cells cd td)).alloc (.cells ce te)) (w.heap.size+1) tb cb:=by
 have h:=heap_alloc_new (w.alloc (.cells ca ta)) (.cells cb tb)
 rw [show (w.alloc (.cells ca ta)).heap.size=w.heap.size+1 by simp] at h
 exact (Blk.alloc (Blk.alloc (Blk.alloc (show Blk _ _ _ _ from h) _) _) _)
theorem OI (w:World) (ca cb cc cd ce:Array Value) {ta tb tc td te:TypeId}:Blk (((((w.alloc (.cells ca ta)).alloc (.cells cb tb)).alloc (.cells cc tc)).alloc (.cells cd td)).alloc (.cells ce te)) (w.heap.size+2) tc cc:=by
 have h:=heap_alloc_new ((w.alloc (.cells ca ta)).alloc (.cells cb tb)) (.cells cc tc)
 rw [show ((w.alloc (.cells ca ta)).alloc (.cells cb tb)).heap.size=w.heap.size+2 by simp] at h
 exact (Blk.alloc (Blk.alloc (show Blk _ _ _ _ from h) _) _)
theorem OJ (w:World) (ca cb cc cd ce:Array Value) {ta tb tc td te:TypeId}:Blk (((((w.alloc (.cells ca ta)).alloc (.cells cb tb)).alloc (.cells cc tc)).alloc (.cells cd td)).alloc (.cells ce te)) (w.heap.size+3) td cd:=by
 have h:=heap_alloc_new (((w.alloc (.cells ca ta)).alloc (.cells cb tb)).alloc (.cells cc tc)) (.cells cd td)
 rw [show (((w.alloc (.cells ca ta)).alloc (.cells cb tb)).alloc (.cells cc tc)).heap.size=w.heap.size+3 by simp] at h
 exact (Blk.alloc (show Blk _ _ _ _ from h) _)
theorem OK (w:World) (ca cb cc cd ce:Array Value) {ta tb tc td te:TypeId}:Blk (((((w.alloc (.cells ca ta)).alloc (.cells cb tb)).alloc (.cells cc tc)).alloc (.cells cd td)).alloc (.cells ce te)) (w.heap.size+4) te ce:=by
 have h:=heap_alloc_new ((((w.alloc (.cells ca ta)).alloc (.cells cb tb)).alloc (.cells cc tc)).alloc (.cells cd td)) (.cells ce te)
 rw [show ((((w.alloc (.cells ca ta)).alloc (.cells cb tb)).alloc (.cells cc tc)).alloc (.cells cd td)).heap.size=w.heap.size+4 by simp] at h
 exact (show Blk _ _ _ _ from h)
structure DGo (w0 w:World) (G:Nat) (σ:RR Unit) (Q P S R:Nat) (v:Int) (cs:Array Value):Prop where
 ok:eS w G σ
 keep:Below w0.heap.size w0 w
 new:w0.heap.size≤G
 q:Blk w Q 3 #[.int .i64 v]
 p:Blk w P 77 #[.pointer (some ⟨G,0,none⟩)]
 s:Blk w S 26 cs
 r:Blk w R 26 iT
 qg:Q≠G
 pg:P≠G
 sg:G<S
 rg:R≠G
 qs:Q≠S
 ps:P≠S
 rs:R≠S
 nr:w0.heap.size≤R
theorem DGo.next {w0 w w':World} {G Q P S R:Nat} {σ σ':RR Unit} {v:Int} {cs:Array Value} (h:DGo w0 w G σ Q P S R v cs) (hok:eS w' G σ') (hg:w.grownBy w' (some G)):DGo w0 w' G σ' Q P S R v cs:=
 ⟨hok,aJ h.keep hg h.new,h.new,aA hg h.q h.qg,aA hg h.p h.pg,aA hg h.s (Nat.ne_of_gt h.sg),aA hg h.r h.rg,h.qg,h.pg,h.sg,h.rg,h.qs,h.ps,h.rs,h.nr⟩
theorem DGo.set {w0 w:World} {G Q P S R:Nat} {σ:RR Unit} {v:Int} {cs:Array Value} (h:DGo w0 w G σ Q P S R v cs) (i:Nat) (u:Value):DGo w0 (w.setCell ⟨S,i,none⟩ u) G σ Q P S R v (cs.setIfInBounds i u):=
 ⟨h.ok.set _ _ _ h.sg,aJ h.keep (aC w S i u) (Nat.le_of_lt (Nat.lt_of_le_of_lt h.new h.sg)),h.new,aA (aC _ _ _ _) h.q h.qs,aA (aC _ _ _ _) h.p h.ps,h.s.set i u,aA (aC _ _ _ _) h.r h.rs,h.qg,h.pg,h.sg,h.rg,h.qs,h.ps,h.rs,h.nr⟩
def uW {α:Type} (r:RR (List α)) (T:TypeId) (sz:Nat) (enc:α→List Value) (base:Nat) (A:Option Addr) (n c:Nat) (w:World):Prop:=
 ∀ l s,r = .ok l s→l.length=n∧w.ownsRow base T sz (.slice A n c) n (au enc l)
theorem uW.grow {α:Type} {r:RR (List α)} {T:TypeId} {sz base:Nat} {enc:α→List Value} {A:Option Addr} {n c b:Nat} {w w':World} (h:uW r T sz enc base A n c w) (hg:w.grownBy w' (some b)) (hb:b<base):uW r T sz enc base A n c w':=
 fun l s he=>⟨(h l s he).1,aD (h l s he).2 hg hb⟩
theorem Ks {ue w9:World} {R b1 b2 b3:Nat} {st:ah} {x:StA} (hA:StAt ue ue.heap.size st x)
 (o1:ue.ownsRow b1 59 5 (.slice x.aj x.nj x.cj) x.nj (au aH st.jobs)) (o2:ue.ownsRow b2 61 3 (.slice x.an x.nn x.cn) x.nn (au aI st.nodes)) (o3:ue.ownsRow b3 63 3 (.slice x.al x.nl x.cl) x.nl (au aE st.leases))
 (h1:R<b1) (h2:R<b2) (h3:R<b3) (hb:Below ue.heap.size ue w9) (u0 u1 u2 u3:Value) :
 StAt ((((w9.setCell ⟨R,0,none⟩ u0).setCell ⟨R,1,none⟩ u1).setCell ⟨R,2,none⟩ u2).setCell ⟨R,3,none⟩ u3) ((((w9.setCell ⟨R,0,none⟩ u0).setCell ⟨R,1,none⟩ u1).setCell ⟨R,2,none⟩ u2).setCell ⟨R,3,none⟩ u3).heap.size st x:=by
 have go:=aO (aO (aO (aO (aG R hb) 0 u0) 1 u1) 2 u2) 3 u3
 exact⟨cD (aD o1 go h1),cD (aD o2 go h2),cD (aD o3 go h3),hA.lj,hA.ln,hA.ll,hA.bj,hA.bn,hA.bl,hA.oj,hA.on_,hA.ol⟩
theorem Kt (b:ByteArray) (v:Int) (w:World) (hb:b.size≤9223372036854775807) (hT:Tabs w) (hv:¬ (v<1∨3<v)) (hv2:2<v):Calls Tryz.prog 11 #[.string b,.int .i64 v] w (uV b v w):=by
 have d1:decide (v<1)=false:=decide_eq_false (by omega)
 have d2:decide (3<v)=false:=decide_eq_false (by omega)
 have d3:decide (2<v)=true:=decide_eq_true hv2
 have xO:=hid (fun x h w'=>uV.none_ (w:=w) (w':=w') (KC (b:=b) (e:=x) hv h))
 have Hchk:=hid (fun st r h h3 w'=>uV.none_ (w:=w) (w':=w') (Fr (b:=b) (r:=r) (st:=st) hv h h3))
 have Hok:=hid (fun st r h h3=>Ic (b:=b) (v:=v) (r:=r) (st:=st) hv h h3)
 have wA:=hid (show Dy v b=bZ b by unfold Dy; rw [if_pos hv2])
 have hTl:=hT.lts
 have hb1:Below w.heap.size w (w.alloc (.cells #[.int .i64 v] 3)):=(Below.refl _ _).alloc (Nat.le_refl _) _
 have hb2:=hb1.alloc hb1.size (.cells iT 26)
 have hb3:=hb2.alloc hb2.size (.cells #[.string b,.int .i64 0] 79)
 have hb4:=hb3.alloc hb3.size (.cells #[.pointer (some ⟨w.heap.size+2,0,none⟩)] 77)
 have hb5:=hb4.alloc hb4.size (.cells iT 26)
 have H0:=hid (show DGo w (((((w.alloc (.cells #[.int .i64 v] 3)).alloc (.cells iT 26)).alloc (.cells #[.string b,.int .i64 0] 79)).alloc (.cells #[.pointer (some ⟨w.heap.size+2,0,none⟩)] 77)).alloc (.cells iT 26)) (w.heap.size+2) (.ok () b) w.heap.size (w.heap.size+3) (w.heap.size+4) (w.heap.size+1) v iT from
  { ok:=⟨show Blk _ _ _ _ from (OI w _ _ _ _ _),hb,hT.below hb5,by omega,by omega⟩
    keep:=hb5
    new:=by omega
    q:=OG w _ _ _ _ _
    p:=OJ w _ _ _ _ _
    s:=OK w _ _ _ _ _
    r:=OH w _ _ _ _ _
    qg:=by omega
    pg:=by omega
    sg:=by omega
    rg:=by omega
    qs:=by omega
    ps:=by omega
    rs:=by omega
    nr:=by omega })
 clear hb1 hb2 hb3 hb4 hb5 hv hv2 hb hTl
 go_enter Tryz.func11,Tryz.ntmps11
 go_wp2_with fail
 refine Calls.mono (jS (w.heap.size+2) _ _ H0.out.ok) ?_
 rintro e u1 ⟨AJ,rfl,hv1,ok1,kp1⟩
 have Da:=H0.out.next ok1 kp1
 have zs:u1.frozen? ⟨w.heap.size+4,0,none⟩=false:=Da.s.thaw 0
 have ys:u1.cell? ⟨w.heap.size+4,0,none⟩=some (.int .i64 0):=Da.s.cell 0
 have yp:u1.cell? ⟨w.heap.size+3,0,none⟩=some (.pointer (some ⟨w.heap.size+2,0,none⟩)):=Da.p.cell 0
 have yq:u1.cell? ⟨w.heap.size,0,none⟩=some (.int .i64 v):=Da.q.cell 0
 have hl:w.heap.size+4<u1.heap.size:=Da.s.lt
 have H1:=hid (Da.set 0 (.int .i64 (AJ:Int)))
 clear Da ok1 kp1 H0
 have V1:=hid hv1
 clear hv1
 go_wp2_with fail
 refine Calls.mono (tH.1 (w.heap.size+2) (w.heap.size+3) w.heap.size 40 _ v _ H1.out.ok (by omega) H1.out.p H1.out.pg H1.out.q H1.out.qg) ?_
 rintro e u2 ⟨aj,nj,cj,rfl,ok2,kp2,tb2⟩
 clear yp yq hl zs ys
 have Da:=H1.out.next ok2 kp2
 have zs:u2.frozen? ⟨w.heap.size+4,1,none⟩=false:=Da.s.thaw 1
 have ys:u2.cell? ⟨w.heap.size+4,1,none⟩=some (.slice none 0 0):=Da.s.cell 1
 have yp:u2.cell? ⟨w.heap.size+3,0,none⟩=some (.pointer (some ⟨w.heap.size+2,0,none⟩)):=Da.p.cell 0
 have yq:u2.cell? ⟨w.heap.size,0,none⟩=some (.int .i64 v):=Da.q.cell 0
 have hl:w.heap.size+4<u2.heap.size:=Da.s.lt
 have H2:=hid (Da.set 1 (.slice aj nj cj))
 have G4:=hid (show w.heap.size+4<(u1.setCell ⟨w.heap.size+4,0,none⟩ (.int .i64 (AJ:Int))).heap.size from H1.out.s.lt)
 have Tj:=hid (uW.grow (show uW _ 59 5 aH (u1.setCell ⟨w.heap.size+4,0,none⟩ (.int .i64 (AJ:Int))).heap.size aj nj cj u2 from tb2) (aC u2 (w.heap.size+4) 1 (.slice aj nj cj)) (by have:=G4.out; omega))
 clear Da ok2 kp2 tb2 H1
 go_wp2_with fail
 refine Calls.mono (tH.2.1 (w.heap.size+2) (w.heap.size+3) w.heap.size 20 _ v _ H2.out.ok (by omega) H2.out.p H2.out.pg H2.out.q H2.out.qg) ?_
 rintro e u3 ⟨an,nn,cn,rfl,ok3,kp3,tb3⟩
 clear yp yq hl zs ys
 have Da:=H2.out.next ok3 kp3
 have zs:u3.frozen? ⟨w.heap.size+4,2,none⟩=false:=Da.s.thaw 2
 have ys:u3.cell? ⟨w.heap.size+4,2,none⟩=some (.slice none 0 0):=Da.s.cell 2
 have yp:u3.cell? ⟨w.heap.size+3,0,none⟩=some (.pointer (some ⟨w.heap.size+2,0,none⟩)):=Da.p.cell 0
 have yq:u3.cell? ⟨w.heap.size,0,none⟩=some (.int .i64 v):=Da.q.cell 0
 have hl:w.heap.size+4<u3.heap.size:=Da.s.lt
 have H3:=hid (Da.set 2 (.slice an nn cn))
 have Tj':=hid (Tj.out.grow kp3 (by have:=G4.out; omega))
 have Tj:=hid (Tj'.out.grow (aC u3 (w.heap.size+4) 2 (.slice an nn cn)) (by have:=G4.out; omega))
 clear Tj'
 have MM:=hid (show w.heap.size+4<(u2.setCell ⟨w.heap.size+4,1,none⟩ (.slice aj nj cj)).heap.size from H2.out.s.lt)
 have Tn:=hid (uW.grow (show uW _ 61 3 aI (u2.setCell ⟨w.heap.size+4,1,none⟩ (.slice aj nj cj)).heap.size an nn cn u3 from tb3) (aC u3 (w.heap.size+4) 2 (.slice an nn cn)) (by have:=MM.out; omega))
 clear Da ok3 kp3 tb3 H2
 go_wp2_with fail
 refine Calls.mono (tH.2.2 (w.heap.size+2) 40 _ _ H3.out.ok (by omega)) ?_
 rintro e u4 ⟨al,nl,cl,rfl,ok4,kp4,tb4⟩
 clear yp yq hl zs ys
 have Da:=H3.out.next ok4 kp4
 have zs:u4.frozen? ⟨w.heap.size+4,3,none⟩=false:=Da.s.thaw 3
 have ys:u4.cell? ⟨w.heap.size+4,3,none⟩=some (.slice none 0 0):=Da.s.cell 3
 have yp:u4.cell? ⟨w.heap.size+3,0,none⟩=some (.pointer (some ⟨w.heap.size+2,0,none⟩)):=Da.p.cell 0
 have yq:u4.cell? ⟨w.heap.size,0,none⟩=some (.int .i64 v):=Da.q.cell 0
 have hl:w.heap.size+4<u4.heap.size:=Da.s.lt
 have H4:=hid (Da.set 3 (.slice al nl cl))
 have Tj':=hid (Tj.out.grow kp4 (by have:=G4.out; omega))
 have Tj:=hid (Tj'.out.grow (aC u4 (w.heap.size+4) 3 (.slice al nl cl)) (by have:=G4.out; omega))
 clear Tj'
 have Tn':=hid (Tn.out.grow kp4 (by have:=MM.out; omega))
 have Tn:=hid (Tn'.out.grow (aC u4 (w.heap.size+4) 3 (.slice al nl cl)) (by have:=MM.out; omega))
 clear Tn'
 have Qs:=hid (show w.heap.size+4<(u3.setCell ⟨w.heap.size+4,2,none⟩ (.slice an nn cn)).heap.size from H3.out.s.lt)
 have Tl:=hid (uW.grow (show uW _ 63 3 aE (u3.setCell ⟨w.heap.size+4,2,none⟩ (.slice an nn cn)).heap.size al nl cl u4 from tb4) (aC u4 (w.heap.size+4) 3 (.slice al nl cl)) (by have:=Qs.out; omega))
 clear Da ok4 kp4 tb4 H3
 go_wp2_with fail
 refine Calls.mono (Ri (w.heap.size+2) _ _ H4.out.ok) ?_
 rintro e ue ⟨rfl,ke⟩
 clear yp yq hl zs ys
 have hGd:=H4.out.ok.good
 have hJ:=Nc (v:=v) (b:=b) (r1:=Dy v b) (r2:=(((RR.ok () b).bind fun _ s=>bZ s).st.bind fun _ s=>dH 40 (iR v) s)) (r3:=((((RR.ok () b).bind fun _ s=>bZ s).st.bind fun _ s=>dH 40 (iR v) s).st.bind fun _ s=>dH 20 (gy v) s)) (r4:=(((((RR.ok () b).bind fun _ s=>bZ s).st.bind fun _ s=>dH 40 (iR v) s).st.bind fun _ s=>dH 20 (gy v) s).st.bind fun _ s=>dH 40 gE s)) rfl (by rw [wA.out]; rfl) rfl rfl
 have hSb:=aA ke H4.out.s (by omega)
 have hRb:=aA ke H4.out.r (by omega)
 have hKb:=aJ H4.out.keep ke (by omega)
 have hTj:=Tj.out.grow ke (by have:=G4.out; omega)
 have hTn:=Tn.out.grow ke (by have:=MM.out; omega)
 have hTl:=Tl.out.grow ke (by have:=Qs.out; omega)
 generalize (((((RR.ok () b).bind fun _ s=>bZ s).st.bind fun _ s=>dH 40 (iR v) s).st.bind fun _ s=>dH 20 (gy v) s).st.bind fun _ s=>dH 40 gE s)=R4 at hGd hJ hTl ⊢
 generalize ((((RR.ok () b).bind fun _ s=>bZ s).st.bind fun _ s=>dH 40 (iR v) s).st.bind fun _ s=>dH 20 (gy v) s)=R3 at hJ hTn
 generalize (((RR.ok () b).bind fun _ s=>bZ s).st.bind fun _ s=>dH 40 (iR v) s)=R2 at hJ hTj
 have HRb:=hid hRb
 have HKb:=hid hKb
 have hSl:=hSb.lt
 have hRl:=hRb.lt
 obtain⟨u0,u1,u2,u3⟩:=Blk.z4 (hRb)
 obtain⟨s0,s1,s2,s3⟩:=Blk.c4 (hRb)
 obtain⟨v0,v1,v2,v3⟩:=Blk.c4 (hSb)
 have hcase:(∃ x:Nat,x≠0∧sI R4.st=x∧endP (stP v b) = .bad x)∨(∃ (rev:Nat) (j:List aB) (n:List av) (l:List ak) (s s1 s2 s3:ByteArray),sI R4.st=0∧Dy v b = .ok rev s1∧R2 = .ok j s2∧dH 40 (iR v) s1 = .ok j s2∧R3 = .ok n s3∧dH 20 (gy v) s2 = .ok n s3∧R4 = .ok l s∧dH 40 gE s3 = .ok l s∧endP (stP v b) = .ok ⟨rev,j,n,l⟩ s):=by
  cases hf:R4.st with
  | bad x=>
   rw [hf] at hGd
   exact .inl ⟨x,hGd.1,rfl,by rw [hJ.1 x hf]; rfl⟩
  | ok u s=>
   obtain⟨rev,j,n,l,s1,s2,s3,g1,⟨g2,g2'⟩,⟨g3,g3'⟩,⟨g4,g4'⟩,g5⟩:=hJ.2 s hf
   by_cases hs:s.size=0
   · exact .inr ⟨rev,j,n,l,s,s1,s2,s3,KE hs,g1,g2,g2',g3,g3',g4,g4',by rw [g5]; unfold endP; rw [RR.bind_ok,if_pos hs]⟩
   · exact .inl ⟨4,by decide,KF hs,by rw [g5]; unfold endP; rw [RR.bind_ok,if_neg hs]⟩
 clear hJ hGd ke H4 Tj Tn Tl hRb hKb
 rcases hcase with ⟨x,hx,hEx,hres⟩ | ⟨rev,j,n,l,s,s1,s2,s3,hEx,g1,g2,g2',g3,g3',g4,g4',hres⟩
 · rw [hEx]
   have hne:((x:Int) != 0)=true:=by rw [bne_iff_ne]; omega
   have hR4:=((((HRb.out.set 0 (.int .i64 0)).set 1 (.slice none 0 0)).set 2 (.slice none 0 0)).set 3 (.slice none 0 0))
   have q0:=(show _=(some (.int .i64 0):Option Value) from hR4.cell 0)
   have q1:=(show _=(some (.slice none 0 0):Option Value) from hR4.cell 1)
   have q2:=(show _=(some (.slice none 0 0):Option Value) from hR4.cell 2)
   have q3:=(show _=(some (.slice none 0 0):Option Value) from hR4.cell 3)
   have hK4:=hid (aJ (aJ (aJ (aJ HKb.out (aC _ (w.heap.size+1) 0 (.int .i64 0)) (by omega)) (aC _ (w.heap.size+1) 1 (.slice none 0 0)) (by omega)) (aC _ (w.heap.size+1) 2 (.slice none 0 0)) (by omega)) (aC _ (w.heap.size+1) 3 (.slice none 0 0)) (by omega))
   clear hR4
   have cX:=hid (xO.out x hres _ hK4.out)
   clear hEx hres hTj hTn hTl
   go_wp2
   refine bodyPost_ret (v:=.tuple #[.agg #[.int .i64 0,.slice none 0 0,.slice none 0 0,.slice none 0 0],.int .i64 (x:Int)]) (by simp [results,Tryz.results11,go_sem, *]) rfl ?_
   exact cX.out
 · rw [hEx]
   have hrv:AJ=rev:=by
    have:=V1.out
    rw [show ((RR.ok () b).bind fun _ s=>bZ s)=Dy v b from wA.out.symm ▸ rfl,g1] at this
    exact this
   subst hrv
   obtain⟨a1,a2⟩:=vB g2'
   obtain⟨b1,b2⟩:=vB g3'
   obtain⟨c1,c2⟩:=vB g4'
   obtain⟨tj1,tj2⟩:=hTj j s2 g2
   obtain⟨tn1,tn2⟩:=hTn n s3 g3
   obtain⟨tl1,tl2⟩:=hTl l s g4
   have hAt:StAt ue ue.heap.size ⟨((AJ:Nat):Int),j,n,l⟩ ⟨aj,nj,cj,an,nn,cn,al,nl,cl⟩:=⟨cD tj2,cD tn2,cD tl2,tj1,tn1,tl1,by dsimp only at *; omega,by dsimp only at *; omega,by dsimp only at *; omega,
    fun x hx=>by obtain⟨_,_,h⟩:=a2 x hx; have:=IX h; omega,fun x hx=>by obtain⟨_,_,h⟩:=b2 x hx; have:=Fq h; omega,fun x hx=>by obtain⟨_,_,h⟩:=c2 x hx; have:=Dx h; omega⟩
   have HAt:=hid hAt
   have Tj2:=hid tj2
   have Tn2:=hid tn2
   have Tl2:=hid tl2
   have HC:=hid (fq _ _ ue hAt (hT.below HKb.out))
   have Pi:=hid (Hchk.out _ s hres)
   have Hok':=hid (Hok.out _ s hres)
   clear hAt a1 a2 b1 b2 c1 c2 tj1 tj2 tn1 tn2 tl1 tl2 g1 g2 g2' g3 g3' g4 g4' hTj hTn hTl hres hEx
   obtain⟨E,hE⟩:∃ E,ay (⟨((AJ:Nat):Int),j,n,l⟩:ah)=E:=⟨_,rfl⟩
   rw [hE] at HC Pi Hok'
   clear hE
   simp only [stC] at HC
   go_wp2_with fail
   refine Calls.mono HC.out ?_
   rintro e w9 ⟨rfl,hb9⟩
   have HR9:=hid (HRb.out.below hb9 hRl)
   have HS9:=hSb.below hb9 hSl
   have HK9:=hid (HKb.out.trans (hb9.mono HKb.out.size))
   have Hb9:=hid hb9
   have hsz9:=hb9.size
   clear v0 v1 v2 v3 hSb
   obtain⟨uu0,uu1,uu2,uu3⟩:=Blk.z4 (HR9.out)
   obtain⟨ss0,ss1,ss2,ss3⟩:=Blk.c4 (HR9.out)
   obtain⟨vv0,vv1,vv2,vv3⟩:=Blk.c4 (HS9)
   clear HS9 hb9
   by_cases h0:E=0
   · subst h0
     have Hres:=hid (Hok'.out rfl)
     have hR4:=((((HR9.out.set 0 (.int .i64 (AJ:Int))).set 1 (.slice aj nj cj)).set 2 (.slice an nn cn)).set 3 (.slice al nl cl))
     have q0:=(show _=(some (.int .i64 (AJ:Int)):Option Value) from hR4.cell 0)
     have q1:=(show _=(some (.slice aj nj cj):Option Value) from hR4.cell 1)
     have q2:=(show _=(some (.slice an nn cn):Option Value) from hR4.cell 2)
     have q3:=(show _=(some (.slice al nl cl):Option Value) from hR4.cell 3)
     have hK4:=hid (aJ (aJ (aJ (aJ HK9.out (aC _ (w.heap.size+1) 0 (.int .i64 (AJ:Int))) (by omega)) (aC _ (w.heap.size+1) 1 (.slice aj nj cj)) (by omega)) (aC _ (w.heap.size+1) 2 (.slice an nn cn)) (by omega)) (aC _ (w.heap.size+1) 3 (.slice al nl cl)) (by omega))
     clear hR4
     go_wp2
     refine bodyPost_ret (v:=.tuple #[.agg #[.int .i64 (AJ:Int),.slice aj nj cj,.slice an nn cn,.slice al nl cl],.int .i64 0]) (by simp [results,Tryz.results11,go_sem, *]) rfl ?_
     refine⟨⟨((AJ:Nat):Int),j,n,l⟩,⟨aj,nj,cj,an,nn,cn,al,nl,cl⟩,0,rfl,Hres.out,?_,hK4.out⟩
     exact Ks HAt.out Tj2.out Tn2.out Tl2.out (by have:=G4.out; omega) (by have:=MM.out; omega) (by have:=Qs.out; omega) Hb9.out _ _ _ _
   · have hne:(E != 0)=true:=bne_iff_ne.2 h0
     have hR4:=((((HR9.out.set 0 (.int .i64 0)).set 1 (.slice none 0 0)).set 2 (.slice none 0 0)).set 3 (.slice none 0 0))
     have q0:=(show _=(some (.int .i64 0):Option Value) from hR4.cell 0)
     have q1:=(show _=(some (.slice none 0 0):Option Value) from hR4.cell 1)
     have q2:=(show _=(some (.slice none 0 0):Option Value) from hR4.cell 2)
     have q3:=(show _=(some (.slice none 0 0):Option Value) from hR4.cell 3)
     have hK4:=hid (aJ (aJ (aJ (aJ HK9.out (aC _ (w.heap.size+1) 0 (.int .i64 0)) (by omega)) (aC _ (w.heap.size+1) 1 (.slice none 0 0)) (by omega)) (aC _ (w.heap.size+1) 2 (.slice none 0 0)) (by omega)) (aC _ (w.heap.size+1) 3 (.slice none 0 0)) (by omega))
     clear hR4
     have cX:=hid (Pi.out h0 _ hK4.out)
     go_wp2
     refine bodyPost_ret (v:=.tuple #[.agg #[.int .i64 0,.slice none 0 0,.slice none 0 0,.slice none 0 0],.int .i64 E]) (by simp [results,Tryz.results11,go_sem, *]) rfl ?_
     exact cX.out
end Go.Proofs.YtcpgnjmaampglaaGreatDoor
