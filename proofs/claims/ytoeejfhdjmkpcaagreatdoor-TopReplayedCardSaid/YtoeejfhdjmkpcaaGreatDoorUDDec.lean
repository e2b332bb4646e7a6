/- Of the proof of a statement: DDec. -/
import Derived.Deep.RegionWith
import Derived.Deep.Cut
import Derived.Deep.CutRange
import Derived.Test.YtoeejfhdjmkpcaaGreatDoorUPlSrv
import Derived.Test.YtoeejfhdjmkpcaaGreatDoorUTakeD
set_option linter.unusedVariables false
set_option linter.unusedSimpArgs false
set_option maxRecDepth 100000
set_option maxHeartbeats 8000000
/- The walk of delta.Decode. -/
namespace Go.Proofs.YtoeejfhdjmkpcaaGreatDoor
open Go.Lib (hid)
open Go.RowKit
def o9 (b:ByteArray) (w:World) (e:Ending) (w':World):Prop:=
 ∃ (d:aM) (x:eI) (E:Int),e = .returned (.tuple #[.agg (dC d x),.int .i64 E])∧pq b=(d,E)∧dH w' w'.heap.size d x∧Below w.heap.size w w'
def Lh:eI:=⟨none,0,0,none,0,0,none,0,0,none,0,0,none,0,0,none,0,0⟩
theorem GQ (w:World) (B:Nat):dH w B nY Lh:=
 ⟨aQ.nil,aQ.nil,aQ.nil,aQ.nil,aQ.nil,aQ.nil,rfl,rfl,rfl,rfl,rfl,rfl,by decide,by decide,by decide,by decide,by decide,by decide,(fun _ h=>by cases h),(fun _ h=>by cases h),(fun _ h=>by cases h),(fun _ h=>by cases h),(fun _ h=>by cases h),(fun _ h=>by cases h)⟩
theorem o9.none_ {b:ByteArray} {E:Int} {w w':World} (h:pq b=(nY,E)) (hb:Below w.heap.size w w'):o9 b w (.returned (.tuple #[.agg cI,.int .i64 E])) w':=
 ⟨nY,Lh,E,rfl,h,GQ _ _,hb⟩
theorem EW {f t:Nat} (hf:f≤4611686018427387904) (ht:t≤4611686018427387904):IntKind.i64.wrap ((f:Int)+(t:Int))=gJ f t:=by
 rw [IntKind.wrap_i64]
 unfold gJ
 split <;> omega
theorem zw (w:World) (b:Nat):w.grownBy w.drew (some b):=⟨rfl,rfl,rfl,Nat.le_refl _,fun _ _ _=>rfl⟩
structure DGe (w0 w:World) (G:Nat) (σ:RR Unit) (P D R:Nat) (cs:Array Value):Prop where
 ok:fG w G σ
 keep:Below w0.heap.size w0 w
 new:w0.heap.size≤G
 p:Blk w P 143 #[.pointer (some ⟨G,0,none⟩)]
 d:Blk w D 45 cs
 r:Blk w R 45 cI
 pg:P≠G
 dg:G<D
 rg:R≠G
 pd:P≠D
 rd:R≠D
 nr:w0.heap.size≤R
theorem DGe.next {w0 w w':World} {G P D R:Nat} {σ σ':RR Unit} {cs:Array Value} (h:DGe w0 w G σ P D R cs) (hok:fG w' G σ') (hg:w.grownBy w' (some G)):DGe w0 w' G σ' P D R cs:=
 ⟨hok,aI h.keep hg h.new,h.new,aE hg h.p h.pg,aE hg h.d (Nat.ne_of_gt h.dg),aE hg h.r h.rg,h.pg,h.dg,h.rg,h.pd,h.rd,h.nr⟩
theorem DGe.put {w0 w:World} {G P D R:Nat} {σ:RR Unit} {cs:Array Value} (h:DGe w0 w G σ P D R cs) (i:Nat) (u:Value) (cs':Array Value) (e:cs.setIfInBounds i u=cs'):DGe w0 (w.setCell ⟨D,i,none⟩ u) G σ P D R cs':=
 e ▸ ⟨h.ok.set _ _ _ h.dg,aI h.keep (aD w D i u) (Nat.le_of_lt (Nat.lt_of_le_of_lt h.new h.dg)),h.new,aE (aD _ _ _ _) h.p h.pd,h.d.set i u,aE (aD _ _ _ _) h.r h.rd,h.pg,h.dg,h.rg,h.pd,h.rd,h.nr⟩
theorem DGe.drew {w0 w:World} {G P D R:Nat} {σ:RR Unit} {cs:Array Value} (h:DGe w0 w G σ P D R cs):DGe w0 w.drew G σ P D R cs:=
 ⟨h.ok.grow (zw w (G+1)) (Nat.lt_succ_self _),aI h.keep (zw w G) h.new,h.new,h.p,h.d,h.r,h.pg,h.dg,h.rg,h.pd,h.rd,h.nr⟩
structure qO (w:World) (g:Nat) (d:aM) (x:eI):Prop where
 j:∃ b,g<b∧w.ownsRow b 34 5 (.slice x.aj x.nj x.cj) x.nj (au aJ d.jobs)
 n:∃ b,g<b∧w.ownsRow b 36 3 (.slice x.an x.nn x.cn) x.nn (au aB d.nodes)
 l:∃ b,g<b∧w.ownsRow b 38 3 (.slice x.al x.nl x.cl) x.nl (au ay d.leases)
 gj:∃ b,g<b∧w.ownsRow b 9 1 (.slice x.agj x.ngj x.cgj) x.ngj (au jh d.gj)
 gn:∃ b,g<b∧w.ownsRow b 9 1 (.slice x.agn x.ngn x.cgn) x.ngn (au jh d.gn)
 gl:∃ b,g<b∧w.ownsRow b 9 1 (.slice x.agl x.ngl x.cgl) x.ngl (au jh d.gl)
 lj:d.jobs.length=x.nj
 ln:d.nodes.length=x.nn
 ll:d.leases.length=x.nl
 lgj:d.gj.length=x.ngj
 lgn:d.gn.length=x.ngn
 lgl:d.gl.length=x.ngl
theorem uI {w w':World} {g sz n:Nat} {e:TypeId} {v:Value} {xs:List Value} (h:∃ b,g<b∧w.ownsRow b e sz v n xs) (hg:w.grownBy w' (some g)):∃ b,g<b∧w'.ownsRow b e sz v n xs:=by
 obtain⟨b,hb,ho⟩:=h; exact⟨b,hb,bG ho hg hb⟩
theorem qO.grow {w w':World} {g:Nat} {d:aM} {x:eI} (h:qO w g d x) (hg:w.grownBy w' (some g)):qO w' g d x:=
 ⟨uI h.j hg,uI h.n hg,uI h.l hg,uI h.gj hg,uI h.gn hg,uI h.gl hg,h.lj,h.ln,h.ll,h.lgj,h.lgn,h.lgl⟩
structure Al (d:aM):Prop where
 j:d.jobs.length≤40
 n:d.nodes.length≤20
 l:d.leases.length≤40
 gj:d.gj.length≤40
 gn:d.gn.length≤20
 gl:d.gl.length≤40
 oj:mU d.jobs
 on_:lB d.nodes
 ol:jK d.leases
 ogj:lC d.gj
 ogn:lC d.gn
 ogl:lC d.gl
theorem lO {w:World} {g sz n c:Nat} {A:Option Addr} {e:TypeId} {xs:List Value} (h:∃ b,g<b∧w.ownsRow b e sz (.slice A n c) n xs):aQ w w.heap.size sz A n xs:=by
 obtain⟨b,hb,ho⟩:=h; exact cP ho
theorem qO.at_ {w:World} {g:Nat} {d:aM} {x:eI} (h:qO w g d x) (z:Al d):dH w w.heap.size d x:=
 ⟨lO h.j,lO h.n,lO h.l,lO h.gj,lO h.gn,lO h.gl,h.lj,h.ln,h.ll,h.lgj,h.lgn,h.lgl,
  by have:=z.j; have:=h.lj; omega,by have:=z.n; have:=h.ln; omega,by have:=z.l; have:=h.ll; omega,by have:=z.gj; have:=h.lgj; omega,by have:=z.gn; have:=h.lgn; omega,by have:=z.gl; have:=h.lgl; omega,
  z.oj,z.on_,z.ol,z.ogj,z.ogn,z.ogl⟩
theorem yU (b:ByteArray) (w:World) (hb:6000<b.size) (hb2:b.size≤9223372036854775807):Calls Tryz.prog 20 #[.string b] w (o9 b w):=by
 have aS:=hid (fun w'=>o9.none_ (w:=w) (w':=w') (Bl hb))
 have Hb1:=hid (show Below w.heap.size w (w.alloc (.cells cI 45)) from (Below.refl _ _).alloc (Nat.le_refl _) _)
 have d1:decide ((6000:Int)<(b.size:Int))=true:=decide_eq_true (by omega)
 go_enter Tryz.func20,Tryz.ntmps20
 go_wp2
 refine bodyPost_ret (v:=.tuple #[.agg #[.int .i64 0,.int .i64 0,.slice none 0 0,.slice none 0 0,.slice none 0 0,.slice none 0 0,.slice none 0 0,.slice none 0 0],.int .i64 2]) (by simp [results,Tryz.results20,go_sem]) rfl ?_
 exact aS.out _ Hb1.out
theorem CP (b:ByteArray) (w:World) (hT:Tabs w) (hb:¬ 6000<b.size):Calls Tryz.prog 20 #[.string b] w (o9 b w):=by
 have d1:decide ((6000:Int)<(b.size:Int))=false:=decide_eq_false (by omega)
 have LI:=hid (fun x h w'=>o9.none_ (w:=w) (w':=w') (EX (b:=b) (e:=x) hb h))
 have Hchk:=hid (fun d r h h3 w'=>o9.none_ (w:=w) (w':=w') (Bn (b:=b) (r:=r) (d:=d) hb h h3))
 have Hok:=hid (fun d r h h3=>Bo (b:=b) (r:=r) (d:=d) hb h h3)
 have hTl:=hT.lts
 have hb1:Below w.heap.size w (w.alloc (.cells cI 45)):=(Below.refl _ _).alloc (Nat.le_refl _) _
 have hb2:=hb1.alloc hb1.size (.cells #[.string b,.int .i64 0] 145)
 have hb3:=hb2.alloc hb2.size (.cells #[.pointer (some ⟨w.heap.size+1,0,none⟩)] 143)
 have n0:Blk (((w.alloc (.cells cI 45)).alloc (.cells #[.string b,.int .i64 0] 145)).alloc (.cells #[.pointer (some ⟨w.heap.size+1,0,none⟩)] 143)) w.heap.size 45 cI:=Blk.alloc (Blk.alloc (show Blk _ _ _ _ from heap_alloc_new w _) _) _
 have n1:Blk (((w.alloc (.cells cI 45)).alloc (.cells #[.string b,.int .i64 0] 145)).alloc (.cells #[.pointer (some ⟨w.heap.size+1,0,none⟩)] 143)) (w.heap.size+1) 145 #[.string b,.int .i64 0]:=by
  have h:=heap_alloc_new (w.alloc (.cells cI 45)) (.cells #[.string b,.int .i64 0] 145)
  rw [show (w.alloc (.cells cI 45)).heap.size=w.heap.size+1 by simp] at h
  exact Blk.alloc (show Blk _ _ _ _ from h) _
 have n2:Blk (((w.alloc (.cells cI 45)).alloc (.cells #[.string b,.int .i64 0] 145)).alloc (.cells #[.pointer (some ⟨w.heap.size+1,0,none⟩)] 143)) (w.heap.size+2) 143 #[.pointer (some ⟨w.heap.size+1,0,none⟩)]:=by
  have h:=heap_alloc_new ((w.alloc (.cells cI 45)).alloc (.cells #[.string b,.int .i64 0] 145)) (.cells #[.pointer (some ⟨w.heap.size+1,0,none⟩)] 143)
  rw [show ((w.alloc (.cells cI 45)).alloc (.cells #[.string b,.int .i64 0] 145)).heap.size=w.heap.size+2 by simp] at h
  exact h
 have hx0:fG (((w.alloc (.cells cI 45)).alloc (.cells #[.string b,.int .i64 0] 145)).alloc (.cells #[.pointer (some ⟨w.heap.size+1,0,none⟩)] 143)) (w.heap.size+1) (.ok () b):=⟨n1,(show b.size≤qN by unfold qN; omega),hT.below hb3,by omega,by omega⟩
 have HN:=hid (gK (w.heap.size+1) (.ok () b) (((w.alloc (.cells cI 45)).alloc (.cells #[.string b,.int .i64 0] 145)).alloc (.cells #[.pointer (some ⟨w.heap.size+1,0,none⟩)] 143)) hx0)
 have N0:=hid n0
 have N2:=hid n2
 have HB3:=hid hb3
 have hT2:=hid hT
 clear hT hb hTl hb1 hb2 hb3 n0 n1 n2 hx0
 go_enter Tryz.func20,Tryz.ntmps20
 go_wp2_with fail
 refine Calls.mono HN.out ?_
 rintro e u1 ⟨f,rfl,hv1,ok1,kp1⟩
 have hf:=kI hv1
 have V1:=hid hv1
 have hDs:w.heap.size+2<u1.heap.size:=(aE kp1 N2.out (by omega)).lt
 have yp1:u1.cell? ⟨w.heap.size+2,0,none⟩=some (.pointer (some ⟨w.heap.size+1,0,none⟩)):=(aE kp1 N2.out (by omega)).cell 0
 have h1:DGe w (u1.alloc (.cells #[.int .i64 (f:Int),.int .i64 0,.slice none 0 0,.slice none 0 0,.slice none 0 0,.slice none 0 0,.slice none 0 0,.slice none 0 0] 45)) (w.heap.size+1) _ (w.heap.size+2) u1.heap.size w.heap.size #[.int .i64 (f:Int),.int .i64 0,.slice none 0 0,.slice none 0 0,.slice none 0 0,.slice none 0 0,.slice none 0 0,.slice none 0 0]:=
  { ok:=ok1.alloc _
    keep:=(aI HB3.out kp1 (by omega)).alloc (Nat.le_of_lt (Nat.lt_of_le_of_lt (Nat.le_add_right _ _) hDs)) _
    new:=by omega
    p:=(aE kp1 N2.out (by omega)).alloc _
    d:=heap_alloc_new u1 _
    r:=(aE kp1 N0.out (by omega)).alloc _
    pg:=by omega
    dg:=by omega
    rg:=by omega
    pd:=by omega
    rd:=by omega
    nr:=Nat.le_refl _ }
 have H1:=hid h1.drew
 have HN2:=hid (gK (w.heap.size+1) _ _ h1.drew.ok)
 clear kp1 N0 N2 HB3 HN
 generalize hR1:((RR.ok () b).bind fun _ s=>cO s)=R1 at hv1 h1 ok1
 have E1:=hid (show R1=cO b from hR1.symm)
 have V1:=hid hv1
 have H1:=hid h1.drew
 have HN2:=hid (gK (w.heap.size+1) _ _ h1.drew.ok)
 clear hv1 ok1 h1 hR1
 generalize hu:u1.heap.size=D at H1 hDs
 have Hu:=hid hu
 clear hu
 go_upto_region 5 with fail
 rw [Hu.out]
 go_cut [] from 18 to 23 (fun wx=>∃ t:Nat,t≤4611686018427387904∧jc (R1.st.bind fun _ s=>cO s) (fun n=>n=0) t∧DGe w wx (w.heap.size+1) (R1.st.bind fun _ s=>cO s).st (w.heap.size+2) D w.heap.size #[.int .i64 (f:Int),.int .i64 (gJ f t),.slice none 0 0,.slice none 0 0,.slice none 0 0,.slice none 0 0,.slice none 0 0,.slice none 0 0])
 case first=>
  have xd0:(u1.alloc (.cells #[.int .i64 (f:Int),.int .i64 0,.slice none 0 0,.slice none 0 0,.slice none 0 0,.slice none 0 0,.slice none 0 0,.slice none 0 0] 45)).drew.cell? ⟨D,0,none⟩=some (.int .i64 (f:Int)):=H1.out.d.cell 0
  have xp0:(u1.alloc (.cells #[.int .i64 (f:Int),.int .i64 0,.slice none 0 0,.slice none 0 0,.slice none 0 0,.slice none 0 0,.slice none 0 0,.slice none 0 0] 45)).drew.cell? ⟨w.heap.size+2,0,none⟩=some (.pointer (some ⟨w.heap.size+1,0,none⟩)):=H1.out.p.cell 0
  have hW:=hid (fun t ht=>EW (f:=f) (t:=t) hf ht)
  generalize (u1.alloc (.cells #[.int .i64 (f:Int),.int .i64 0,.slice none 0 0,.slice none 0 0,.slice none 0 0,.slice none 0 0,.slice none 0 0,.slice none 0 0] 45))=W1 at H1 HN2 xd0 xp0 ⊢
  clear yp1 hf
  go_region_with (go_at_call 70; refine (HN2.out).mono ?_; rintro e u2 ⟨t,rfl,hv2,ok2,kp2⟩; have ht:=kI hv2; have hw:=hW.out t ht; have h2:=H1.out.next ok2 kp2; have c0:u2.cell? ⟨D,0,none⟩=some (.int .i64 (f:Int)):=h2.d.cell 0; have c1:u2.cell? ⟨D,1,none⟩=some (.int .i64 0):=h2.d.cell 1; have z1:u2.frozen? ⟨D,1,none⟩=false:=h2.d.thaw 1; have HF:=hid (show t≤4611686018427387904∧jc (R1.st.bind fun _ s=>cO s) (fun n=>n=0) t∧DGe w (u2.setCell ⟨D,1,none⟩ (.int .i64 (gJ f t))) (w.heap.size+1) (R1.st.bind fun _ s=>cO s).st (w.heap.size+2) D w.heap.size #[.int .i64 (f:Int),.int .i64 (gJ f t),.slice none 0 0,.slice none 0 0,.slice none 0 0,.slice none 0 0,.slice none 0 0,.slice none 0 0] from ⟨ht,hv2,h2.put 1 (.int .i64 (gJ f t)) _ rfl⟩); clear hv2 ok2 kp2 h2)
  all_goals (go_wp2_with fail; go_meet; exact⟨t,HF.out⟩)
 clear yp1 HN2 H1 Hu
 obtain⟨t,ht,hv2,h2⟩:=hcut
 generalize hR2:(R1.st.bind fun _ s=>cO s)=R2 at hv2 h2
 have E2:=hid hR2.symm
 have V2:=hid hv2
 have H2:=hid h2
 have ypc:wc.cell? ⟨w.heap.size+2,0,none⟩=some (.pointer (some ⟨w.heap.size+1,0,none⟩)):=h2.p.cell 0
 have hDl:D<wc.heap.size:=h2.d.lt
 clear hR2 hv2 h2
 go_wp2_with fail
 refine Calls.mono (EY (w.heap.size+1) (w.heap.size+2) 40 _ _ H2.out.ok (by omega) H2.out.p H2.out.pg) ?_
 rintro e u3 ⟨aj,nj,cj,rfl,ok3,kp3,tb3⟩
 generalize hR3:(R2.st.bind fun _ s=>cW 40 (mW 3) s)=R3 at ok3 tb3
 have E3:=hid hR3.symm
 clear hR3 ypc
 have Da:=H2.out.next ok3 kp3
 have zs:u3.frozen? ⟨D,2,none⟩=false:=Da.d.thaw 2
 have ys:u3.cell? ⟨D,2,none⟩=some (.slice none 0 0):=Da.d.cell 2
 have yp3:u3.cell? ⟨w.heap.size+2,0,none⟩=some (.pointer (some ⟨w.heap.size+1,0,none⟩)):=Da.p.cell 0
 have H3:=hid (Da.put 2 (.slice aj nj cj) #[.int .i64 (f:Int),.int .i64 (gJ f t),.slice aj nj cj,.slice none 0 0,.slice none 0 0,.slice none 0 0,.slice none 0 0,.slice none 0 0] rfl)
 have sO:=hid (show D<wc.heap.size from H2.out.d.lt)
 have Tj:=hid (l9.grow (show l9 _ 34 5 aJ wc.heap.size aj nj cj u3 from tb3) (aD u3 D 2 (.slice aj nj cj)) (by have:=sO.out; omega))
 have hDl:D<u3.heap.size:=Da.d.lt
 clear Da ok3 kp3 tb3 H2
 go_wp2_with fail
 refine Calls.mono (CQ (w.heap.size+1) (w.heap.size+2) 20 _ _ H3.out.ok (by omega) H3.out.p H3.out.pg) ?_
 rintro e u4 ⟨an,nn,cn,rfl,ok4,kp4,tb4⟩
 generalize hR4:(R3.st.bind fun _ s=>cW 20 (jM 3) s)=R4 at ok4 tb4
 have E4:=hid hR4.symm
 clear hR4 yp3 zs ys
 have Da:=H3.out.next ok4 kp4
 have zs:u4.frozen? ⟨D,3,none⟩=false:=Da.d.thaw 3
 have ys:u4.cell? ⟨D,3,none⟩=some (.slice none 0 0):=Da.d.cell 3
 have yp4:u4.cell? ⟨w.heap.size+2,0,none⟩=some (.pointer (some ⟨w.heap.size+1,0,none⟩)):=Da.p.cell 0
 have H4:=hid (Da.put 3 (.slice an nn cn) #[.int .i64 (f:Int),.int .i64 (gJ f t),.slice aj nj cj,.slice an nn cn,.slice none 0 0,.slice none 0 0,.slice none 0 0,.slice none 0 0] rfl)
 have Tj':=hid (Tj.out.grow kp4 (by have:=sO.out; omega))
 have Tj:=hid (Tj'.out.grow (aD u4 D 3 (.slice an nn cn)) (by have:=sO.out; omega))
 clear Tj'
 have wC:=hid (show D<(u3.setCell ⟨D,2,none⟩ (.slice aj nj cj)).heap.size from H3.out.d.lt)
 have Tn:=hid (l9.grow (show l9 _ 36 3 aB (u3.setCell ⟨D,2,none⟩ (.slice aj nj cj)).heap.size an nn cn u4 from tb4) (aD u4 D 3 (.slice an nn cn)) (by have:=wC.out; omega))
 have hDl:D<u4.heap.size:=Da.d.lt
 clear Da ok4 kp4 tb4 H3
 go_wp2_with fail
 refine Calls.mono (Bp (w.heap.size+1) 40 _ _ H4.out.ok (by omega)) ?_
 rintro e u5 ⟨al,nl,cl,rfl,ok5,kp5,tb5⟩
 generalize hR5:(R4.st.bind fun _ s=>cW 40 gT s)=R5 at ok5 tb5
 have E5:=hid hR5.symm
 clear hR5 yp4 zs ys
 have Da:=H4.out.next ok5 kp5
 have zs:u5.frozen? ⟨D,4,none⟩=false:=Da.d.thaw 4
 have ys:u5.cell? ⟨D,4,none⟩=some (.slice none 0 0):=Da.d.cell 4
 have yp5:u5.cell? ⟨w.heap.size+2,0,none⟩=some (.pointer (some ⟨w.heap.size+1,0,none⟩)):=Da.p.cell 0
 have H5:=hid (Da.put 4 (.slice al nl cl) #[.int .i64 (f:Int),.int .i64 (gJ f t),.slice aj nj cj,.slice an nn cn,.slice al nl cl,.slice none 0 0,.slice none 0 0,.slice none 0 0] rfl)
 have Tj':=hid (Tj.out.grow kp5 (by have:=sO.out; omega))
 have Tj:=hid (Tj'.out.grow (aD u5 D 4 (.slice al nl cl)) (by have:=sO.out; omega))
 clear Tj'
 have Tn':=hid (Tn.out.grow kp5 (by have:=wC.out; omega))
 have Tn:=hid (Tn'.out.grow (aD u5 D 4 (.slice al nl cl)) (by have:=wC.out; omega))
 clear Tn'
 have yV:=hid (show D<(u4.setCell ⟨D,3,none⟩ (.slice an nn cn)).heap.size from H4.out.d.lt)
 have Tl:=hid (l9.grow (show l9 _ 38 3 ay (u4.setCell ⟨D,3,none⟩ (.slice an nn cn)).heap.size al nl cl u5 from tb5) (aD u5 D 4 (.slice al nl cl)) (by have:=yV.out; omega))
 have hDl:D<u5.heap.size:=Da.d.lt
 clear Da ok5 kp5 tb5 H4
 go_wp2_with fail
 refine Calls.mono (uJ (w.heap.size+1) 40 _ _ H5.out.ok (by omega)) ?_
 rintro e u6 ⟨agj,ngj,cgj,rfl,ok6,kp6,tb6⟩
 generalize hR6:(R5.st.bind fun _ s=>cW 40 bH s)=R6 at ok6 tb6
 have E6:=hid hR6.symm
 clear hR6 yp5 zs ys
 have Da:=H5.out.next ok6 kp6
 have zs:u6.frozen? ⟨D,5,none⟩=false:=Da.d.thaw 5
 have ys:u6.cell? ⟨D,5,none⟩=some (.slice none 0 0):=Da.d.cell 5
 have yp6:u6.cell? ⟨w.heap.size+2,0,none⟩=some (.pointer (some ⟨w.heap.size+1,0,none⟩)):=Da.p.cell 0
 have H6:=hid (Da.put 5 (.slice agj ngj cgj) #[.int .i64 (f:Int),.int .i64 (gJ f t),.slice aj nj cj,.slice an nn cn,.slice al nl cl,.slice agj ngj cgj,.slice none 0 0,.slice none 0 0] rfl)
 have Tj':=hid (Tj.out.grow kp6 (by have:=sO.out; omega))
 have Tj:=hid (Tj'.out.grow (aD u6 D 5 (.slice agj ngj cgj)) (by have:=sO.out; omega))
 clear Tj'
 have Tn':=hid (Tn.out.grow kp6 (by have:=wC.out; omega))
 have Tn:=hid (Tn'.out.grow (aD u6 D 5 (.slice agj ngj cgj)) (by have:=wC.out; omega))
 clear Tn'
 have Tl':=hid (Tl.out.grow kp6 (by have:=yV.out; omega))
 have Tl:=hid (Tl'.out.grow (aD u6 D 5 (.slice agj ngj cgj)) (by have:=yV.out; omega))
 clear Tl'
 have vM:=hid (show D<(u5.setCell ⟨D,4,none⟩ (.slice al nl cl)).heap.size from H5.out.d.lt)
 have Tgj:=hid (l9.grow (show l9 _ 9 1 jh (u5.setCell ⟨D,4,none⟩ (.slice al nl cl)).heap.size agj ngj cgj u6 from tb6) (aD u6 D 5 (.slice agj ngj cgj)) (by have:=vM.out; omega))
 have hDl:D<u6.heap.size:=Da.d.lt
 clear Da ok6 kp6 tb6 H5
 go_wp2_with fail
 refine Calls.mono (uJ (w.heap.size+1) 20 _ _ H6.out.ok (by omega)) ?_
 rintro e u7 ⟨agn,ngn,cgn,rfl,ok7,kp7,tb7⟩
 generalize hR7:(R6.st.bind fun _ s=>cW 20 bH s)=R7 at ok7 tb7
 have E7:=hid hR7.symm
 clear hR7 yp6 zs ys
 have Da:=H6.out.next ok7 kp7
 have zs:u7.frozen? ⟨D,6,none⟩=false:=Da.d.thaw 6
 have ys:u7.cell? ⟨D,6,none⟩=some (.slice none 0 0):=Da.d.cell 6
 have yp7:u7.cell? ⟨w.heap.size+2,0,none⟩=some (.pointer (some ⟨w.heap.size+1,0,none⟩)):=Da.p.cell 0
 have H7:=hid (Da.put 6 (.slice agn ngn cgn) #[.int .i64 (f:Int),.int .i64 (gJ f t),.slice aj nj cj,.slice an nn cn,.slice al nl cl,.slice agj ngj cgj,.slice agn ngn cgn,.slice none 0 0] rfl)
 have Tj':=hid (Tj.out.grow kp7 (by have:=sO.out; omega))
 have Tj:=hid (Tj'.out.grow (aD u7 D 6 (.slice agn ngn cgn)) (by have:=sO.out; omega))
 clear Tj'
 have Tn':=hid (Tn.out.grow kp7 (by have:=wC.out; omega))
 have Tn:=hid (Tn'.out.grow (aD u7 D 6 (.slice agn ngn cgn)) (by have:=wC.out; omega))
 clear Tn'
 have Tl':=hid (Tl.out.grow kp7 (by have:=yV.out; omega))
 have Tl:=hid (Tl'.out.grow (aD u7 D 6 (.slice agn ngn cgn)) (by have:=yV.out; omega))
 clear Tl'
 have GR:=hid (Tgj.out.grow kp7 (by have:=vM.out; omega))
 have Tgj:=hid (GR.out.grow (aD u7 D 6 (.slice agn ngn cgn)) (by have:=vM.out; omega))
 clear GR
 have zx:=hid (show D<(u6.setCell ⟨D,5,none⟩ (.slice agj ngj cgj)).heap.size from H6.out.d.lt)
 have Tgn:=hid (l9.grow (show l9 _ 9 1 jh (u6.setCell ⟨D,5,none⟩ (.slice agj ngj cgj)).heap.size agn ngn cgn u7 from tb7) (aD u7 D 6 (.slice agn ngn cgn)) (by have:=zx.out; omega))
 have hDl:D<u7.heap.size:=Da.d.lt
 clear Da ok7 kp7 tb7 H6
 go_wp2_with fail
 refine Calls.mono (uJ (w.heap.size+1) 40 _ _ H7.out.ok (by omega)) ?_
 rintro e u8 ⟨agl,ngl,cgl,rfl,ok8,kp8,tb8⟩
 generalize hR8:(R7.st.bind fun _ s=>cW 40 bH s)=R8 at ok8 tb8
 have E8:=hid hR8.symm
 clear hR8 yp7 zs ys
 have Da:=H7.out.next ok8 kp8
 have zs:u8.frozen? ⟨D,7,none⟩=false:=Da.d.thaw 7
 have ys:u8.cell? ⟨D,7,none⟩=some (.slice none 0 0):=Da.d.cell 7
 have yp8:u8.cell? ⟨w.heap.size+2,0,none⟩=some (.pointer (some ⟨w.heap.size+1,0,none⟩)):=Da.p.cell 0
 have H8:=hid (Da.put 7 (.slice agl ngl cgl) #[.int .i64 (f:Int),.int .i64 (gJ f t),.slice aj nj cj,.slice an nn cn,.slice al nl cl,.slice agj ngj cgj,.slice agn ngn cgn,.slice agl ngl cgl] rfl)
 have Tj':=hid (Tj.out.grow kp8 (by have:=sO.out; omega))
 have Tj:=hid (Tj'.out.grow (aD u8 D 7 (.slice agl ngl cgl)) (by have:=sO.out; omega))
 clear Tj'
 have Tn':=hid (Tn.out.grow kp8 (by have:=wC.out; omega))
 have Tn:=hid (Tn'.out.grow (aD u8 D 7 (.slice agl ngl cgl)) (by have:=wC.out; omega))
 clear Tn'
 have Tl':=hid (Tl.out.grow kp8 (by have:=yV.out; omega))
 have Tl:=hid (Tl'.out.grow (aD u8 D 7 (.slice agl ngl cgl)) (by have:=yV.out; omega))
 clear Tl'
 have GR:=hid (Tgj.out.grow kp8 (by have:=vM.out; omega))
 have Tgj:=hid (GR.out.grow (aD u8 D 7 (.slice agl ngl cgl)) (by have:=vM.out; omega))
 clear GR
 have Tgn':=hid (Tgn.out.grow kp8 (by have:=zx.out; omega))
 have Tgn:=hid (Tgn'.out.grow (aD u8 D 7 (.slice agl ngl cgl)) (by have:=zx.out; omega))
 clear Tgn'
 have Ef:=hid (show D<(u7.setCell ⟨D,6,none⟩ (.slice agn ngn cgn)).heap.size from H7.out.d.lt)
 have Tgl:=hid (l9.grow (show l9 _ 9 1 jh (u7.setCell ⟨D,6,none⟩ (.slice agn ngn cgn)).heap.size agl ngl cgl u8 from tb8) (aD u8 D 7 (.slice agl ngl cgl)) (by have:=Ef.out; omega))
 have hDl:D<u8.heap.size:=Da.d.lt
 clear Da ok8 kp8 tb8 H7
 go_wp2_with fail
 refine Calls.mono (MD (w.heap.size+1) _ _ H8.out.ok) ?_
 rintro e ue ⟨rfl,ke⟩
 clear yp8 zs ys
 have hGd:=H8.out.ok.good
 have hJ:=JN E1.out E2.out E3.out E4.out E5.out E6.out E7.out E8.out
 have hSb:=aE ke H8.out.d (by omega)
 have hRb:=aE ke H8.out.r (by omega)
 have hKb:=aI H8.out.keep ke (by omega)
 have hTj:=Tj.out.grow ke (by have:=sO.out; omega)
 have hTn:=Tn.out.grow ke (by have:=wC.out; omega)
 have hTl:=Tl.out.grow ke (by have:=yV.out; omega)
 have hTgj:=Tgj.out.grow ke (by have:=vM.out; omega)
 have hTgn:=Tgn.out.grow ke (by have:=zx.out; omega)
 have hTgl:=Tgl.out.grow ke (by have:=Ef.out; omega)
 have HRb:=hid hRb
 have HKb:=hid hKb
 have hSl:=hSb.lt
 have hRl:=hRb.lt
 have u0z:ue.frozen? ⟨w.heap.size,0,none⟩=false:=hRb.thaw 0
 have s0z:ue.cell? ⟨w.heap.size,0,none⟩=some (.int .i64 0):=hRb.cell 0
 have u1z:ue.frozen? ⟨w.heap.size,1,none⟩=false:=hRb.thaw 1
 have s1z:ue.cell? ⟨w.heap.size,1,none⟩=some (.int .i64 0):=hRb.cell 1
 have u2z:ue.frozen? ⟨w.heap.size,2,none⟩=false:=hRb.thaw 2
 have s2z:ue.cell? ⟨w.heap.size,2,none⟩=some (.slice none 0 0):=hRb.cell 2
 have u3z:ue.frozen? ⟨w.heap.size,3,none⟩=false:=hRb.thaw 3
 have s3z:ue.cell? ⟨w.heap.size,3,none⟩=some (.slice none 0 0):=hRb.cell 3
 have u4z:ue.frozen? ⟨w.heap.size,4,none⟩=false:=hRb.thaw 4
 have s4z:ue.cell? ⟨w.heap.size,4,none⟩=some (.slice none 0 0):=hRb.cell 4
 have u5z:ue.frozen? ⟨w.heap.size,5,none⟩=false:=hRb.thaw 5
 have s5z:ue.cell? ⟨w.heap.size,5,none⟩=some (.slice none 0 0):=hRb.cell 5
 have u6z:ue.frozen? ⟨w.heap.size,6,none⟩=false:=hRb.thaw 6
 have s6z:ue.cell? ⟨w.heap.size,6,none⟩=some (.slice none 0 0):=hRb.cell 6
 have u7z:ue.frozen? ⟨w.heap.size,7,none⟩=false:=hRb.thaw 7
 have s7z:ue.cell? ⟨w.heap.size,7,none⟩=some (.slice none 0 0):=hRb.cell 7
 have v0z:ue.cell? ⟨D,0,none⟩=some (.int .i64 (f:Int)):=hSb.cell 0
 have v1z:ue.cell? ⟨D,1,none⟩=some (.int .i64 (gJ f t)):=hSb.cell 1
 have v2z:ue.cell? ⟨D,2,none⟩=some (.slice aj nj cj):=hSb.cell 2
 have v3z:ue.cell? ⟨D,3,none⟩=some (.slice an nn cn):=hSb.cell 3
 have v4z:ue.cell? ⟨D,4,none⟩=some (.slice al nl cl):=hSb.cell 4
 have v5z:ue.cell? ⟨D,5,none⟩=some (.slice agj ngj cgj):=hSb.cell 5
 have v6z:ue.cell? ⟨D,6,none⟩=some (.slice agn ngn cgn):=hSb.cell 6
 have v7z:ue.cell? ⟨D,7,none⟩=some (.slice agl ngl cgl):=hSb.cell 7
 have hcase:(∃ x:Nat,x≠0∧qX R8.st=x∧endP (dlP b) = .bad x)∨(∃ (j:List aA) (n:List av) (l:List ah) (gj gn gl:List ByteArray) (s:ByteArray),qX R8.st=0∧endP (dlP b) = .ok ⟨(f:Int),gJ f t,j,n,l,gj,gn,gl⟩ s∧Al ⟨(f:Int),gJ f t,j,n,l,gj,gn,gl⟩∧qO ue w.heap.size ⟨(f:Int),gJ f t,j,n,l,gj,gn,gl⟩ ⟨aj,nj,cj,an,nn,cn,al,nl,cl,agj,ngj,cgj,agn,ngn,cgn,agl,ngl,cgl⟩):=by
  cases hf8:R8.st with
  | bad x=>
   rw [hf8] at hGd
   exact .inl ⟨x,hGd.1,rfl,by rw [hJ.1 x hf8]; rfl⟩
  | ok u s=>
   obtain⟨f',t',j,n,l,gj,gn,gl,s1,s2,s3,s4,s5,s6,s7,⟨g1,_⟩,⟨g2,_⟩,⟨g3,p3⟩,⟨g4,p4⟩,⟨g5,p5⟩,⟨g6,p6⟩,⟨g7,p7⟩,⟨g8,p8⟩,g9⟩:=hJ.2 s hf8
   have hff:f=f':=by have:=V1.out; rw [g1] at this; exact this
   have htt:t=t':=by have:=V2.out; rw [g2] at this; exact this
   subst hff
   subst htt
   by_cases hs:s.size=0
   · refine .inr ⟨j,n,l,gj,gn,gl,s,GJ hs,by rw [g9]; unfold endP; rw [RR.bind_ok,if_pos hs],?_,?_⟩
     · obtain⟨a1,a2⟩:=lN p3
       obtain⟨b1,b2⟩:=lN p4
       obtain⟨c1,c2⟩:=lN p5
       obtain⟨x1,x2⟩:=lN p6
       obtain⟨y1,y2⟩:=lN p7
       obtain⟨z1,z2⟩:=lN p8
       exact⟨a1,b1,c1,x1,y1,z1,fun x hx=>by obtain⟨_,_,h⟩:=a2 x hx; have:=EQ h; omega,fun x hx=>by obtain⟨_,_,h⟩:=b2 x hx; have:=CN h; omega,fun x hx=>by obtain⟨_,_,h⟩:=c2 x hx; have:=Bh h; omega,
        fun x hx=>by obtain⟨_,_,h⟩:=x2 x hx; have:=jL h; omega,fun x hx=>by obtain⟨_,_,h⟩:=y2 x hx; have:=jL h; omega,fun x hx=>by obtain⟨_,_,h⟩:=z2 x hx; have:=jL h; omega⟩
     · obtain⟨q1,o1⟩:=hTj j s3 g3
       obtain⟨q2,o2⟩:=hTn n s4 g4
       obtain⟨q3,o3⟩:=hTl l s5 g5
       obtain⟨q4,o4⟩:=hTgj gj s6 g6
       obtain⟨q5,o5⟩:=hTgn gn s7 g7
       obtain⟨q6,o6⟩:=hTgl gl s g8
       exact⟨⟨_,by have:=sO.out; omega,o1⟩,⟨_,by have:=wC.out; omega,o2⟩,⟨_,by have:=yV.out; omega,o3⟩,⟨_,by have:=vM.out; omega,o4⟩,⟨_,by have:=zx.out; omega,o5⟩,⟨_,by have:=Ef.out; omega,o6⟩,q1,q2,q3,q4,q5,q6⟩
   · exact .inl ⟨4,by decide,GK hs,by rw [g9]; unfold endP; rw [RR.bind_ok,if_neg hs]⟩
 have haW:=Bq hf ht
 clear hJ hGd ke H8 Tj Tn Tl Tgj Tgn Tgl sO wC yV vM zx Ef hRb hKb hTj hTn hTl hTgj hTgn hTgl E1 E2 E3 E4 E5 E6 E7 E8 V1 V2
 rcases hcase with ⟨x,hx,hEx,hres⟩ | ⟨j,n,l,gj,gn,gl,s,hEx,hres,hz,ho⟩
 · rw [hEx]
   have hne:((x:Int) != 0)=true:=by rw [bne_iff_ne]; omega
   have hR4:=(Blk.eq ((Blk.eq ((Blk.eq ((Blk.eq ((Blk.eq ((Blk.eq ((Blk.eq ((Blk.eq (HRb.out.set 0 (.int .i64 0)) (show _=cI from rfl)).set 1 (.int .i64 0)) (show _=cI from rfl)).set 2 (.slice none 0 0)) (show _=cI from rfl)).set 3 (.slice none 0 0)) (show _=cI from rfl)).set 4 (.slice none 0 0)) (show _=cI from rfl)).set 5 (.slice none 0 0)) (show _=cI from rfl)).set 6 (.slice none 0 0)) (show _=cI from rfl)).set 7 (.slice none 0 0)) (show _=cI from rfl))
   have q0:=(show _=(some (.int .i64 0):Option Value) from hR4.cell 0)
   have q1:=(show _=(some (.int .i64 0):Option Value) from hR4.cell 1)
   have q2:=(show _=(some (.slice none 0 0):Option Value) from hR4.cell 2)
   have q3:=(show _=(some (.slice none 0 0):Option Value) from hR4.cell 3)
   have q4:=(show _=(some (.slice none 0 0):Option Value) from hR4.cell 4)
   have q5:=(show _=(some (.slice none 0 0):Option Value) from hR4.cell 5)
   have q6:=(show _=(some (.slice none 0 0):Option Value) from hR4.cell 6)
   have q7:=(show _=(some (.slice none 0 0):Option Value) from hR4.cell 7)
   have hK4:=hid (aI (aI (aI (aI (aI (aI (aI (aI HKb.out (aD _ w.heap.size 0 (.int .i64 0)) (by omega)) (aD _ w.heap.size 1 (.int .i64 0)) (by omega)) (aD _ w.heap.size 2 (.slice none 0 0)) (by omega)) (aD _ w.heap.size 3 (.slice none 0 0)) (by omega)) (aD _ w.heap.size 4 (.slice none 0 0)) (by omega)) (aD _ w.heap.size 5 (.slice none 0 0)) (by omega)) (aD _ w.heap.size 6 (.slice none 0 0)) (by omega)) (aD _ w.heap.size 7 (.slice none 0 0)) (by omega))
   have hG4:=hid (aF (aF (aF (aF (aF (aF (aF (aF (cT ue w.heap.size) 0 (.int .i64 0)) 1 (.int .i64 0)) 2 (.slice none 0 0)) 3 (.slice none 0 0)) 4 (.slice none 0 0)) 5 (.slice none 0 0)) 6 (.slice none 0 0)) 7 (.slice none 0 0))
   clear hR4
   have aS:=hid (LI.out x hres _ hK4.out)
   clear hEx hres hSb
   go_wp2
   refine bodyPost_ret (v:=.tuple #[.agg #[.int .i64 0,.int .i64 0,.slice none 0 0,.slice none 0 0,.slice none 0 0,.slice none 0 0,.slice none 0 0,.slice none 0 0],.int .i64 (x:Int)]) (by simp [results,Tryz.results20,go_sem, *]) rfl ?_
   exact aS.out
 · rw [hEx]
   have HZ:=hid hz
   have HO:=hid ho
   have HC:=hid (rE ⟨(f:Int),gJ f t,j,n,l,gj,gn,gl⟩ ⟨aj,nj,cj,an,nn,cn,al,nl,cl,agj,ngj,cgj,agn,ngn,cgn,agl,ngl,cgl⟩ ue (ho.at_ hz) (hT2.out.below HKb.out) (show -9223372036854775808≤(f:Int) by omega) (show (f:Int)≤9223372036854775807 by omega))
   have Li:=hid (Hchk.out _ s hres)
   have Hok':=hid (Hok.out _ s hres)
   unfold uH at HC
   clear hres hEx hz ho
   obtain⟨E,hE⟩:∃ E,cD (⟨(f:Int),gJ f t,j,n,l,gj,gn,gl⟩:aM)=E:=⟨_,rfl⟩
   rw [hE] at HC Li Hok'
   clear hE
   simp only [dC] at HC
   go_wp2_with fail
   refine Calls.mono HC.out ?_
   rintro e w9 ⟨rfl,hb9⟩
   have HR9:=hid (HRb.out.below hb9 hRl)
   have HS9:=hSb.below hb9 hSl
   have HK9:=hid (HKb.out.trans (hb9.mono HKb.out.size))
   have Hb9:=hid hb9
   have hsz9:=hb9.size
   clear v0z v1z v2z v3z v4z v5z v6z v7z hSb
   obtain⟨uu0,uu1,uu2,uu3,uu4,uu5,uu6,uu7⟩:=Blk.z8 (HR9.out)
   obtain⟨ss0,ss1,ss2,ss3,ss4,ss5,ss6,ss7⟩:=Blk.c8 (HR9.out)
   obtain⟨vv0,vv1,vv2,vv3,vv4,vv5,vv6,vv7⟩:=Blk.c8 (HS9)
   clear HS9 hb9
   by_cases h0:E=0
   · subst h0
     have Hres:=hid (Hok'.out rfl)
     have hR4:=(Blk.eq ((Blk.eq ((Blk.eq ((Blk.eq ((Blk.eq ((Blk.eq ((Blk.eq ((Blk.eq (HR9.out.set 0 (.int .i64 (f:Int))) (show _=#[.int .i64 (f:Int),.int .i64 0,.slice none 0 0,.slice none 0 0,.slice none 0 0,.slice none 0 0,.slice none 0 0,.slice none 0 0] from rfl)).set 1 (.int .i64 (gJ f t))) (show _=#[.int .i64 (f:Int),.int .i64 (gJ f t),.slice none 0 0,.slice none 0 0,.slice none 0 0,.slice none 0 0,.slice none 0 0,.slice none 0 0] from rfl)).set 2 (.slice aj nj cj)) (show _=#[.int .i64 (f:Int),.int .i64 (gJ f t),.slice aj nj cj,.slice none 0 0,.slice none 0 0,.slice none 0 0,.slice none 0 0,.slice none 0 0] from rfl)).set 3 (.slice an nn cn)) (show _=#[.int .i64 (f:Int),.int .i64 (gJ f t),.slice aj nj cj,.slice an nn cn,.slice none 0 0,.slice none 0 0,.slice none 0 0,.slice none 0 0] from rfl)).set 4 (.slice al nl cl)) (show _=#[.int .i64 (f:Int),.int .i64 (gJ f t),.slice aj nj cj,.slice an nn cn,.slice al nl cl,.slice none 0 0,.slice none 0 0,.slice none 0 0] from rfl)).set 5 (.slice agj ngj cgj)) (show _=#[.int .i64 (f:Int),.int .i64 (gJ f t),.slice aj nj cj,.slice an nn cn,.slice al nl cl,.slice agj ngj cgj,.slice none 0 0,.slice none 0 0] from rfl)).set 6 (.slice agn ngn cgn)) (show _=#[.int .i64 (f:Int),.int .i64 (gJ f t),.slice aj nj cj,.slice an nn cn,.slice al nl cl,.slice agj ngj cgj,.slice agn ngn cgn,.slice none 0 0] from rfl)).set 7 (.slice agl ngl cgl)) (show _=#[.int .i64 (f:Int),.int .i64 (gJ f t),.slice aj nj cj,.slice an nn cn,.slice al nl cl,.slice agj ngj cgj,.slice agn ngn cgn,.slice agl ngl cgl] from rfl))
     have q0:=(show _=(some (.int .i64 (f:Int)):Option Value) from hR4.cell 0)
     have q1:=(show _=(some (.int .i64 (gJ f t)):Option Value) from hR4.cell 1)
     have q2:=(show _=(some (.slice aj nj cj):Option Value) from hR4.cell 2)
     have q3:=(show _=(some (.slice an nn cn):Option Value) from hR4.cell 3)
     have q4:=(show _=(some (.slice al nl cl):Option Value) from hR4.cell 4)
     have q5:=(show _=(some (.slice agj ngj cgj):Option Value) from hR4.cell 5)
     have q6:=(show _=(some (.slice agn ngn cgn):Option Value) from hR4.cell 6)
     have q7:=(show _=(some (.slice agl ngl cgl):Option Value) from hR4.cell 7)
     have hK4:=hid (aI (aI (aI (aI (aI (aI (aI (aI HK9.out (aD _ w.heap.size 0 (.int .i64 (f:Int))) (by omega)) (aD _ w.heap.size 1 (.int .i64 (gJ f t))) (by omega)) (aD _ w.heap.size 2 (.slice aj nj cj)) (by omega)) (aD _ w.heap.size 3 (.slice an nn cn)) (by omega)) (aD _ w.heap.size 4 (.slice al nl cl)) (by omega)) (aD _ w.heap.size 5 (.slice agj ngj cgj)) (by omega)) (aD _ w.heap.size 6 (.slice agn ngn cgn)) (by omega)) (aD _ w.heap.size 7 (.slice agl ngl cgl)) (by omega))
     have hG4:=hid (aF (aF (aF (aF (aF (aF (aF (aF (cT w9 w.heap.size) 0 (.int .i64 (f:Int))) 1 (.int .i64 (gJ f t))) 2 (.slice aj nj cj)) 3 (.slice an nn cn)) 4 (.slice al nl cl)) 5 (.slice agj ngj cgj)) 6 (.slice agn ngn cgn)) 7 (.slice agl ngl cgl))
     clear hR4
     go_wp2
     refine bodyPost_ret (v:=.tuple #[.agg #[.int .i64 (f:Int),.int .i64 (gJ f t),.slice aj nj cj,.slice an nn cn,.slice al nl cl,.slice agj ngj cgj,.slice agn ngn cgn,.slice agl ngl cgl],.int .i64 0]) (by simp [results,Tryz.results20,go_sem, *]) rfl ?_
     exact⟨⟨(f:Int),gJ f t,j,n,l,gj,gn,gl⟩,⟨aj,nj,cj,an,nn,cn,al,nl,cl,agj,ngj,cgj,agn,ngn,cgn,agl,ngl,cgl⟩,0,rfl,Hres.out,((HO.out.grow (jl _ Hb9.out)).grow hG4.out).at_ HZ.out,hK4.out⟩
   · have hne:(E != 0)=true:=bne_iff_ne.2 h0
     have hR4:=(Blk.eq ((Blk.eq ((Blk.eq ((Blk.eq ((Blk.eq ((Blk.eq ((Blk.eq ((Blk.eq (HR9.out.set 0 (.int .i64 0)) (show _=cI from rfl)).set 1 (.int .i64 0)) (show _=cI from rfl)).set 2 (.slice none 0 0)) (show _=cI from rfl)).set 3 (.slice none 0 0)) (show _=cI from rfl)).set 4 (.slice none 0 0)) (show _=cI from rfl)).set 5 (.slice none 0 0)) (show _=cI from rfl)).set 6 (.slice none 0 0)) (show _=cI from rfl)).set 7 (.slice none 0 0)) (show _=cI from rfl))
     have q0:=(show _=(some (.int .i64 0):Option Value) from hR4.cell 0)
     have q1:=(show _=(some (.int .i64 0):Option Value) from hR4.cell 1)
     have q2:=(show _=(some (.slice none 0 0):Option Value) from hR4.cell 2)
     have q3:=(show _=(some (.slice none 0 0):Option Value) from hR4.cell 3)
     have q4:=(show _=(some (.slice none 0 0):Option Value) from hR4.cell 4)
     have q5:=(show _=(some (.slice none 0 0):Option Value) from hR4.cell 5)
     have q6:=(show _=(some (.slice none 0 0):Option Value) from hR4.cell 6)
     have q7:=(show _=(some (.slice none 0 0):Option Value) from hR4.cell 7)
     have hK4:=hid (aI (aI (aI (aI (aI (aI (aI (aI HK9.out (aD _ w.heap.size 0 (.int .i64 0)) (by omega)) (aD _ w.heap.size 1 (.int .i64 0)) (by omega)) (aD _ w.heap.size 2 (.slice none 0 0)) (by omega)) (aD _ w.heap.size 3 (.slice none 0 0)) (by omega)) (aD _ w.heap.size 4 (.slice none 0 0)) (by omega)) (aD _ w.heap.size 5 (.slice none 0 0)) (by omega)) (aD _ w.heap.size 6 (.slice none 0 0)) (by omega)) (aD _ w.heap.size 7 (.slice none 0 0)) (by omega))
     have hG4:=hid (aF (aF (aF (aF (aF (aF (aF (aF (cT w9 w.heap.size) 0 (.int .i64 0)) 1 (.int .i64 0)) 2 (.slice none 0 0)) 3 (.slice none 0 0)) 4 (.slice none 0 0)) 5 (.slice none 0 0)) 6 (.slice none 0 0)) 7 (.slice none 0 0))
     clear hR4
     have aS:=hid (Li.out h0 _ hK4.out)
     go_wp2
     refine bodyPost_ret (v:=.tuple #[.agg #[.int .i64 0,.int .i64 0,.slice none 0 0,.slice none 0 0,.slice none 0 0,.slice none 0 0,.slice none 0 0,.slice none 0 0],.int .i64 E]) (by simp [results,Tryz.results20,go_sem, *]) rfl ?_
     exact aS.out
theorem Br (b:ByteArray) (w:World) (hb:b.size≤9223372036854775807) (hT:Tabs w):Calls Tryz.prog 20 #[.string b] w (o9 b w):=by
 by_cases h:6000<b.size
 · exact yU b w h hb
 · exact CP b w hT h
end Go.Proofs.YtoeejfhdjmkpcaaGreatDoor
