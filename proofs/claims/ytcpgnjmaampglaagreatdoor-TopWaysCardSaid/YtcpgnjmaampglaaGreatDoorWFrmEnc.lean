/- Of the proof of a statement: FrmEnc, SameR, JObj, ItoaM. -/
import Derived.Deep.RegionHeld3
import Derived.ArgAppend
import Derived.Test.YtcpgnjmaampglaaGreatDoorWHas
import Derived.Test.YtcpgnjmaampglaaGreatDoorWTake
set_option linter.unusedVariables false
set_option linter.unusedSimpArgs false
set_option maxRecDepth 100000
set_option maxHeartbeats 8000000
/- The walks of frame.Encode and FrameEncode. -/
namespace Go.Proofs.YtcpgnjmaampglaaGreatDoor
open Go.Lib (hid)
open Go.RowKit
open Go.RowKit Go.Shelf Go.Sort Go.Lib
theorem yX (n lo hi:Int) (h1:lo≤n) (h2:n≤hi) (w:World):Calls Tryz.prog 125 #[.int .i64 n,.int .i64 lo,.int .i64 hi] w fun e w'=>e = .returned (.bool true)∧w=w':=by
 have e2:decide (n≤hi)=true:=decide_eq_true h2
 go_enter Tryz.func125,Tryz.ntmps125
 go_wp2
 go_ret
 exact⟨rfl,rfl⟩
theorem Bs (n lo hi:Int) (h:n<lo∨hi<n) (w:World):Calls Tryz.prog 125 #[.int .i64 n,.int .i64 lo,.int .i64 hi] w fun e w'=>e = .returned (.bool false)∧w=w':=by
 by_cases h1:lo≤n
 · have h2:hi<n:=by omega
   have e2:decide (n≤hi)=false:=decide_eq_false (by omega)
   clear h
   go_enter Tryz.func125,Tryz.ntmps125
   go_wp2
   go_ret
   exact⟨rfl,rfl⟩
 · have e1:decide (lo≤n)=false:=decide_eq_false h1
   clear h
   go_enter Tryz.func125,Tryz.ntmps125
   go_wp2
   go_ret
   exact⟨rfl,rfl⟩
theorem lA (n:Int) (h1:1≤n) (h2:n≤3) (w:World):Calls Tryz.prog 71 #[.int .i64 n] w fun e w'=>e = .returned (.bool true)∧w=w':=by
 go_enter Tryz.func71,Tryz.ntmps71
 go_wp2_with (go_at_call 125; refine (yX _ _ _ h1 h2 _).mono ?_; rintro e w' ⟨rfl,rfl⟩)
 go_ret
 exact⟨rfl,rfl⟩
theorem tV (n:Int) (h:n<1∨3<n) (w:World):Calls Tryz.prog 71 #[.int .i64 n] w fun e w'=>e = .returned (.bool false)∧w=w':=by
 have H:=hid h
 clear h
 go_enter Tryz.func71,Tryz.ntmps71
 go_wp2_with (go_at_call 125; refine (Bs _ _ _ H.out _).mono ?_; rintro e w' ⟨rfl,rfl⟩)
 go_ret
 exact⟨rfl,rfl⟩
theorem sU (n:Int) (h1:1≤n) (h2:n≤4) (w:World):Calls Tryz.prog 72 #[.int .i64 n] w fun e w'=>e = .returned (.bool true)∧w=w':=by
 go_enter Tryz.func72,Tryz.ntmps72
 go_wp2_with (go_at_call 125; refine (yX _ _ _ h1 h2 _).mono ?_; rintro e w' ⟨rfl,rfl⟩)
 go_ret
 exact⟨rfl,rfl⟩
theorem Br (n:Int) (h:n<1∨4<n) (w:World):Calls Tryz.prog 72 #[.int .i64 n] w fun e w'=>e = .returned (.bool false)∧w=w':=by
 have H:=hid h
 clear h
 go_enter Tryz.func72,Tryz.ntmps72
 go_wp2_with (go_at_call 125; refine (Bs _ _ _ H.out _).mono ?_; rintro e w' ⟨rfl,rfl⟩)
 go_ret
 exact⟨rfl,rfl⟩
theorem DN (s:ByteArray) (w:World) (hs:s.size≤9223372036854775807):Calls Tryz.prog 74 #[.string s] w fun e w'=>e = .returned (.string ⟨(oP s.data.toList).toArray⟩)∧Below w.heap.size w w':=by
 have hlt:=Jc s.data.toList
 go_enter Tryz.func74,Tryz.ntmps74
 go_wp2_with fail
 refine Calls.mono (Nx s w hs) ?_
 rintro e w1 ⟨rfl,hb⟩
 have Hn:=hid (show oP s.data.toList=[UInt8.ofNat (jV s.data.toList / 16777216),UInt8.ofNat (jV s.data.toList / 65536),UInt8.ofNat (jV s.data.toList / 256),UInt8.ofNat (jV s.data.toList)] from rfl)
 generalize jV s.data.toList=n at hlt Hn
 have b:=fun (m:Nat)=>show (m:Int) % 256=(((UInt8.ofNat m).toNat:Nat):Int) from by rw [UInt8.toNat_ofNat']; omega
 have hrun:=yY (P:=Tryz.prog) (w:=w1) (n:=4) (c:=4) (cs:=#[.int .u8 ((n:Int) / 16777216),.int .u8 ((n:Int) / 65536 % 256),.int .u8 ((n:Int) / 256 % 256),.int .u8 ((n:Int) % 256)]) (l:=[UInt8.ofNat (n / 16777216),UInt8.ofNat (n / 65536),UInt8.ofNat (n / 256),UInt8.ofNat n]) Tryz.underlying118 Tryz.underlying5 Tryz.underlying9 (by
  simp only [aF,List.map_cons,List.map_nil]
  rw [← b,← b,← b,← b]
  have e1:(((n / 16777216:Nat):Int)) % 256=(n:Int) / 16777216:=by omega
  have e2:(((n / 65536:Nat):Int)) % 256=(n:Int) / 65536 % 256:=by omega
  have e3:(((n / 256:Nat):Int)) % 256=(n:Int) / 256 % 256:=by omega
  rw [e1,e2,e3]) rfl
 have HR:=hid hrun
 clear b hrun
 go_wp2_with fail
 rw [HR.out]
 go_wp2
 go_ret
 exact⟨Ih (by rw [Hn.out]),hb.alloc hb.size _⟩
def sV (v k:Int) (p:ByteArray):ByteArray × Int:=
 if v<1∨3<v∨k<1∨4<k then (⟨#[]⟩,1) else if 6000<p.size then (⟨#[]⟩,2) else (⟨(gB v.toNat k.toNat p.data.toList).toArray⟩,0)
def jq (v k:Int) (p:ByteArray) (w:World) (e:Ending) (w':World):Prop:=e = .returned (.tuple #[.string (sV v k p).1,.int .i64 (sV v k p).2])∧Below w.heap.size w w'
theorem jq.arg {v k:Int} {p:ByteArray} {w w':World} (h:v<1∨3<v∨k<1∨4<k) (hb:Below w.heap.size w w'):jq v k p w (.returned (.tuple #[.string ⟨#[]⟩,.int .i64 1])) w':=⟨by unfold sV; rw [if_pos h],hb⟩
theorem jq.large {v k:Int} {p:ByteArray} {w w':World} (h:¬ (v<1∨3<v∨k<1∨4<k)) (h2:6000<p.size) (hb:Below w.heap.size w w'):jq v k p w (.returned (.tuple #[.string ⟨#[]⟩,.int .i64 2])) w':=⟨by unfold sV; rw [if_neg h,if_pos h2],hb⟩
theorem jq.ok {v k:Int} {p:ByteArray} {w w':World} {s:ByteArray} (h:¬ (v<1∨3<v∨k<1∨4<k)) (h2:¬ 6000<p.size) (hs:s.data.toList=gB v.toNat k.toNat p.data.toList) (hb:Below w.heap.size w w'):jq v k p w (.returned (.tuple #[.string s,.int .i64 0])) w':=
 ⟨by unfold sV; rw [if_neg h,if_neg h2,← hs],hb⟩
def mU (st st':ah) (w:World) (e:Ending) (w':World):Prop:=∃ t:Bool,e = .returned (.bool t)∧(t=true↔st=st')∧Below w.heap.size w w'
theorem mU.no {st st':ah} {w w':World} (h:st≠st') (hb:Below w.heap.size w w'):mU st st' w (.returned (.bool false)) w':=⟨false,rfl,⟨fun h=>(by cases h),fun h'=>absurd h' h⟩,hb⟩
theorem StAt.up {w w':World} {st:ah} {x:StA} (hS:StAt w w.heap.size st x) (hb:Below w.heap.size w w'):StAt w' w'.heap.size st x:=(hS.below hb).more hb.size
theorem aQ.up {w w':World} {sz n:Nat} {A:Option Addr} {xs:List Value} (h:aQ w w.heap.size sz A n xs) (hb:Below w.heap.size w w'):aQ w' w'.heap.size sz A n xs:=(h.below hb).more hb.size
theorem yZ (st st':ah) (x x':StA) (w:World) (hS:StAt w w.heap.size st x) (hS':StAt w w.heap.size st' x') :
 Calls Tryz.prog 12 #[.agg (stC st x),.agg (stC st' x')] w (mU st st' w):=by
 have hb1:Below w.heap.size w (w.alloc (.cells (stC st x) 26)):=(Below.refl _ _).alloc (Nat.le_refl _) _
 have hb2:=hb1.alloc hb1.size (.cells (stC st' x') 26)
 have HA:=hid (show Blk ((w.alloc (.cells (stC st x) 26)).alloc (.cells (stC st' x') 26)) w.heap.size 26 (stC st x) from Blk.alloc (show Blk _ _ _ _ from heap_alloc_new w _) _)
 have HB:=hid (show Blk ((w.alloc (.cells (stC st x) 26)).alloc (.cells (stC st' x') 26)) (w.heap.size+1) 26 (stC st' x') from by
  have h:=heap_alloc_new (w.alloc (.cells (stC st x) 26)) (.cells (stC st' x') 26)
  rwa [show (w.alloc (.cells (stC st x) 26)).heap.size=w.heap.size+1 by simp] at h)
 have Hb2:=hid hb2
 have HS:=hid hS
 have HS':=hid hS'
 clear hb1 hb2 hS hS'
 obtain⟨rev,jobs,nodes,leases⟩:=st
 obtain⟨aj,nj,cj,an,nn,cn,al,nl,cl⟩:=x
 obtain⟨PJ,DP,nodes',tW⟩:=st'
 obtain⟨aj',nj',cj',an',nn',cn',al',nl',cl'⟩:=x'
 unfold stC at *
 dsimp only at *
 by_cases hr:rev=PJ
 rotate_left
 · have e1:(rev == PJ)=false:=beq_eq_false_iff_ne.2 hr
   have hend:=hid (mU.no (st:=⟨rev,jobs,nodes,leases⟩) (st':=⟨PJ,DP,nodes',tW⟩) (fun h=>hr (by injection h)) Hb2.out)
   clear hr
   go_enter Tryz.func12,Tryz.ntmps12
   go_wp2
   go_ret
   exact hend.out
 subst hr
 have C1:=hid (yV.1 jobs DP aj aj' nj nj' cj cj' _ (HS.out.j.up Hb2.out) (HS'.out.j.up Hb2.out) HS.out.lj HS'.out.lj HS.out.bj HS'.out.bj)
 have C2:=hid (fun W (hb:Below w.heap.size w W)=>yV.2.1 nodes nodes' an an' nn nn' cn cn' W (HS.out.n.up hb) (HS'.out.n.up hb) HS.out.ln HS'.out.ln HS.out.bn HS'.out.bn)
 have C3:=hid (fun W (hb:Below w.heap.size w W)=>yV.2.2 leases tW al al' nl nl' cl cl' W (HS.out.l.up hb) (HS'.out.l.up hb) HS.out.ll HS'.out.ll HS.out.bl HS'.out.bl)
 go_enter Tryz.func12,Tryz.ntmps12
 go_wp2_with fail
 refine Calls.mono C1.out ?_
 rintro e w1 ⟨t,rfl,ht,hb⟩
 have hbA:=Hb2.out.trans (hb.mono Hb2.out.size)
 cases t
 · have hend:=hid (mU.no (st:=⟨rev,jobs,nodes,leases⟩) (st':=⟨rev,DP,nodes',tW⟩) (fun h=>absurd (ht.2 (by injection h)) (by decide)) hbA)
   clear ht hb hbA
   go_wp2
   go_ret
   exact hend.out
 have Hj:=hid (ht.1 rfl)
 have HA1:=hid (HA.out.below hb HA.out.lt)
 have HB1:=hid (HB.out.below hb HB.out.lt)
 have HbA:=hid hbA
 have y2:w1.cell? ⟨w.heap.size,2,none⟩=some (.slice an nn cn):=HA1.out.cell 2
 have z2:w1.cell? ⟨w.heap.size+1,2,none⟩=some (.slice an' nn' cn'):=HB1.out.cell 2
 clear ht hb hbA HA HB C1
 go_wp2_with fail
 refine Calls.mono (C2.out _ HbA.out) ?_
 rintro e w2 ⟨t,rfl,ht,hb⟩
 have hbA:=HbA.out.trans (hb.mono HbA.out.size)
 cases t
 · have hend:=hid (mU.no (st:=⟨rev,jobs,nodes,leases⟩) (st':=⟨rev,DP,nodes',tW⟩) (fun h=>absurd (ht.2 (by injection h)) (by decide)) hbA)
   clear ht hb hbA
   go_wp2
   go_ret
   exact hend.out
 have Hn:=hid (ht.1 rfl)
 have HA2:=hid (HA1.out.below hb HA1.out.lt)
 have HB2:=hid (HB1.out.below hb HB1.out.lt)
 have HbB:=hid hbA
 clear y2 z2
 have y3:w2.cell? ⟨w.heap.size,3,none⟩=some (.slice al nl cl):=HA2.out.cell 3
 have z3:w2.cell? ⟨w.heap.size+1,3,none⟩=some (.slice al' nl' cl'):=HB2.out.cell 3
 clear ht hb hbA HA1 HB1 C2
 go_wp2_with fail
 refine Calls.mono (C3.out _ HbB.out) ?_
 rintro e w3 ⟨t,rfl,ht,hb⟩
 have hbA:=HbB.out.trans (hb.mono HbB.out.size)
 have hend:=hid (show mU ⟨rev,jobs,nodes,leases⟩ ⟨rev,DP,nodes',tW⟩ w (.returned (.bool t)) w3 from ⟨t,rfl,⟨fun h=>by rw [Hj.out,Hn.out,ht.1 h],fun h=>ht.2 (by injection h)⟩,hbA⟩)
 clear ht hb hbA
 go_wp2
 go_ret
 exact hend.out
theorem DQ {w:World} {ops:Array Oper} {rest:List Oper} {o:Oper} {a:Act} {Q:Exit→Act→World→Prop} (g:Nat) (hg:w.heap.size=g) (hgd:o.guard=none) (s x:Operand) (ho:o.op = .call { callee:=.builtin .append,args:=#[s,x],argTypes:=#[118,118] })
 (base:Nat) (A:Option Addr) (m c:Nat) (l:List UInt8) (hs:a.eval s = .slice A m c) (hown:w.ownsRow base 5 1 (.slice A m c) m (aF l))
 (u:Int) (b:UInt8) (hu:u=(b.toNat:Int)) (hx:a.eval x = .slice (some ⟨g,0,none⟩) 1 1) (hm:m+1≤140737488355328) (hbase:base≤w.heap.size)
 (h:∀ A' c' w',w'.ownsRow base 5 1 (.slice A' (m+1) c') (m+1) (aF (l ++ [b]))→dE w w' (.slice A m c) (.slice A' (m+1) c')→wpList Tryz.prog ops Q rest (a.put o.dst (.slice A' (m+1) c')) w') :
 wpList Tryz.prog ops Q (o :: rest) a (w.alloc (.cells #[.int .u8 u] 5)):=by
 subst hg; exact gC hgd s x ho base A m c l hs hown u b hu hx hm hbase h
theorem Blk.jW {w w':World} {g:Nat} {t:TypeId} {cs:Array Value} (h:Blk w g t cs) (hne:t ≠ 5) (hk:Lib.OthersKept 5 none w w'):Blk w' g t cs:=by
 unfold Blk at h ⊢
 exact hk g _ h (by simp) (fun c fz e=>hne (by injection e))
structure At2 (B:Nat) (w:World) (l:List UInt8) (wr:World) (A:Option Addr) (m c:Nat):Prop where
 own:wr.ownsRow B 5 1 (.slice A m c) m (aF l)
 below:Below B w wr
 kept:Lib.OthersKept 5 none w wr
theorem At2.len {B:Nat} {w wr:World} {l:List UInt8} {A:Option Addr} {m c:Nat} (h:At2 B w l wr A m c):l.length=m:=by have:=h.own.1; simpa [bK] using this
theorem At2.grew {B:Nat} {w wr w':World} {l l':List UInt8} {A A':Option Addr} {m c m' c':Nat} (h:At2 B w l wr A m c) (hB:B≤w.heap.size) (ho:w'.ownsRow B 5 1 (.slice A' m' c') m' (aF l')) (hg:dE wr w' (.slice A m c) (.slice A' m' c')):At2 B w l' w' A' m' c':=
 ⟨ho,h.below.trans (hg.below (Nat.le_trans hB h.below.size) (fun k hk=>(h.own.lt k hk).1)),h.kept.trans (gW h.own hg)⟩
theorem At2.post {B:Nat} {w wr w':World} {l l':List UInt8} {A A':Option Addr} {m c m' c':Nat} (h:At2 B w l wr A m c) (ho:w'.ownsRow B 5 1 (.slice A' m' c') m' (aF l')) (hb:Below B wr w') (hk:Lib.OthersKept 5 none wr w'):At2 B w l' w' A' m' c':=
 ⟨ho,h.below.trans hb,h.kept.trans hk⟩
theorem At2.alloc {B:Nat} {w wr:World} {l:List UInt8} {A:Option Addr} {m c:Nat} (h:At2 B w l wr A m c) (hB:B≤w.heap.size) (o:Obj):At2 B w l (wr.alloc o) A m c:=
 ⟨h.own.alloc _,h.below.trans ((Below.refl _ _).alloc (Nat.le_trans hB h.below.size) _),h.kept.trans ((Lib.OthersKept.refl _ _ _).alloc _)⟩
def PK (B:Nat) (l:List UInt8) (fs:List (ByteArray × FV)) (n:Nat) (w:World) (v i:Value) (wr:World):Prop:=
 ∃ (A:Option Addr) (m c k:Nat),v = .slice A m c∧i = .int .i64 k∧k≤n∧wr.ownsRow B 5 1 (.slice A m c) m (aF (l ++ [123] ++ dY ((fs.take k).map fN)))∧Below B w wr∧Lib.OthersKept 5 none w wr
theorem kM (B:Nat) (A:Option Addr) (m c:Nat) (l:List UInt8) (fb fo n fc:Nat) (fs:List (ByteArray × FV)) (w:World) (hown:w.ownsRow B 5 1 (.slice A m c) m (aF l)) (hm:m≤140737480000000) (hB:B≤w.heap.size) (hn:fs.length=n) (h5:n≤5)
 (hok : ∀ f ∈ fs, f.1.size ≤ 100 ∧ Jd f.2) (hF : za B w fb fo fs) (htab : Lib.TabBelow Tryz.prog B w "internal/strconv.uint64pow10" .u64 Lib.pow10Tab) :
 Calls Tryz.prog 129 #[.slice A m c,.slice (some ⟨fb,fo,none⟩) n fc] w (Bt B (l ++ fO fs) w):=by
 have hl:l.length=m:=by have:=hown.1; simpa [aF] using this
 have Hl:=hid hl
 have Hm:=hid hm
 have Ho:=hid hown
 have HF:=hid hF
 have HT:=hid htab
 have Hok:=hid hok
 clear hm hl hown hF htab hok
 go_enter Tryz.func129,Tryz.ntmps129
 go_wp2_with (at_builtin; refine gC rfl _ _ rfl B _ _ _ _ rfl Ho.out _ 123 rfl rfl (by have:=Hm.out; omega) hB ?_; intro A1 c1 w1 ho1 hg1)
 go_loopw [0,12] (fun v i wr=>PK B l fs n w v i wr) (fun _ i _=>n - (RowKit.intOf i).toNat)
 case atStart=>exact⟨A1,m+1,c1,0,rfl,rfl,Nat.zero_le _,by simpa [dY] using ho1,hg1.below hB (fun k hk=>(Ho.out.lt k hk).1),gW Ho.out hg1⟩
 case round=>
  clear ho1 hg1
  obtain⟨A',m',c',k,rfl,rfl,hk,ho,hb,hkp⟩:=hrel
  have hA0:At2 B w (l ++ [123] ++ dY ((fs.take k).map fN)) wr A' m' c':=⟨ho,hb,hkp⟩
  have hlen:m'≤140737480010000:=by
   have e2:=ho.1
   have e3:=ze (L:=1210) ((fs.take k).map fN) (fun x hx=>by
    obtain⟨f,hf,rfl⟩:=List.mem_map.1 hx
    have:=Hok.out f (List.mem_of_mem_take hf)
    exact zf f this.1 this.2)
   simp only [bK,List.length_append,List.length_map,List.length_take,List.length_cons,List.length_nil] at e2 e3
   have:=Hl.out
   have:=Hm.out
   have h6:min k fs.length*(1210+1)≤5*1211:=Nat.mul_le_mul (by omega) (Nat.le_refl _)
   omega
  by_cases hlt:k<n
  · obtain⟨⟨nm,v⟩,hf⟩:∃ f,fs[k]? = some f:=⟨_,List.getElem?_eq_getElem (by omega)⟩
    have hF':=HF.out.kept hb hkp
    obtain⟨p,q,x0,x1,x2,hv⟩:=hF'.at_ k nm v hf
    have hfo:=Hok.out _ (List.mem_of_getElem? hf)
    have hfl:=block_lt_of_cell x0
    have Hst:=hid (nG fN hf)
    have hsz:nm.size≤100:=hfo.1
    have hq1:(aV nm.data.toList).length≤602:=dZ nm hfo.1
    have Hfv:=hid hfo.2
    cases v with
    | num x=>
     obtain⟨rfl,pb,po,rfl,hpl,hpc⟩:=hv
     have hbase:B≤wr.heap.size:=Nat.le_trans hB hb.size
     have HJ:=hid (show Blk (wr.alloc (.cells #[.string nm,.pointer (some ⟨pb,po,none⟩),.pointer none] 180)) wr.heap.size 180 #[.string nm,.pointer (some ⟨pb,po,none⟩),.pointer none] from heap_alloc_new wr _)
     have hA1:=hid (hA0.alloc hB (.cells #[.string nm,.pointer (some ⟨pb,po,none⟩),.pointer none] 180))
     have Hpc:=hid (show (wr.alloc (.cells #[.string nm,.pointer (some ⟨pb,po,none⟩),.pointer none] 180)).cell? ⟨pb,po,none⟩=some (.int .i64 x) from ((Below.refl B wr).alloc hbase _ |>.cell (p:=⟨pb,po,none⟩) hpl).trans hpc)
     have hx0 : -9223372036854775807≤x:=Hfv.out.1
     have hx1:x≤9223372036854775807:=Hfv.out.2
     have hlw:wr.heap.size<(wr.alloc (.cells #[.string nm,.pointer (some ⟨pb,po,none⟩),.pointer none] 180)).heap.size:=by simp
     clear ho hb hkp hF' hf hfo hpc hA0
     by_cases hk0:k=0
     · subst hk0
       simp only [Nat.zero_mul,Nat.add_zero] at x0 x1 x2
       have c0:=HJ.out.cell 0
       have c1':=HJ.out.cell 1
       have c2':=HJ.out.cell 2
       simp only [List.getElem?_toArray,List.getElem?_cons_zero,List.getElem?_cons_succ] at c0 c1' c2'
       go_wp2_with fail
       refine Calls.mono (vR B _ _ _ _ nm _ hA1.out.own (by omega) (Nat.le_trans hB hA1.out.below.size)) ?_
       clear c0 c1' c2' x0 x1 x2
       rintro e w3 ⟨A3,m3,c3,rfl,ho3,hb3,hk3⟩
       have hA3:=hid ((hA1.out).post ho3 hb3 hk3)
       have HJ3:=hid ((HJ.out).jW (by decide) hk3)
       have FG:=hid ((hb3.cell (p:=⟨pb,po,none⟩) hpl).trans Hpc.out)
       have hm3:m3≤140737480010610:=by
        have e3:=hA3.out.len
        have e2:=(hA1.out).len
        simp only [List.length_append] at e3 e2
        omega
       clear ho3 hb3 hk3
       go_wp2_with (at_builtin; refine gC rfl _ _ rfl B _ _ _ _ rfl hA3.out.own _ 58 rfl rfl (by omega) (Nat.le_trans hB hA3.out.below.size) ?_; intro A4 c4 w4 ho4 hg4; have hk4:=(gW hA3.out.own hg4); have hb4:=hg4.below (Nat.le_trans hB hA3.out.below.size) (fun k hk=>(hA3.out.own.lt k hk).1); have hA4:=hid (hA3.out.grew hB ho4 hg4); have y1:=(HJ3.out.jW (by decide) hk4).cell 1; have y2:=(HJ3.out.jW (by decide) hk4).cell 2; have y3:=(hb4.cell (p:=⟨pb,po,none⟩) hpl).trans FG.out; clear ho4 hg4 hk4 hb4; simp only [List.getElem?_toArray,List.getElem?_cons_zero,List.getElem?_cons_succ] at y1 y2)
       refine Calls.mono (jint B _ _ _ _ x (by omega) (by omega) _ hA4.out.own (Nat.le_trans hB hA4.out.below.size) (by omega) (HT.out.on hA4.out.below)) ?_
       clear y1 y2 y3
       rintro e w5 ⟨A5,m5,c5,rfl,ho5,hb5,hk5⟩
       have hA5:=hid (hA4.out.post ho5 hb5 hk5)
       clear ho5 hb5 hk5
       go_wp2_with fail
       go_roundw
       case rel=>exact⟨A5,m5,c5,0+1,rfl,by go_num,by omega,by
        have h:=hA5.out.own
        rw [Hst.out,if_pos (by trivial)]
        simpa [fN,fvL,dY,List.append_assoc] using h,hA5.out.below,hA5.out.kept⟩
       case measure=>simp [RowKit.intOf]; omega
     · have d1:decide ((0:Int)<(k:Int))=true:=decide_eq_true (by omega)
       go_wp2_with (at_builtin; refine DQ (wr.heap.size+1) (by simp) rfl _ _ rfl B _ _ _ _ rfl hA1.out.own _ 44 rfl rfl (by omega) (Nat.le_trans hB hA1.out.below.size) ?_; intro A2 m2c w2 ho2 hg2; have hA2:=hid (hA1.out.grew hB ho2 hg2); have hk2:=(gW hA1.out.own hg2); have hb2:=hg2.below (Nat.le_trans hB hA1.out.below.size) (fun k hk=>(hA1.out.own.lt k hk).1); have c0:=(HJ.out.jW (by decide) hk2).cell 0; have hJ2:=hid (HJ.out.jW (by decide) hk2); have PL:=hid ((hb2.cell (p:=⟨pb,po,none⟩) hpl).trans Hpc.out); clear ho2 hg2 hk2 hb2; simp only [List.getElem?_toArray,List.getElem?_cons_zero,List.getElem?_cons_succ] at c0)
       refine Calls.mono (vR B _ _ _ _ nm _ hA2.out.own (by omega) (Nat.le_trans hB hA2.out.below.size)) ?_
       clear c0 x0 x1 x2 d1
       rintro e w3 ⟨A3,m3,c3,rfl,ho3,hb3,hk3⟩
       have hA3:=hid ((hA2.out).post ho3 hb3 hk3)
       have HJ3:=hid ((hJ2.out).jW (by decide) hk3)
       have FG:=hid ((hb3.cell (p:=⟨pb,po,none⟩) hpl).trans PL.out)
       have hm3:m3≤140737480010610:=by
        have e3:=hA3.out.len
        have e2:=(hA2.out).len
        simp only [List.length_append] at e3 e2
        omega
       clear ho3 hb3 hk3
       go_wp2_with (at_builtin; refine gC rfl _ _ rfl B _ _ _ _ rfl hA3.out.own _ 58 rfl rfl (by omega) (Nat.le_trans hB hA3.out.below.size) ?_; intro A4 c4 w4 ho4 hg4; have hk4:=(gW hA3.out.own hg4); have hb4:=hg4.below (Nat.le_trans hB hA3.out.below.size) (fun k hk=>(hA3.out.own.lt k hk).1); have hA4:=hid (hA3.out.grew hB ho4 hg4); have y1:=(HJ3.out.jW (by decide) hk4).cell 1; have y2:=(HJ3.out.jW (by decide) hk4).cell 2; have y3:=(hb4.cell (p:=⟨pb,po,none⟩) hpl).trans FG.out; clear ho4 hg4 hk4 hb4; simp only [List.getElem?_toArray,List.getElem?_cons_zero,List.getElem?_cons_succ] at y1 y2)
       refine Calls.mono (jint B _ _ _ _ x (by omega) (by omega) _ hA4.out.own (Nat.le_trans hB hA4.out.below.size) (by omega) (HT.out.on hA4.out.below)) ?_
       clear y1 y2 y3
       rintro e w5 ⟨A5,m5,c5,rfl,ho5,hb5,hk5⟩
       have hA5:=hid (hA4.out.post ho5 hb5 hk5)
       clear ho5 hb5 hk5
       go_wp2_with fail
       go_roundw
       case rel=>exact⟨A5,m5,c5,k+1,rfl,by go_num,by omega,by
        have h:=hA5.out.own
        rw [Hst.out,if_neg hk0]
        simpa [fN,fvL,dY,List.append_assoc] using h,hA5.out.below,hA5.out.kept⟩
       case measure=>simp [RowKit.intOf]; omega
    | txt s=>
     obtain⟨rfl,pb,po,rfl,hpl,hpc⟩:=hv
     have hbase:B≤wr.heap.size:=Nat.le_trans hB hb.size
     have HJ:=hid (show Blk (wr.alloc (.cells #[.string nm,.pointer none,.pointer (some ⟨pb,po,none⟩)] 180)) wr.heap.size 180 #[.string nm,.pointer none,.pointer (some ⟨pb,po,none⟩)] from heap_alloc_new wr _)
     have hA1:=hid (hA0.alloc hB (.cells #[.string nm,.pointer none,.pointer (some ⟨pb,po,none⟩)] 180))
     have Hpc:=hid (show (wr.alloc (.cells #[.string nm,.pointer none,.pointer (some ⟨pb,po,none⟩)] 180)).cell? ⟨pb,po,none⟩=some (.string s) from ((Below.refl B wr).alloc hbase _ |>.cell (p:=⟨pb,po,none⟩) hpl).trans hpc)
     have hsv:s.size≤100:=Hfv.out
     have hq2:(aV s.data.toList).length≤602:=dZ s Hfv.out
     have hlw:wr.heap.size<(wr.alloc (.cells #[.string nm,.pointer none,.pointer (some ⟨pb,po,none⟩)] 180)).heap.size:=by simp
     clear ho hb hkp hF' hf hfo hpc hA0
     by_cases hk0:k=0
     · subst hk0
       simp only [Nat.zero_mul,Nat.add_zero] at x0 x1 x2
       have c0:=HJ.out.cell 0
       have c1':=HJ.out.cell 1
       have c2':=HJ.out.cell 2
       simp only [List.getElem?_toArray,List.getElem?_cons_zero,List.getElem?_cons_succ] at c0 c1' c2'
       go_wp2_with fail
       refine Calls.mono (vR B _ _ _ _ nm _ hA1.out.own (by omega) (Nat.le_trans hB hA1.out.below.size)) ?_
       clear c0 c1' c2' x0 x1 x2
       rintro e w3 ⟨A3,m3,c3,rfl,ho3,hb3,hk3⟩
       have hA3:=hid ((hA1.out).post ho3 hb3 hk3)
       have HJ3:=hid ((HJ.out).jW (by decide) hk3)
       have FG:=hid ((hb3.cell (p:=⟨pb,po,none⟩) hpl).trans Hpc.out)
       have hm3:m3≤140737480010610:=by
        have e3:=hA3.out.len
        have e2:=(hA1.out).len
        simp only [List.length_append] at e3 e2
        omega
       clear ho3 hb3 hk3
       go_wp2_with (at_builtin; refine gC rfl _ _ rfl B _ _ _ _ rfl hA3.out.own _ 58 rfl rfl (by omega) (Nat.le_trans hB hA3.out.below.size) ?_; intro A4 c4 w4 ho4 hg4; have hk4:=(gW hA3.out.own hg4); have hb4:=hg4.below (Nat.le_trans hB hA3.out.below.size) (fun k hk=>(hA3.out.own.lt k hk).1); have hA4:=hid (hA3.out.grew hB ho4 hg4); have y1:=(HJ3.out.jW (by decide) hk4).cell 1; have y2:=(HJ3.out.jW (by decide) hk4).cell 2; have y3:=(hb4.cell (p:=⟨pb,po,none⟩) hpl).trans FG.out; clear ho4 hg4 hk4 hb4; simp only [List.getElem?_toArray,List.getElem?_cons_zero,List.getElem?_cons_succ] at y1 y2)
       refine Calls.mono (vR B _ _ _ _ s _ hA4.out.own (by omega) (Nat.le_trans hB hA4.out.below.size)) ?_
       clear y1 y2 y3
       rintro e w5 ⟨A5,m5,c5,rfl,ho5,hb5,hk5⟩
       have hA5:=hid (hA4.out.post ho5 hb5 hk5)
       clear ho5 hb5 hk5
       go_wp2_with fail
       go_roundw
       case rel=>exact⟨A5,m5,c5,0+1,rfl,by go_num,by omega,by
        have h:=hA5.out.own
        rw [Hst.out,if_pos (by trivial)]
        simpa [fN,fvL,dY,List.append_assoc] using h,hA5.out.below,hA5.out.kept⟩
       case measure=>simp [RowKit.intOf]; omega
     · have d1:decide ((0:Int)<(k:Int))=true:=decide_eq_true (by omega)
       go_wp2_with (at_builtin; refine DQ (wr.heap.size+1) (by simp) rfl _ _ rfl B _ _ _ _ rfl hA1.out.own _ 44 rfl rfl (by omega) (Nat.le_trans hB hA1.out.below.size) ?_; intro A2 m2c w2 ho2 hg2; have hA2:=hid (hA1.out.grew hB ho2 hg2); have hk2:=(gW hA1.out.own hg2); have hb2:=hg2.below (Nat.le_trans hB hA1.out.below.size) (fun k hk=>(hA1.out.own.lt k hk).1); have c0:=(HJ.out.jW (by decide) hk2).cell 0; have hJ2:=hid (HJ.out.jW (by decide) hk2); have PL:=hid ((hb2.cell (p:=⟨pb,po,none⟩) hpl).trans Hpc.out); clear ho2 hg2 hk2 hb2; simp only [List.getElem?_toArray,List.getElem?_cons_zero,List.getElem?_cons_succ] at c0)
       refine Calls.mono (vR B _ _ _ _ nm _ hA2.out.own (by omega) (Nat.le_trans hB hA2.out.below.size)) ?_
       clear c0 x0 x1 x2 d1
       rintro e w3 ⟨A3,m3,c3,rfl,ho3,hb3,hk3⟩
       have hA3:=hid ((hA2.out).post ho3 hb3 hk3)
       have HJ3:=hid ((hJ2.out).jW (by decide) hk3)
       have FG:=hid ((hb3.cell (p:=⟨pb,po,none⟩) hpl).trans PL.out)
       have hm3:m3≤140737480010610:=by
        have e3:=hA3.out.len
        have e2:=(hA2.out).len
        simp only [List.length_append] at e3 e2
        omega
       clear ho3 hb3 hk3
       go_wp2_with (at_builtin; refine gC rfl _ _ rfl B _ _ _ _ rfl hA3.out.own _ 58 rfl rfl (by omega) (Nat.le_trans hB hA3.out.below.size) ?_; intro A4 c4 w4 ho4 hg4; have hk4:=(gW hA3.out.own hg4); have hb4:=hg4.below (Nat.le_trans hB hA3.out.below.size) (fun k hk=>(hA3.out.own.lt k hk).1); have hA4:=hid (hA3.out.grew hB ho4 hg4); have y1:=(HJ3.out.jW (by decide) hk4).cell 1; have y2:=(HJ3.out.jW (by decide) hk4).cell 2; have y3:=(hb4.cell (p:=⟨pb,po,none⟩) hpl).trans FG.out; clear ho4 hg4 hk4 hb4; simp only [List.getElem?_toArray,List.getElem?_cons_zero,List.getElem?_cons_succ] at y1 y2)
       refine Calls.mono (vR B _ _ _ _ s _ hA4.out.own (by omega) (Nat.le_trans hB hA4.out.below.size)) ?_
       clear y1 y2 y3
       rintro e w5 ⟨A5,m5,c5,rfl,ho5,hb5,hk5⟩
       have hA5:=hid (hA4.out.post ho5 hb5 hk5)
       clear ho5 hb5 hk5
       go_wp2_with fail
       go_roundw
       case rel=>exact⟨A5,m5,c5,k+1,rfl,by go_num,by omega,by
        have h:=hA5.out.own
        rw [Hst.out,if_neg hk0]
        simpa [fN,fvL,dY,List.append_assoc] using h,hA5.out.below,hA5.out.kept⟩
       case measure=>simp [RowKit.intOf]; omega
  · have hkn:k=n:=by omega
    have tX:=hid (show fs.take k=fs from List.take_of_length_le (by omega))
    go_wp2_with (at_builtin; refine gC rfl _ _ rfl B _ _ _ _ rfl hA0.own _ 125 rfl rfl (by omega) (Nat.le_trans hB hA0.below.size) ?_; intro A2 c2 w2 ho2 hg2)
    go_ret
    have hA2:=hA0.grew hB ho2 hg2
    refine⟨A2,m'+1,c2,rfl,?_,hA2.below,hA2.kept⟩
    have h:=hA2.own
    rw [tX.out] at h
    simpa [fO,List.append_assoc] using h
def zh (n:Nat) (xs:List Value) (u:Nat) (w:World) (e:Ending) (w':World):Prop:=
 ∃ v',e = .returned v'∧w'.ownsRow w.heap.size 5 1 v' (n+(Lib.decDigits u).length) (xs ++ Lib.byteCells (Lib.decDigits u))∧RowKit.Below w.heap.size w w'
theorem Bu {w:World} {g:Nat} {xs:List Value} (hr:dw w g 0 xs):∀ j u,xs[j]? = some u→w.cell? ((⟨g,0,none⟩:Addr).add j)=some u:=fun j u hu=>by
 have h:=hr j u hu
 rw [Lib.add_plain]; exact h
theorem DR {w:World} {K:Act→World→Prop} {ops:Array Oper} {rest:List Oper} {o:Oper} {a:Act} {Q:Exit→Act→World→Prop} (hgd:o.guard=none) (s x:Operand) (ho:o.op = .call { callee:=.builtin .append,args:=#[s,x],argTypes:=#[118,9] })
 (g n:Nat) (xs:List Value) (hs:a.eval s = .slice (some ⟨g,0,none⟩) n n) (hl:xs.length=n) (hr:dw w g 0 xs) (t:ByteArray) (hx:a.eval x = .string t) (ht:0<t.size) (hm:n+t.size≤140737488355328)
 (h:∀ v' w',w'.ownsRow w.heap.size 5 1 v' (n+t.size) (xs ++ strCells t)→w.grownBy w' none→wpList Tryz.prog ops Q rest (a.put o.dst v') w') :
 wpList Tryz.prog ops Q (o :: rest) a w:=by
 refine wpList_plain hgd fun K hK'=>?_
 obtain⟨i,hi,hz,hsize,hby⟩:=info_parts Tryz.infoU8
 have hrun:=run_append_grow_string (P:=Tryz.prog) w 118 9 o.type 5 i (.int .u8 0) Tryz.underlying118 Tryz.underlying9 hi hz ⟨g,0,none⟩ n n xs (by rw [hsize]; simpa using hl) (Bu hr) t (by omega) (by omega) (by rw [hby]; exact growslice_fits (by omega) (by omega))
 have hge:=grownCap_ge w (n+t.size) n 5
 have hcm:grownCap w (n+t.size) n 5 ≤ maxLen:=grownCap_le_maxLen w (n+t.size) n 5 (by unfold maxLen; omega)
 have hlen:(xs ++ strCells t).length=(n+t.size)*1:=by rw [List.length_append,hl,strCells_length,Nat.mul_one]
 unfold Oper.wp
 simp [execOp,ho,resolve,invoke,builtin,hs,hx,hrun,Result.andThen]
 refine hK' _ _ (h _ _ ⟨hlen,.inr ⟨w.heap.size,_,_,rfl,Nat.le_refl _,heap_alloc_new w.drew _,hge,hcm,?_,?_⟩⟩ ⟨rfl,rfl,rfl,by simp,fun k hk _=>heap_alloc_old w.drew _ hk⟩)
 · have hz1:(Value.int IntKind.u8 0).cells.size=1:=rfl
   simp only [Array.size_append,List.size_toArray,size_zeroCells,hz1,hl,strCells_length]
   omega
 · simp only [Array.toList_append,List.append_assoc]
   rw [← List.append_assoc,← hlen]
   exact List.take_left
theorem zi (g n u:Nat) (hu:u<100) (xs:List Value) (w:World) (hl:xs.length=n) (hr:dw w g 0 xs) (hn:n≤1000) :
 Calls Tryz.prog 172 #[.slice (some ⟨g,0,none⟩) n n,.int .u64 u,.int .i64 10] w (zh n xs u w):=by
 have hlen:(Lib.decDigits u).length≤20∧0<(Lib.decDigits u).length:=by
  rw [Lib.decDigits_length]
  by_cases h10:u<10
  · rw [Lib.nDigits_small h10]; omega
  · rw [Lib.nDigits_big h10,Lib.nDigits_small (show u / 10<10 by omega)]; omega
 have hsz:(⟨(Lib.decDigits u).toArray⟩:ByteArray).size=(Lib.decDigits u).length:=by simp [ByteArray.size]
 have Hl:=hid hl
 have Hr:=hid hr
 have Hsz:=hid hsz
 have Hsm:=hid (fun W=>Any.internal_strconv_small { Cr with } u hu W)
 clear hl hr hsz
 go_enter Tryz.func172,Tryz.ntmps172
 go_wp2_with (first
  | (go_at_call 211; refine (Hsm.out _).mono ?_; rintro e w' ⟨rfl,rfl⟩)
  | (at_builtin; refine DR (K:=fun _ _=>True) rfl _ _ rfl g n xs rfl Hl.out Hr.out ⟨(Lib.decDigits u).toArray⟩ rfl (by rw [Hsz.out]; omega) (by rw [Hsz.out]; omega) ?_; intro v' w1 hown' hgrow))
 go_ret
 refine⟨v',rfl,?_,(Below.refl _ _).grown hgrow (Nat.le_refl _) (fun k hk=>by cases hk)⟩
 rw [Hsz.out] at hown'
 exact hown'
theorem Cw (g n u : Nat) (hu : 100 ≤ u) (hu64 : u < 18446744073709551616) (xs : List Value) (w : World) (hg : g < w.heap.size) (hl : xs.length = n) (hr : dw w g 0 xs) (hn : n ≤ 1000) (htab : Lib.TabIs Tryz.prog w "internal/strconv.uint64pow10" .u64 Lib.pow10Tab) :
 Calls Tryz.prog 172 #[.slice (some ⟨g,0,none⟩) n n,.int .u64 u,.int .i64 10] w (zh n xs u w):=by
 obtain⟨i0,hi,hz0,hz1,hz2⟩:=info_parts Tryz.infoU8
 have hu1:1≤u:=by omega
 have hnd20:Lib.nDigits u≤20:=by have:=Lib.numDigits_eq u hu1 hu64; split at this <;> omega
 have hnd0:0<Lib.nDigits u:=by rw [Lib.nDigits_big (by omega)]; omega
 have hal : Tryz.prog.arrayLen 321 = 24:=by simp [Program.arrayLen,Tryz.underlying321]
 have hsl:∀ W,(Instr.sliceAt 321 (.pointer (some ⟨w.heap.size,0,none⟩)) none (some (.int .i64 (Lib.nDigits u:Int))) none).run Tryz.prog W = .ok (.slice (some ⟨w.heap.size,0,none⟩) (Lib.nDigits u) 24) W:=fun W=>by
  rw [run_sliceAt_array_h W 321 ⟨w.heap.size,0,none⟩ (by simp [Program.arrayLen,Program.elem,Tryz.underlying321]) .i64 (Lib.nDigits u:Int) (by omega) (by rw [hal]; omega)]
  go_simp
 have hH0:=Lib.holds_zero0 w 321 (Lib.nDigits u) (by omega)
 have hfmt:=Any.internal_strconv_formatBase10 { Cr with } w.heap.size 0 24 u (Array.replicate (Lib.nDigits u) 0) (w.alloc (.cells Lib.zeros24 321)) hH0 (by rw [Array.size_replicate]; exact Lib.lt_pow_nDigits u) hu64 (by rw [Array.size_replicate]; omega)
 rw [Array.size_replicate] at hfmt
 have Hfmt:=hid hfmt
 have HH0:=hid hH0
 have Hnum:=hid (Any.internal_strconv_numDigits { Cr with } u hu1 hu64 (w.alloc (.cells Lib.zeros24 321)) (Lib.tabIs_alloc htab _))
 have iu:(100:Int)≤(u:Int):=by omega
 have Hl:=hid hl
 have Hr:=hid hr
 clear hH0 hal hfmt htab hl hr
 go_enter Tryz.func172,Tryz.ntmps172
 go_wp2_with fail
 refine Hnum.out.mono ?_
 rintro e w' ⟨rfl,rfl⟩
 go_wp2_with fail
 refine Hfmt.out.mono ?_
 rintro e w' ⟨rfl,k,v',dk,rfl,hF⟩
 have hcells:∀ j u',(Lib.byteCells (Lib.decDigits u))[j]? = some u'→((putRow (fun (b:UInt8)=>Value.int .u8 (b.toNat:Int)) (w.alloc (.cells Lib.zeros24 321)) w.heap.size 0 dk).drewN k).cell? ((⟨w.heap.size,0,none⟩:Addr).add j)=some u':=by
  intro j u' hj
  have hjl:j<(Lib.decDigits u).length:=by
   have h5:=(List.getElem?_eq_some_iff.1 hj).1
   rwa [Lib.byteCells_length] at h5
  have e5:(Lib.byteCells (Lib.decDigits u))[j]? = some (Value.int .u8 ((Lib.decDigits u)[j].toNat:Int)):=by simp [Lib.byteCells,hjl]
  rw [e5] at hj
  cases hj
  rw [Lib.row_is_numeral hF j hjl,Lib.add_plain,World.cell?_drewN]
  exact cell?_putRow (fun (b:UInt8)=>Value.int .u8 (b.toNat:Int)) _ w.heap.size 0 _ dk HH0.out (by rw [hF.size,Array.size_replicate]) j (by rw [hF.size]; rw [Lib.decDigits_length] at hjl; exact hjl)
 obtain⟨os,eo⟩:=Lib.fin_at w (.cells Lib.zeros24 321) dk k 0
 have hb2:RowKit.Below w.heap.size w ((putRow (fun (b:UInt8)=>Value.int .u8 (b.toNat:Int)) (w.alloc (.cells Lib.zeros24 321)) w.heap.size 0 dk).drewN k):=by rw [eo]; exact Lib.below_grow w.heap.size w (Nat.le_refl _) k os
 generalize (putRow (fun (b:UInt8)=>Value.int .u8 (b.toNat:Int)) (w.alloc (.cells Lib.zeros24 321)) w.heap.size 0 dk).drewN k=W2 at hcells hb2 ⊢
 clear eo HH0 Hfmt Hnum
 have Hc:=hid hcells
 have Hr2:=hid (Bu (Hr.out.below hb2 hg))
 have Hb2:=hid hb2
 clear hcells hb2 hF
 go_wp2_with (at_builtin; refine wpList_append_grows _ rfl _ _ 118 rfl 5 i0 (.int .u8 0) 1 1 Tryz.underlying118 hi hz0 hz1 hz2 rfl (by decide) (some ⟨g,0,none⟩) n n xs rfl (fun h=>by cases h) (by rw [Hl.out,Nat.mul_one]) (fun b hb=>by cases hb; exact Hr2.out) ⟨w.heap.size,0,none⟩ (Lib.nDigits u) 24 (Lib.byteCells (Lib.decDigits u)) rfl (by rw [Lib.byteCells_length,Lib.decDigits_length,Nat.mul_one]) Hc.out (fun u' hu'=>by simp only [Lib.byteCells,List.mem_map] at hu'; obtain⟨b,_,rfl⟩:=hu'; rfl) (by omega) (by unfold maxLen; omega) (by omega) ?_; intro v2 w3 hown' hgrow)
 go_ret
 refine⟨v2,rfl,?_,Hb2.out.trans ((Below.refl _ _).grown hgrow Hb2.out.size (fun k hk=>by cases hk))⟩
 rw [Lib.decDigits_length]
 exact bV hown' Hb2.out.size
theorem FH (g n u : Nat) (hu64 : u < 9223372036854775808) (xs : List Value) (w : World) (hg : g < w.heap.size) (hl : xs.length = n) (hr : dw w g 0 xs) (hn : n ≤ 1000) (htab : Lib.TabIs Tryz.prog w "internal/strconv.uint64pow10" .u64 Lib.pow10Tab) :
 Calls Tryz.prog 127 #[.slice (some ⟨g,0,none⟩) n n,.int .i64 u,.int .i64 10] w (zh n xs u w):=by
 have H:=hid (show Calls Tryz.prog 172 #[.slice (some ⟨g,0,none⟩) n n,.int .u64 u,.int .i64 10] w (zh n xs u w) from by
  by_cases hu:u<100
  · exact zi g n u hu xs w hl hr hn
  · exact Cw g n u (by omega) (by omega) xs w hg hl hr hn htab)
 have hw:IntKind.u64.wrap (u:Int)=u:=by rw [IntKind.wrap_u64]; omega
 have d0:decide ((u:Int)<0)=false:=decide_eq_false (by omega)
 clear hl hr htab hu64 hg hn
 go_enter Tryz.func127,Tryz.ntmps127
 go_wp2_with fail
 refine Calls.mono H.out ?_
 rintro e w1 ⟨v',rfl,ho,hb⟩
 go_wp2
 go_ret
 exact⟨v',rfl,ho,hb⟩
theorem DS (g n u : Nat) (hu64 : u < 9223372036854775808) (xs : List Value) (w : World) (hg : g < w.heap.size) (hl : xs.length = n) (hr : dw w g 0 xs) (hn : n ≤ 1000) (htab : Lib.TabIs Tryz.prog w "internal/strconv.uint64pow10" .u64 Lib.pow10Tab) :
 Calls Tryz.prog 75 #[.slice (some ⟨g,0,none⟩) n n,.int .i64 u,.int .i64 10] w (zh n xs u w):=by
 have H:=hid (FH g n u hu64 xs w hg hl hr hn htab)
 clear hl hr htab hu64 hg hn
 go_enter Tryz.func75,Tryz.ntmps75
 go_wp2_with fail
 refine Calls.mono H.out ?_
 rintro e w1 ⟨v',rfl,ho,hb⟩
 go_wp2
 go_ret
 exact⟨v',rfl,ho,hb⟩
end Go.Proofs.YtcpgnjmaampglaaGreatDoor
