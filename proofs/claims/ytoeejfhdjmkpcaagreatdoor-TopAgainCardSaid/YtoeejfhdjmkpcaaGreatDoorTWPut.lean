/- Of the proof of a statement: PlNext, WPut, SlEqL, SvSame. -/
import Derived.Test.YtoeejfhdjmkpcaaGreatDoorTPlPlace
import Derived.Test.YtoeejfhdjmkpcaaGreatDoorTWJob
set_option linter.unusedVariables false
set_option linter.unusedSimpArgs false
set_option maxRecDepth 100000
set_option maxHeartbeats 8000000
/- What a request does to a state: plain. -/
namespace Go.Proofs.YtoeejfhdjmkpcaaGreatDoor
open Go.Lib (hid)
structure aH where
 kind:Int
 job:aD
 node:aA
 lease:ak
 name:ByteArray
 n:Int
def iR (st:ah) (x:aD):ah:=⟨st.rev,hM aD.name st.jobs x,st.nodes,st.leases⟩
def je (st:ah) (x:aA):ah:=⟨st.rev,st.jobs,hM aA.name st.nodes x,st.leases⟩
def oS (st:ah) (s:ByteArray):ah:=⟨st.rev,st.jobs.filter fun a=>!decide (a.name=s),st.nodes,st.leases.filter fun l=>!decide (l.job=s)⟩
def oT (st:ah) (s:ByteArray):ah:=⟨st.rev,st.jobs,st.nodes.filter fun a=>!decide (a.name=s),st.leases.filter fun l=>!decide (l.node=s)⟩
def mW (st:ah) (s:ByteArray):ah:=⟨st.rev,st.jobs,st.nodes,st.leases.filter fun l=>!decide (l.job=s)⟩
def qR (st:ah) (t:Int):ah:=⟨st.rev,st.jobs,st.nodes,st.leases.filter fun l=>!decide (l.till≤t)⟩
def yZ (j:aD):aD:=⟨j.name,j.prio,j.need,j.tries+1,j.tag⟩
def jv (st:ah) (j:aD) (l:ak):ah:=⟨st.rev,hM aD.name st.jobs (yZ j),st.nodes,hM ak.job st.leases l⟩
def fR (st:ah) (now:Int) (l:ak):Int × ah × Int:=
 match cP st.jobs l.job with
 | none=>(6,st,now)
 | some j=>if (cL st.nodes l.node).isSome=false then (6,st,now)
  else if (cU st.leases l.job).isSome=true then (7,st,now)
  else if l.till≤now then (1,st,now)
  else if j.tries=100 then (2,st,now)
  else (aG (jv st j l),jv st j l,now)
def doR (st:ah) (now:Int) (q:aH):Int × ah × Int:=
 if q.kind=1 then (aG (iR st q.job),iR st q.job,now)
 else if q.kind=2 then (aG (je st q.node),je st q.node,now)
 else if q.kind=3 then (if (cP st.jobs q.name).isSome=true then 0 else 6,oS st q.name,now)
 else if q.kind=4 then (if (cL st.nodes q.name).isSome=true then 0 else 6,oT st q.name,now)
 else if q.kind=5 then fR st now q.lease
 else if q.kind=6 then (if (cU st.leases q.name).isSome=true then 0 else 6,mW st q.name,now)
 else if q.kind=7 then (if 1099511627776 - now<q.n then (1,st,now) else (0,qR st (now+q.n),now+q.n))
 else (0,st,now)
def cN (q:aH):Int:=
 if q.kind=1 then fF q.job else if q.kind=2 then eP q.node
 else if q.kind=3∨q.kind=4∨q.kind=6 then (if bQ q.name then 0 else 4)
 else if q.kind=5 then lsE q.lease
 else if q.kind=7 then (if ranged q.n 0 1099511627776 then 0 else 1) else 0
def bZ:aD:=⟨⟨#[]⟩,0,0,0,⟨#[]⟩⟩
def aU:aA:=⟨⟨#[]⟩,0,⟨#[]⟩⟩
def aI:ak:=⟨⟨#[]⟩,⟨#[]⟩,0⟩
def kB (q:aH):aH:=
 ⟨q.kind,if q.kind=1 then q.job else bZ,if q.kind=2 then q.node else aU,if q.kind=5 then q.lease else aI,if q.kind=3∨q.kind=4∨q.kind=6 then q.name else ⟨#[]⟩,if q.kind=7 then q.n else 0⟩
open Classical in
noncomputable def bK (q:aH):Int:=if ranged q.kind 1 9=false then 1 else if kB q≠q then 4 else cN q
theorem cF {α:Type} {E:α→Int} {key:α→ByteArray} {l:List α} (h:cE E key l=0):bE key l:=(kM none l h).2
end Go.Proofs.YtoeejfhdjmkpcaaGreatDoor
/- The walks of Put: the rows of a table, written one by one. -/
namespace Go.Proofs.YtoeejfhdjmkpcaaGreatDoor
open Go.Lib (hid)
open Go.RowKit
theorem fI.keep {w w':World} {base g:Nat} {l:List UInt8} (h:fI w base g l) (hk:cR base g w w'):Below base w w':=hk.below h.at_.1 h.size
def jI {α:Type} (enc:α→List UInt8) (xs:List α):List UInt8:=bI xs.length ++ xs.flatMap enc
theorem lP {α:Type} {enc:α→List UInt8} (h:∀ x,(enc x).length≤85):∀ xs:List α,(xs.flatMap enc).length≤85*xs.length
 | []=>by simp
 | x :: xs=>by
  have:=lP h xs
  have:=h x
  rw [List.flatMap_cons,List.length_append,List.length_cons]; omega
theorem ow {α:Type} (enc:α→List UInt8) {xs:List α} {k:Nat} {x:α} (h:xs[k]? = some x):(xs.take (k+1)).flatMap enc=(xs.take k).flatMap enc ++ enc x:=by
 rw [List.take_add_one,h]; simp
def sP {α:Type} (enc:α→List UInt8) (xs:List α) (n:Nat) (base g:Nat) (l:List UInt8) (w:World) (i:Value) (wr:World):Prop:=
 ∃ k:Nat,k≤n∧i = .int .i64 k∧fI wr base g (l ++ bI n ++ (xs.take k).flatMap enc)∧cR base g w wr
theorem Jp.of {s:ByteArray} (h:s.size≤9223372036854775807):s.size≤9223372036854775807:=h
theorem BU (base g p:Nat) (l:List UInt8) (xs:List ak) (A:Option Addr) (n c:Nat) (w:World) (hx:aW w base 3 A n (au av xs)) (hl:xs.length=n) (hn:n≤1000000) (hw:∀ x ∈ xs,wY x) (h:fI w base g l) (hll:l.length≤1000000) :
 Calls Tryz.prog 66 #[.pointer (some ⟨g,0,none⟩),.slice A n c,.func (.func 67) #[.pointer (some ⟨g,0,none⟩)] #[]] w (gy base g (l ++ jI gX xs) w):=by
 have nO:∀ k,((xs.take k).flatMap gX).length≤85*n:=fun k=>by
  have h1:=lP (enc:=gX) (fun x=>tL _) (xs.take k)
  have h2:(xs.take k).length≤n:=by rw [List.length_take]; omega
  omega
 have hnl:=cO n
 have Hlen:=hid (show ∀ k,(l ++ bI n ++ (xs.take k).flatMap gX).length≤90000000 from fun k=>by have:=nO k; simp only [List.length_append]; omega)
 have aV:=hid (show l ++ jI gX xs=l ++ bI n ++ (xs.take n).flatMap gX from by unfold jI; rw [← hl,List.take_length,List.append_assoc])
 have HN:=hid (kD base g l (n:Int) w (by omega) h (by omega))
 have Hw:=hid hw
 have Hl:=hid hl
 have Hx:=hid hx
 have Ho:=hid h
 clear hw hl hx h nO hnl
 go_enter Tryz.func66,Tryz.ntmps66
 go_wp2_with fail
 refine Calls.mono HN.out ?_
 rintro e w0 ⟨rfl,ok0,k0⟩
 rw [show ((n:Int)).toNat=n from by omega] at ok0
 have Ok0:=hid ok0
 have K0:=hid k0
 clear ok0 k0
 go_wp2
 go_loopw [7,14] (fun _ i wr=>sP gX xs n base g l w i wr) (fun _ i _=>n - (intOf i).toNat)
 case atStart=>exact⟨0,Nat.zero_le _,rfl,by simpa using Ok0.out,K0.out⟩
 case round=>
  obtain⟨k,hk,rfl,hok,hkp⟩:=hrel
  have Hok:=hid hok
  have Hkp:=hid hkp
  have hsz:=hok.size
  have hB:=Ho.out.keep hkp
  clear hok hkp
  by_cases hlt:k<n
  · obtain⟨x,hf⟩:∃ x,xs[k]? = some x:=⟨_,List.getElem?_eq_getElem (by rw [Hl.out]; exact hlt)⟩
    obtain⟨b,off,rfl,hbB,hc⟩:=(Hx.out.below hB).cV aE Hl.out hf
    have hso:=hid (Hw.out x (List.mem_of_getElem? hf))
    have Hst:=hid (ow gX hf)
    obtain⟨X,hX⟩:∃ X,X=x:=⟨_,rfl⟩
    have HX:=hid hX
    obtain⟨job,node,till⟩:=x
    obtain⟨c0,c1,c2⟩:=rc3 hc
    clear hc hf hX hB
    have hlb:b<wr.heap.size:=by omega
    have hba:Below wr.heap.size wr (wr.alloc (.cells #[.string job,.string node,.int .i64 till] 38)):=(Below.refl _ _).alloc (Nat.le_refl _) _
    have Hba:=hid hba
    have Ha:=hid (Hok.out.below hba)
    have Hkl:=hid (Hlen.out k)
    clear hba
    go_wp2_with fail
    refine Calls.mono (Bi base g _ ⟨job,node,till⟩ _ hso.out Ha.out Hkl.out) ?_
    rintro e w1 ⟨rfl,ok1,k1⟩
    have Hk1:=hid (Hkp.out.trans ((cR.of_below Hba.out).trans k1))
    have Ok1:=hid (show fI w1 base g (l ++ bI n ++ (xs.take (k+1)).flatMap gX) from by rw [Hst.out,← List.append_assoc]; exact ok1)
    clear ok1 k1
    go_wp2
    go_roundw
    case rel=>exact⟨k+1,by omega,by go_num,Ok1.out,Hk1.out⟩
    case measure=>simp [intOf]; omega
  · obtain rfl:k=n:=by omega
    go_wp2
    go_end0
    exact⟨rfl,by rw [aV.out]; exact Hok.out,Hkp.out⟩
end Go.Proofs.YtoeejfhdjmkpcaaGreatDoor
/- slices.Equal at rows of records: true just where the lists are the same. -/
namespace Go.Proofs.YtoeejfhdjmkpcaaGreatDoor
open Go.Lib (hid)
open Go.RowKit
theorem Bj (xs ys:List ak) (A A':Option Addr) (n m c c':Nat) (w:World) (hx:aW w w.heap.size 3 A n (au av xs)) (hy:aW w w.heap.size 3 A' m (au av ys)) (lx:xs.length=n) (ly:ys.length=m) (hn:n≤9223372036854775807) (hm:m≤9223372036854775807) :
 Calls Tryz.prog 147 #[.slice A n c,.slice A' m c'] w (ni xs ys w):=by
 by_cases h:n=m
 · subst h
   have h0:((n:Int) != n)=false:=by simp
   have Lx:=hid lx
   have Ly:=hid ly
   clear lx ly
   go_enter Tryz.func147,Tryz.ntmps147
   go_wp2
   go_loopw [13] (fun i wr=>vQ xs ys n w i wr) (fun i _=>n - (intOf i).toNat)
   case atStart=>exact⟨0,Nat.zero_le _,rfl,rfl,Below.refl _ _⟩
   case round=>
    obtain⟨k,hk,rfl,he,hb⟩:=hrel
    have He:=hid he
    clear he
    by_cases hlt:k<n
    · obtain⟨x,hxk⟩:∃ x,xs[k]? = some x:=⟨_,List.getElem?_eq_getElem (by rw [Lx.out]; exact hlt)⟩
      obtain⟨y,hyk⟩:∃ y,ys[k]? = some y:=⟨_,List.getElem?_eq_getElem (by rw [Ly.out]; exact hlt)⟩
      obtain⟨b,off,rfl,hbB,hc⟩:=(hx.below hb).cV aE Lx.out hxk
      obtain⟨b',off',rfl,oY,hc'⟩:=(hy.below hb).cV aE Ly.out hyk
      obtain⟨ig,fA,fB⟩:=x
      obtain⟨gP,eM,eN⟩:=y
      have c0:wr.cell? ⟨b,off+k*3,none⟩=some (.string ig):=hc 0 _ rfl
      have d0:wr.cell? ⟨b',off'+k*3,none⟩=some (.string gP):=hc' 0 _ rfl
      have c1:wr.cell? ⟨b,off+k*3+1,none⟩=some (.string fA):=hc 1 _ rfl
      have d1:wr.cell? ⟨b',off'+k*3+1,none⟩=some (.string eM):=hc' 1 _ rfl
      have c2:wr.cell? ⟨b,off+k*3+2,none⟩=some (.int .i64 fB):=hc 2 _ rfl
      have d2:wr.cell? ⟨b',off'+k*3+2,none⟩=some (.int .i64 eN):=hc' 2 _ rfl
      have hsz:=hb.size
      have hlt1:b<wr.heap.size:=by omega
      have hlt2:b'<wr.heap.size:=by omega
      have Hb:=hid hb
      have Hxk:=hid hxk
      have Hyk:=hid hyk
      have fin:=hid Hb.out.drew
      have step:=hid (fun (h:(⟨ig,fA,fB⟩:ak)=⟨gP,eM,eN⟩)=>fZ (hxk.trans (congrArg some h)) hyk He.out)
      have stop:=hid (fun (h:(⟨ig,fA,fB⟩:ak)≠⟨gP,eM,eN⟩)=>jZ hxk hyk h)
      clear hc hc' hx hy hxk hyk hb
      obtain⟨t,ht,hrun,-⟩:=oZ ig gP fA eM fB eN
      have HT:=hid ht
      cases t
      · have nk:=hid (stop.out (fun h=>absurd (HT.out.2 h) (by decide)))
        have hrun':∀ W,(binOp .neq 38 (.agg #[.string ig,.string fA,.int .i64 fB]) (.agg #[.string gP,.string eM,.int .i64 eN])).run Tryz.prog W = .ok (.bool true) W:=hrun
        clear ht hrun step
        go_wp2
        go_region
        go_wp2
        go_ret
        exact⟨false,rfl,⟨fun h=>(by cases h),fun h=>absurd h nk.out⟩,fin.out⟩
      · have step2:=hid (step.out (HT.out.1 rfl))
        have hrun':∀ W,(binOp .neq 38 (.agg #[.string ig,.string fA,.int .i64 fB]) (.agg #[.string gP,.string eM,.int .i64 eN])).run Tryz.prog W = .ok (.bool false) W:=hrun
        clear ht hrun stop
        go_wp2
        go_region
        go_wp2
        go_roundw
        case rel=>exact⟨k+1,by omega,by go_num,step2.out,fin.out⟩
        case measure=>simp [intOf]; omega
    · have fin:=hid hb
      have same:=hid (show xs=ys by
       have e:=He.out
       rwa [List.take_of_length_le (by rw [Lx.out]; omega),List.take_of_length_le (by rw [Ly.out]; omega)] at e)
      clear hb hx hy
      go_wp2
      go_ret
      exact⟨true,rfl,⟨fun _=>same.out,fun _=>rfl⟩,fin.out⟩
 · have h0:((n:Int) != m)=true:=by simp; omega
   have fin:=hid (show xs≠ys by rintro rfl; omega)
   clear lx ly hx hy
   go_enter Tryz.func147,Tryz.ntmps147
   go_wp2
   go_ret
   exact⟨false,rfl,⟨fun h=>(by cases h),fun h=>absurd h fin.out⟩,Below.refl _ _⟩
end Go.Proofs.YtoeejfhdjmkpcaaGreatDoor
/- serve.same: do two states hold the same rows? -/
namespace Go.Proofs.YtoeejfhdjmkpcaaGreatDoor
open Go.Lib (hid)
open Go.RowKit
def oA (a b:ah) (w:World) (e:Ending) (w':World):Prop:=
 ∃ t:Bool,e = .returned (.bool t)∧(t=true↔a.jobs=b.jobs∧a.nodes=b.nodes∧a.leases=b.leases)∧Below w.heap.size w w'
structure sQ (w:World) (a b:ah) (x y:StA) (wx:World):Prop where
 below:Below w.heap.size w wx
 b1:Blk wx w.heap.size 26 (stC a x)
 b2:Blk wx (w.heap.size+1) 26 (stC b y)
theorem sQ.next {w w' wx:World} {a b:ah} {x y:StA} (h:sQ w a b x y wx) (hb:Below wx.heap.size wx w'):sQ w a b x y w':=
 ⟨h.below.trans (hb.mono h.below.size),h.b1.below hb h.b1.lt,h.b2.below hb h.b2.lt⟩
theorem wG {w wx:World} {sz n:Nat} {A:Option Addr} {xs:List Value} (h:aW w w.heap.size sz A n xs) (hb:Below w.heap.size w wx):aW wx wx.heap.size sz A n xs:=(h.below hb).more hb.size
theorem rJ (a b:ah) (x y:StA) (w:World) (hA:StAt w w.heap.size a x) (hB:StAt w w.heap.size b y) :
 Calls Tryz.prog 46 #[.agg (stC a x),.agg (stC b y)] w (oA a b w):=by
 obtain⟨W,hW⟩:∃ W,(w.alloc (.cells (stC a x) 26)).alloc (.cells (stC b y) 26)=W:=⟨_,rfl⟩
 have H0:=hid (show sQ w a b x y W from by
  rw [← hW]
  refine⟨((Below.refl _ _).alloc (Nat.le_refl _) _).alloc (by simp) _,Blk.alloc (show Blk _ _ _ _ from heap_alloc_new w _) _,?_⟩
  have:=heap_alloc_new (w.alloc (.cells (stC a x) 26)) (.cells (stC b y) 26)
  rwa [show (w.alloc (.cells (stC a x) 26)).heap.size=w.heap.size+1 by simp] at this)
 have HA:=hid hA
 have HB:=hid hB
 clear hA hB
 have x1:W.cell? ⟨w.heap.size,1,none⟩=some (.slice x.aj x.nj x.cj):=H0.out.b1.cell 1
 have y1:W.cell? ⟨w.heap.size+1,1,none⟩=some (.slice y.aj y.nj y.cj):=H0.out.b2.cell 1
 have HJ:=hid (Fq a.jobs b.jobs x.aj y.aj x.nj y.nj x.cj y.cj W (wG HA.out.j H0.out.below) (wG HB.out.j H0.out.below) HA.out.lj HB.out.lj HA.out.bj HB.out.bj)
 unfold stC at hW ⊢
 go_enter Tryz.func46,Tryz.ntmps46
 go_wp2_with fail
 try rw [hW]
 clear hW
 refine Calls.mono HJ.out ?_
 rintro e w1 ⟨t1,rfl,ht1,hb1⟩
 have H1:=hid (H0.out.next hb1)
 have Ht1:=hid ht1
 clear hb1 ht1 HJ x1 y1 H0
 cases t1
 · have fin:=hid (show oA a b w (.returned (.bool false)) w1 from ⟨false,rfl,⟨fun h=>(by cases h),fun h=>absurd (Ht1.out.2 h.1) (by decide)⟩,H1.out.below⟩)
   go_wp2
   go_ret
   exact fin.out
 have x2:w1.cell? ⟨w.heap.size,2,none⟩=some (.slice x.an x.nn x.cn):=H1.out.b1.cell 2
 have y2:w1.cell? ⟨w.heap.size+1,2,none⟩=some (.slice y.an y.nn y.cn):=H1.out.b2.cell 2
 have HN:=hid (C7 a.nodes b.nodes x.an y.an x.nn y.nn x.cn y.cn w1 (wG HA.out.n H1.out.below) (wG HB.out.n H1.out.below) HA.out.ln HB.out.ln HA.out.bn HB.out.bn)
 go_wp2_with fail
 refine Calls.mono HN.out ?_
 rintro e w2 ⟨t2,rfl,ht2,hb2⟩
 have H2:=hid (H1.out.next hb2)
 have Ht2:=hid ht2
 clear hb2 ht2 HN x2 y2 H1
 cases t2
 · have fin:=hid (show oA a b w (.returned (.bool false)) w2 from ⟨false,rfl,⟨fun h=>(by cases h),fun h=>absurd (Ht2.out.2 h.2.1) (by decide)⟩,H2.out.below⟩)
   go_wp2
   go_ret
   exact fin.out
 have x3:w2.cell? ⟨w.heap.size,3,none⟩=some (.slice x.al x.nl x.cl):=H2.out.b1.cell 3
 have y3:w2.cell? ⟨w.heap.size+1,3,none⟩=some (.slice y.al y.nl y.cl):=H2.out.b2.cell 3
 have HL:=hid (Bj a.leases b.leases x.al y.al x.nl y.nl x.cl y.cl w2 (wG HA.out.l H2.out.below) (wG HB.out.l H2.out.below) HA.out.ll HB.out.ll HA.out.bl HB.out.bl)
 go_wp2_with fail
 refine Calls.mono HL.out ?_
 rintro e w3 ⟨t3,rfl,ht3,hb3⟩
 have H3:=hid (H2.out.next hb3)
 have Ht3:=hid ht3
 clear hb3 ht3 HL x3 y3 H2
 have fin:=hid (show oA a b w (.returned (.bool t3)) w3 from ⟨t3,rfl,⟨fun h=>⟨Ht1.out.1 (by trivial),Ht2.out.1 (by trivial),Ht3.out.1 h⟩,fun h=>Ht3.out.2 h.2.2⟩,H3.out.below⟩)
 cases t3
 · go_wp2
   go_ret
   exact fin.out
 · go_wp2
   go_ret
   exact fin.out
end Go.Proofs.YtoeejfhdjmkpcaaGreatDoor
