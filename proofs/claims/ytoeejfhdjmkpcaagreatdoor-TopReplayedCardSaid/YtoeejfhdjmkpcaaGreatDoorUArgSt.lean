/- Of the proof of a statement: Frm, EqFrm, PlJr, SlEqL, CkSz, ReqQ, RqRd, ArgSt. -/
import Derived.Test.YtoeejfhdjmkpcaaGreatDoorRows
import Derived.WalkKit
import Derived.ProofKit
import Derived.OpenShut
import Derived.ShutString
import Derived.ChangeOld
import Derived.Below
import Derived.Lib.SmallJoins
import Derived.Deep.QuietTactic
import Derived.BigQuiet
import Derived.Deep.Slices
import Derived.Test.YtoeejfhdjmkpcaaGreatDoorUDoA
import Derived.Test.YtoeejfhdjmkpcaaGreatDoorUFrmEnc
set_option linter.unusedVariables false
set_option linter.unusedSimpArgs false
set_option maxRecDepth 100000
set_option maxHeartbeats 8000000
/- What every law's frame uses: the program's fixed facts, and bounds out of well-formed integers. -/
namespace Go.Proofs.YtoeejfhdjmkpcaaGreatDoor
open Go.Lib (hid)
theorem own:ownKnob Tryz.prog.godebug=none:=by kernel_rfl
theorem laidOut:laidOutB Tryz.prog = true:=by kernel_rfl
theorem eM {n:Int} (h:(Lit.int .i64 n).wf=true) : -9223372036854775808≤n∧n≤9223372036854775807:=by
 simp only [Lit.wf,IntKind.min,IntKind.max,IntKind.signed,IntKind.bits,Bool.and_eq_true,decide_eq_true_eq,if_true] at h
 omega
end Go.Proofs.YtoeejfhdjmkpcaaGreatDoor
/- Eq at Frame, of the same frames. -/
namespace Go.Proofs.YtoeejfhdjmkpcaaGreatDoor
open Go.Lib (hid)
open Go.RowKit
def A3 (f:dF):List Value:=[.int .i64 f.ver,.int .i64 f.kind,.string f.pay]
theorem wU (f:dF):(A3 f).length=3:=rfl
end Go.Proofs.YtoeejfhdjmkpcaaGreatDoor
/- What the reference's reader of JSON gives: plain. -/
namespace Go.Proofs.YtoeejfhdjmkpcaaGreatDoor
open Go.Lib (hid)
open Go.Lib (hasPrefix trimPrefix itoa decDigits)
/-! What is printed is read. -/
theorem JG (l:List UInt8) (k:Nat) (h:k≤l.length):(BA l).extract 0 k=BA (l.take k):=by
 rw [← zZ ((BA l).extract 0 k)]
 congr 1
 rw [ByteArray.data_extract,Array.toList_extract,List.extract_eq_take_drop]
 simp [BA]
/-! Objects. -/
/-! Rows. -/
/-! What is left is no longer. -/
/-! Values: what they may be. -/
end Go.Proofs.YtoeejfhdjmkpcaaGreatDoor
/- slices.Equal at rows of records: true just where the lists are the same. -/
namespace Go.Proofs.YtoeejfhdjmkpcaaGreatDoor
open Go.Lib (hid)
open Go.RowKit
theorem CD (xs ys:List ah) (A A':Option Addr) (n m c c':Nat) (w:World) (hx:aQ w w.heap.size 3 A n (au ay xs)) (hy:aQ w w.heap.size 3 A' m (au ay ys)) (lx:xs.length=n) (ly:ys.length=m) (hn:n≤9223372036854775807) (hm:m≤9223372036854775807) :
 Calls Tryz.prog 147 #[.slice A n c,.slice A' m c'] w (oO xs ys w):=by
 by_cases h:n=m
 · subst h
   have h0:((n:Int) != n)=false:=by simp
   have Lx:=hid lx
   have Ly:=hid ly
   clear lx ly
   go_enter Tryz.func147,Tryz.ntmps147
   go_wp2
   go_loopw [13] (fun i wr=>zi xs ys n w i wr) (fun i _=>n - (intOf i).toNat)
   case atStart=>exact⟨0,Nat.zero_le _,rfl,rfl,Below.refl _ _⟩
   case round=>
    obtain⟨k,hk,rfl,he,hb⟩:=hrel
    have He:=hid he
    clear he
    by_cases hlt:k<n
    · obtain⟨x,hxk⟩:∃ x,xs[k]? = some x:=⟨_,List.getElem?_eq_getElem (by rw [Lx.out]; exact hlt)⟩
      obtain⟨y,hyk⟩:∃ y,ys[k]? = some y:=⟨_,List.getElem?_eq_getElem (by rw [Ly.out]; exact hlt)⟩
      obtain⟨b,off,rfl,hbB,hc⟩:=(hx.below hb).cR aH Lx.out hxk
      obtain⟨b',off',rfl,qU,hc'⟩:=(hy.below hb).cR aH Ly.out hyk
      obtain⟨iY,fJ,fK⟩:=x
      obtain⟨iq,eT,eU⟩:=y
      have c0:wr.cell? ⟨b,off+k*3,none⟩=some (.string iY):=hc 0 _ rfl
      have d0:wr.cell? ⟨b',off'+k*3,none⟩=some (.string iq):=hc' 0 _ rfl
      have c1:wr.cell? ⟨b,off+k*3+1,none⟩=some (.string fJ):=hc 1 _ rfl
      have d1:wr.cell? ⟨b',off'+k*3+1,none⟩=some (.string eT):=hc' 1 _ rfl
      have c2:wr.cell? ⟨b,off+k*3+2,none⟩=some (.int .i64 fK):=hc 2 _ rfl
      have d2:wr.cell? ⟨b',off'+k*3+2,none⟩=some (.int .i64 eU):=hc' 2 _ rfl
      have hsz:=hb.size
      have hlt1:b<wr.heap.size:=by omega
      have hlt2:b'<wr.heap.size:=by omega
      have Hb:=hid hb
      have Hxk:=hid hxk
      have Hyk:=hid hyk
      have fin:=hid Hb.out.drew
      have step:=hid (fun (h:(⟨iY,fJ,fK⟩:ah)=⟨iq,eT,eU⟩)=>gO (hxk.trans (congrArg some h)) hyk He.out)
      have stop:=hid (fun (h:(⟨iY,fJ,fK⟩:ah)≠⟨iq,eT,eU⟩)=>lK hxk hyk h)
      clear hc hc' hx hy hxk hyk hb
      obtain⟨t,ht,hrun,-⟩:=qV iY iq fJ eT fK eU
      have HT:=hid ht
      cases t
      · have oP:=hid (stop.out (fun h=>absurd (HT.out.2 h) (by decide)))
        have hrun':∀ W,(binOp .neq 38 (.agg #[.string iY,.string fJ,.int .i64 fK]) (.agg #[.string iq,.string eT,.int .i64 eU])).run Tryz.prog W = .ok (.bool true) W:=hrun
        clear ht hrun step
        go_wp2
        go_region
        go_wp2
        go_ret
        exact⟨false,rfl,⟨fun h=>(by cases h),fun h=>absurd h oP.out⟩,fin.out⟩
      · have step2:=hid (step.out (HT.out.1 rfl))
        have hrun':∀ W,(binOp .neq 38 (.agg #[.string iY,.string fJ,.int .i64 fK]) (.agg #[.string iq,.string eT,.int .i64 eU])).run Tryz.prog W = .ok (.bool false) W:=hrun
        clear ht hrun stop
        go_wp2
        go_region
        go_wp2
        go_roundw
        case rel=>exact⟨k+1,by omega,by go_num,step2.out,fin.out⟩
        case measure=>simp [intOf]; omega
    · have fin:=hid hb
      have same:=hid (show xs=ys by
       have e:=He.out
       rwa [List.take_of_length_le (by rw [Lx.out]; omega),List.take_of_length_le (by rw [Ly.out]; omega)] at e)
      clear hb hx hy
      go_wp2
      go_ret
      exact⟨true,rfl,⟨fun _=>same.out,fun _=>rfl⟩,fin.out⟩
 · have h0:((n:Int) != m)=true:=by simp; omega
   have fin:=hid (show xs≠ys by rintro rfl; omega)
   clear lx ly hx hy
   go_enter Tryz.func147,Tryz.ntmps147
   go_wp2
   go_ret
   exact⟨false,rfl,⟨fun h=>(by cases h),fun h=>absurd h fin.out⟩,Below.refl _ _⟩
end Go.Proofs.YtoeejfhdjmkpcaaGreatDoor
/- How many rows a state that may be has. -/
namespace Go.Proofs.YtoeejfhdjmkpcaaGreatDoor
open Go.Lib (hid)
open Go.RowKit
theorem A4 {st:ak} (h:aG st=0):st.jobs.length≤40∧st.nodes.length≤20∧st.leases.length≤40:=by
 have hz:dP st=true:=by
  cases hr:ranged st.rev 0 1099511627776 with
  | false=>rw [Gp hr] at h; exact absurd h (by decide)
  | true=>
   cases hs:dP st with
   | true=>rfl
   | false=>rw [sA hr hs] at h; exact absurd h (by decide)
 unfold dP at hz
 simp at hz
 omega
end Go.Proofs.YtoeejfhdjmkpcaaGreatDoor
/- What a reading of a request leaves. -/
namespace Go.Proofs.YtoeejfhdjmkpcaaGreatDoor
open Go.Lib (hid)
open Go.RowKit
def sB (q:aU) (e:Int) (w:World) (x:Ending) (w':World):Prop:=x = .returned (.tuple #[bT q,.int .i64 e])∧Below w.heap.size w w'
end Go.Proofs.YtoeejfhdjmkpcaaGreatDoor
/- Replies: what the program reads. -/
namespace Go.Proofs.YtoeejfhdjmkpcaaGreatDoor
open Go.Lib (hid)
open Go.RowKit
theorem qW {s:ByteArray} (h:s.size≠0):(s.toList != [])=true:=by unfold bne; rw [sC h]; rfl
theorem sD {s:ByteArray} (h:s.size≠0):(s.toList != ByteArray.toList ⟨#[]⟩)=true:=by unfold bne; rw [uj h]; rfl
theorem MB (g:Nat) (σ:RR Unit) (w:World) (h:RxS w g σ) (hσ:σ.Good qN) :
 Calls Tryz.prog 81 #[.pointer (some ⟨g,0,none⟩)] w fun e w'=>e = .returned (.int .i64 (qX σ:Int))∧w.grownBy w' (some g):=by
 obtain⟨s,x,hA,hx⟩:∃ (s:ByteArray) (x:Nat),lT w g s x∧((x=0∧qX σ=(if s.size=0 then 0 else 4))∨(x≠0∧qX σ=x)):=by
  cases σ with
  | ok u s=>exact⟨s,0,h,.inl ⟨rfl,rfl⟩⟩
  | bad x=>obtain⟨s,_,hA⟩:=h; exact⟨s,x,hA,.inr ⟨hσ.1,rfl⟩⟩
 obtain⟨E,hE⟩:∃ E,qX σ=E:=⟨_,rfl⟩
 rw [hE] at hx ⊢
 have y0:w.cell? ⟨g,0,none⟩=some (.string s):=Blk.cell hA 0
 have y1:w.cell? ⟨g,1,none⟩=some (.int .i64 (x:Int)):=Blk.cell hA 1
 have HA:=hid hA
 clear h hE hA hσ
 by_cases hs:s.size=0
 · obtain rfl:=wV hs
   have hEx:E=x:=by
    rcases hx with ⟨h1,h2⟩ | ⟨h1,h2⟩
    · rw [if_pos hs] at h2; omega
    · exact h2
   subst hEx
   clear hx hs
   go_enter Tryz.func81,Tryz.ntmps81
   go_wp2
   go_ret
   exact⟨rfl,cT _ _⟩
 · have e1:=qW hs
   have e2:=sD hs
   have e3:=wW hs
   have hEx:(if x=0 then 4 else x)=E:=by
    rcases hx with ⟨h1,h2⟩ | ⟨h1,h2⟩
    · rw [if_neg hs] at h2; rw [if_pos h1]; exact h2.symm
    · rw [if_neg h1]; exact h2.symm
   have HEx:=hid hEx
   clear hx hs hEx
   go_enter Tryz.func81,Tryz.ntmps81
   go_wp2_with fail
   refine Calls.mono (nT g s 4 x _ HA.out) ?_
   rintro e w1 ⟨rfl,hA2,hg2⟩
   rw [HEx.out] at hA2
   have x1:w1.cell? ⟨g,1,none⟩=some (.int .i64 (E:Int)):=Blk.cell hA2 1
   clear hA2 y0 y1
   go_wp2
   go_ret
   exact⟨rfl,hg2⟩
end Go.Proofs.YtoeejfhdjmkpcaaGreatDoor
/- An argument that is a state, opened. -/
namespace Go.Proofs.YtoeejfhdjmkpcaaGreatDoor
open Go.Lib (hid)
open Go.ChangeShapes Go.WideShapes Go.ChangeAt Go.RowKit
def I64 (n:Int):Prop:=-9223372036854775808≤n∧n≤9223372036854775807
def Short (s:ByteArray):Prop:=s.size≤9223372036854775807
def wO (j:aA):Prop:=Short j.name∧I64 j.prio∧I64 j.need∧I64 j.tries∧Short j.tag
def sE (n:av):Prop:=Short n.name∧I64 n.room∧Short n.zone
def pZ (l:ah):Prop:=Short l.job∧Short l.node∧I64 l.till
theorem p9 {H α:Type} {enc:TypeId × Value→H} {W:World} {held:Bool} {fuel:Nat} {cs:List Value} {x:DataW H × List MemPlace} {t e:TypeId} {sz:Nat} (EG:α→List Value) (ok:α→Prop) (a0:α)
 (ht : Tryz.prog.underlying t=some (.slice e)) (hc : Tryz.prog.cellsOf e=sz) (hsz:0<sz) (hlen:∀ a,(EG a).length=sz)
 (each:∀ n cs' y,DataW.trod enc Tryz.prog W 0 (fun _=>true) held n e cs'=some y→∃ a:α,cs'=EG a∧ok a)
 (h:DataW.trod enc Tryz.prog W 0 (fun _=>true) held fuel t cs=some x) (hlt:∀ z ∈ x.2,z.block<W.heap.size) :
 ∃ (xs:List α) (A:Option Addr) (n c:Nat),cs=[.slice A n c]∧xs.length=n∧n≤9223372036854775807∧aQ W W.heap.size sz A n (au EG xs)∧∀ a ∈ xs,ok a:=by
 haveI:Inhabited α:=⟨a0⟩
 rcases Go.Deep.open_slice ht h with ⟨rfl,-⟩ | ⟨a,len,cap,m,n,D,Pl,rfl,hb,hl,hm,hmm,rfl,hx⟩
 · exact⟨[],none,0,0,rfl,rfl,by omega,aQ.nil,by simp⟩
 · simp only [if_true] at hmm
   subst hmm
   rw [hc] at hx hlt
   obtain⟨f,hf⟩:=Go.Deep.choose_lt (α:=α) (p:=fun i u=>W.cells? 0 (a.add (i*sz)) sz=some (EG u)∧ok u) (fun i hi=>by
    obtain⟨cs',h1,h2⟩:=hx i hi
    obtain⟨u,rfl,hu⟩:=each _ _ _ h2
    exact⟨u,h1,hu⟩)
   have hcell:∀ i,i<m→∀ j,j<sz→W.cell? ((a.add (i*sz)).add j)=(EG (f i))[j]?:=fun i hi j hj=>(World.cells?_some (hf i hi).1).2.2 j hj
   refine⟨(List.range len).map f,some a,len,m,rfl,by simp,by unfold maxLen at hm; omega,⟨by rw [iK hlen]; simp,fun hn=>?_⟩,fun u hu=>?_⟩
   · have hfst:∃ v,W.cell? ((a.add (0*sz)).add 0)=some v:=by
      rw [hcell 0 (by omega) 0 hsz]
      exact⟨_,List.getElem?_eq_getElem (by rw [hlen]; exact hsz)⟩
     obtain⟨v,hv⟩:=hfst
     obtain⟨b,off,spot⟩:=a
     have hspot:spot=none:=by simpa [Addr.add] using World.cell?_spot hv
     subst hspot
     refine⟨b,off,rfl,?_,fun j u hu=>?_⟩
     · refine hlt (.cell b off) (List.mem_append_left _ (MemPlace.mem_row.2 ⟨0,?_,rfl⟩))
       exact Nat.mul_pos (by omega) hsz
     · have hj:j<len*sz:=by
        rcases Nat.lt_or_ge j (len*sz) with h1 | h1
        · exact h1
        · rw [List.getElem?_eq_none (by rw [iK hlen]; simpa using h1)] at hu; cases hu
       have hq:j / sz<len:=Nat.div_lt_of_lt_mul (by rw [Nat.mul_comm]; exact hj)
       have hr:j % sz<sz:=Nat.mod_lt _ hsz
       have hjd:j=j / sz*sz+j % sz:=by rw [Nat.mul_comm]; exact (Nat.div_add_mod j sz).symm
       have h1:=hcell (j / sz) (by omega) (j % sz) hr
       rw [add_plain,add_plain,Nat.add_assoc,← hjd] at h1
       rw [h1,← hu]
       conv=>rhs; rw [hjd]
       rw [qc hlen _ _ _ (f (j / sz)) (by simp [hq]) hr]
   · obtain⟨i,hi,rfl⟩:=List.mem_map.1 hu
     exact (hf i (by have:=List.mem_range.1 hi; omega)).2
theorem A5 : Tryz.prog.cellsOf 34 = 5:=by kernel_rfl
theorem zk : Tryz.prog.cellsOf 36 = 3:=by kernel_rfl
theorem wX : Tryz.prog.cellsOf 38 = 3:=by kernel_rfl
theorem CF : Tryz.prog.cellsOf 26 = 4:=by kernel_rfl
theorem lU {s:ByteArray} (h:s.size≤maxLen):Short s:=by unfold maxLen at h; unfold Short; omega
theorem Ea {H:Type} {enc:TypeId × Value→H} {W:World} {held:Bool} (n:Nat) (cs:List Value) (y:DataW H × List MemPlace) (h:DataW.trod enc Tryz.prog W 0 (fun _=>true) held n 34 cs=some y):∃ a:aA,cs=aJ a∧wO a:=by
 obtain⟨xs,m,-,-,hl,hxs,hall⟩:=DataW.trod_struct Tryz.underlying34 h
 have hl2:cs.length=5:=hl.trans A5
 have Lz:xs.length=5:=hxs
 match cs,hl2 with
 | [v0,v1,v2,v3,v4],_=>
  have q0:=hall 0 _ rfl
  rw [List.getElem?_eq_getElem (by omega)] at q0
  obtain⟨s0,e0,-,z0⟩:=DataW.trod_string Tryz.underlying9 q0
  replace e0:[v0]=[_]:=e0
  obtain rfl:=(List.cons.inj e0).1
  have q1:=hall 1 _ rfl
  rw [List.getElem?_eq_getElem (by omega)] at q1
  obtain⟨s1,e1,-,z1⟩:=DataW.trod_int Tryz.underlying3 q1
  replace e1:[v1]=[_]:=e1
  obtain rfl:=(List.cons.inj e1).1
  have q2:=hall 2 _ rfl
  rw [List.getElem?_eq_getElem (by omega)] at q2
  obtain⟨s2,e2,-,z2⟩:=DataW.trod_int Tryz.underlying3 q2
  replace e2:[v2]=[_]:=e2
  obtain rfl:=(List.cons.inj e2).1
  have q3:=hall 3 _ rfl
  rw [List.getElem?_eq_getElem (by omega)] at q3
  obtain⟨s3,e3,-,z3⟩:=DataW.trod_int Tryz.underlying3 q3
  replace e3:[v3]=[_]:=e3
  obtain rfl:=(List.cons.inj e3).1
  have q4:=hall 4 _ rfl
  rw [List.getElem?_eq_getElem (by omega)] at q4
  obtain⟨s4,e4,-,z4⟩:=DataW.trod_string Tryz.underlying9 q4
  replace e4:[v4]=[_]:=e4
  obtain rfl:=(List.cons.inj e4).1
  exact⟨⟨s0,s1,s2,s3,s4⟩,rfl,lU z0,eM z1,eM z2,eM z3,lU z4⟩
theorem A6 {H:Type} {enc:TypeId × Value→H} {W:World} {held:Bool} (n:Nat) (cs:List Value) (y:DataW H × List MemPlace) (h:DataW.trod enc Tryz.prog W 0 (fun _=>true) held n 36 cs=some y):∃ a:av,cs=aB a∧sE a:=by
 obtain⟨xs,m,-,-,hl,hxs,hall⟩:=DataW.trod_struct Tryz.underlying36 h
 have hl2:cs.length=3:=hl.trans zk
 have Lz:xs.length=3:=hxs
 match cs,hl2 with
 | [v0,v1,v2],_=>
  have q0:=hall 0 _ rfl
  rw [List.getElem?_eq_getElem (by omega)] at q0
  obtain⟨s0,e0,-,z0⟩:=DataW.trod_string Tryz.underlying9 q0
  replace e0:[v0]=[_]:=e0
  obtain rfl:=(List.cons.inj e0).1
  have q1:=hall 1 _ rfl
  rw [List.getElem?_eq_getElem (by omega)] at q1
  obtain⟨s1,e1,-,z1⟩:=DataW.trod_int Tryz.underlying3 q1
  replace e1:[v1]=[_]:=e1
  obtain rfl:=(List.cons.inj e1).1
  have q2:=hall 2 _ rfl
  rw [List.getElem?_eq_getElem (by omega)] at q2
  obtain⟨s2,e2,-,z2⟩:=DataW.trod_string Tryz.underlying9 q2
  replace e2:[v2]=[_]:=e2
  obtain rfl:=(List.cons.inj e2).1
  exact⟨⟨s0,s1,s2⟩,rfl,lU z0,eM z1,lU z2⟩
theorem zl {H:Type} {enc:TypeId × Value→H} {W:World} {held:Bool} (n:Nat) (cs:List Value) (y:DataW H × List MemPlace) (h:DataW.trod enc Tryz.prog W 0 (fun _=>true) held n 38 cs=some y):∃ a:ah,cs=ay a∧pZ a:=by
 obtain⟨xs,m,-,-,hl,hxs,hall⟩:=DataW.trod_struct Tryz.underlying38 h
 have hl2:cs.length=3:=hl.trans wX
 have Lz:xs.length=3:=hxs
 match cs,hl2 with
 | [v0,v1,v2],_=>
  have q0:=hall 0 _ rfl
  rw [List.getElem?_eq_getElem (by omega)] at q0
  obtain⟨s0,e0,-,z0⟩:=DataW.trod_string Tryz.underlying9 q0
  replace e0:[v0]=[_]:=e0
  obtain rfl:=(List.cons.inj e0).1
  have q1:=hall 1 _ rfl
  rw [List.getElem?_eq_getElem (by omega)] at q1
  obtain⟨s1,e1,-,z1⟩:=DataW.trod_string Tryz.underlying9 q1
  replace e1:[v1]=[_]:=e1
  obtain rfl:=(List.cons.inj e1).1
  have q2:=hall 2 _ rfl
  rw [List.getElem?_eq_getElem (by omega)] at q2
  obtain⟨s2,e2,-,z2⟩:=DataW.trod_int Tryz.underlying3 q2
  replace e2:[v2]=[_]:=e2
  obtain rfl:=(List.cons.inj e2).1
  exact⟨⟨s0,s1,s2⟩,rfl,lU z0,lU z1,eM z2⟩
structure Gq (st:ak):Prop where
 rev:I64 st.rev
 jobs:∀ j ∈ st.jobs,wO j
 nodes:∀ n ∈ st.nodes,sE n
 leases:∀ l ∈ st.leases,pZ l
theorem CG {H:Type} {enc:TypeId × Value→H} {W:World} {r:Reach} {b0:Nat} {held:Bool} {v:Value} {d:DataW H} {p:List MemPlace}
 (hval:Value.okWide Tryz.prog W r b0 26 v) (hd:DataW.Trod enc Tryz.prog W 0 (fun _=>true) held 26 v d p) (hlt:∀ x ∈ p,x.block<W.heap.size) :
 ∃ (st:ak) (x:StA),v = .agg (stC st x)∧StAt W W.heap.size st x∧Gq st:=by
 obtain⟨v0,v1,v2,v3,y0,y1,y2,y3,n,rfl,rfl,rfl,h0,h1,h2,h3⟩:=Joins.open_agg4 Tryz.underlying26 (by kernel_rfl) CF hval hd
 obtain⟨rev,e0,-,zr⟩:=DataW.trod_int Tryz.underlying3 h0
 obtain⟨js,aj,nj,cj,e1,lj,bj,hj,oj⟩:=p9 aJ wO ⟨⟨#[]⟩,0,0,0,⟨#[]⟩⟩ Tryz.underlying22 A5 (by omega) aP (fun n cs y h=>Ea n cs y h) h1 (fun z hz=>hlt z (by simp [hz]))
 obtain⟨ns,an,nn,cn,e2,ln,bn,hn,on_⟩:=p9 aB sE ⟨⟨#[]⟩,0,⟨#[]⟩⟩ Tryz.underlying23 zk (by omega) aL (fun n cs y h=>A6 n cs y h) h2 (fun z hz=>hlt z (by simp [hz]))
 obtain⟨ls,al,nl,cl,e3,ll,bl,hl,ol⟩:=p9 ay pZ ⟨⟨#[]⟩,⟨#[]⟩,0⟩ Tryz.underlying24 wX (by omega) aH (fun n cs y h=>zl n cs y h) h3 (fun z hz=>hlt z (by simp [hz]))
 obtain rfl:=(List.cons.inj e0).1
 obtain rfl:=(List.cons.inj e1).1
 obtain rfl:=(List.cons.inj e2).1
 obtain rfl:=(List.cons.inj e3).1
 exact⟨⟨rev,js,ns,ls⟩,⟨aj,nj,cj,an,nn,cn,al,nl,cl⟩,rfl,⟨hj,hn,hl,lj,ln,ll,bj,bn,bl,fun x hx=>⟨(oj x hx).1,(oj x hx).2.2.2.2⟩,fun x hx=>⟨(on_ x hx).1,(on_ x hx).2.2⟩,fun x hx=>⟨(ol x hx).1,(ol x hx).2.1⟩⟩,
  ⟨eM zr,oj,on_,ol⟩⟩
end Go.Proofs.YtoeejfhdjmkpcaaGreatDoor
