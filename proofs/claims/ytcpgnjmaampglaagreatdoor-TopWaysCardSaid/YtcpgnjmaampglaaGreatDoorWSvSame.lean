/- Of the proof of a statement: RBetween, EqFrm, FrsR, PushFeed, FeedN, PlEncS, PlEnc, RcC, RcD, DoB, SvSame, EncC, ReqQ, UpStep. -/
import Derived.Deep.QuietTactic
import Derived.BigQuiet
import Derived.Lib.QuietBelow
import Derived.Test.YtcpgnjmaampglaaGreatDoorWBetween
import Derived.Test.YtcpgnjmaampglaaGreatDoorWDoA
import Derived.Test.YtcpgnjmaampglaaGreatDoorWFrmDec
import Derived.Test.YtcpgnjmaampglaaGreatDoorWWPutD
set_option linter.unusedVariables false
set_option linter.unusedSimpArgs false
set_option maxRecDepth 100000
set_option maxHeartbeats 8000000
/- The walk of the reference's Between. -/
namespace Go.Proofs.YtcpgnjmaampglaaGreatDoor
open Go.Lib (hid)
open Go.RowKit
theorem rT.grew {w0 w w':World} {ca cb cd:Array Value} {v v':Value} (h:rT w0 w ca cb cd) (hg:dE w w' v v') (hv:∀ k,v.ownBlock=some k→w0.heap.size+4≤k):rT w0 w' ca cb cd:=
 have h4:w0.heap.size+4≤w.heap.size:=h.d.lt
 have hb:=hg.below (B:=w0.heap.size+4) h4 hv
 ⟨h.below.trans (hb.mono (by omega)),h.a.below hb (by omega),h.b.below hb (by omega),h.r.below hb (by omega),h.d.below hb (by omega)⟩
def qw (f:bL):List Value:=[.int .i64 f.ver,.int .i64 f.kind,.string f.pay]
theorem zB (f:bL):(qw f).length=3:=rfl
def MD:Value:=.agg #[.int .i64 0,.int .i64 0,.string ⟨#[]⟩]
theorem B6:(Tryz.prog.info? 43).map (fun i=>(i.zero,i.size,i.bytes))=some (some MD,3,32):=by kernel_rfl
theorem E7 (f:bL):∀ u ∈ qw f,u.oneCell'=true:=by
 intro u hu
 simp only [qw,List.mem_cons,List.not_mem_nil,or_false] at hu
 rcases hu with rfl | rfl | rfl <;> rfl
theorem nC {w w':World} {base:Nat} {e:TypeId} {sz n:Nat} {v:Value} {xs:List Value} (h:w.ownsRow base e sz v n xs) (hb:Below w.heap.size w w'):w'.ownsRow base e sz v n xs:=
 h.kept (row:=none) ⟨hb.os,hb.tape,hb.output,hb.size,fun k hk _=>hb.block k hk⟩ (by
  by_cases h:v.ownBlock=none
  · exact .inl h
  · exact .inr h)
theorem ME {s:ByteArray} {f:bL} {n e:Nat} (h:eK s=(f,n,e)) (w:World) (hs:s.size≤9223372036854775807) :
 Calls Tryz.prog 24 #[.string s] w fun x w'=>x = .returned (.tuple #[.agg #[.int .i64 f.ver,.int .i64 f.kind,.string f.pay],.int .i64 (n:Int),.int .i64 (e:Int)])∧Below w.heap.size w w':=by
 have h1:=Nv s w hs
 unfold jo PE at h1
 rw [h] at h1
 exact h1
def gX (w:World) (g:Nat) (rest:ByteArray) (at_:Int) (stuck:Int):Prop:=Blk w g 74 #[.string rest,.int .i64 at_,.int .i64 stuck]
def Rf (s:ByteArray) (g at0:Nat) (fs:List bL) (m e:Nat) (w:World) (out:Value) (wr:World) (k:Nat):Prop:=
 ∃ (done left:List bL) (A:Option Addr) (n c a m':Nat),fs=done ++ left∧m=a+m'∧out = .slice A n c∧n≤a∧a≤s.size∧k=s.size - a∧Frs (s.extract a s.size) left m' e∧wr.ownsRow w.heap.size 43 3 (.slice A n c) n (au qw done)∧w.grownBy wr (some g)∧gX wr g (s.extract a s.size) ((at0:Int)+(a:Int)) 0
def OC (s:ByteArray) (g at0:Nat) (fs:List bL) (m e:Nat) (w:World) (x:Ending) (w':World):Prop:=
 ∃ A n c,x = .returned (.tuple #[.slice A n c,.int .i64 (if e=3 then 0 else (e:Int))])∧fs.length=n∧w'.ownsRow w.heap.size 43 3 (.slice A n c) n (au qw fs)∧w.grownBy w' (some g) ∧
  gX w' g (if e=3 then s.extract m s.size else ⟨#[]⟩) ((at0:Int)+(m:Int)) (if e=3 then 0 else (e:Int))
theorem D5 {rest p s:ByteArray} {g at0:Nat} {fs:List bL} {m e:Nat} (w:World) (hs:rest ++ p=s) (h:Frs s fs m e) (hF:gX w g rest at0 0) (hsz:s.size≤2097152) (hat:at0≤2097152) :
 Calls Tryz.prog 10 #[.pointer (some ⟨g,0,none⟩),.string p] w (OC s g at0 fs m e w):=by
 have hh:=hid h
 have hlt:=hF.lt
 have x0:w.cell? ⟨g,0,none⟩=some (.string rest):=Blk.cell hF 0
 have x2:w.cell? ⟨g,2,none⟩=some (.int .i64 0):=Blk.cell hF 2
 have t0:=Blk.thaw hF 0
 have hB0:=hid (show gX (w.setCell ⟨g,0,none⟩ (.string s)) g s (at0:Int) 0 from Blk.eq (Blk.set hF 0 _) (by simp))
 have hpl:¬ 9223372036854775807<rest.size+p.size:=by
  have:=congrArg ByteArray.size hs
  rw [ByteArray.size_append] at this; omega
 have hpl2:rest.size+p.size≤9223372036854775807:=by omega
 clear h hF
 go_enter Tryz.func10,Tryz.ntmps10
 go_wp2
 go_loopg [4,5,6,7,8,9,27] s.size (fun k _ _ out _ _ _ _ wr=>Rf s g at0 fs m e w out wr k)
 case atStart=>exact⟨[],fs,none,0,0,0,m,rfl,by omega,rfl,Nat.le_refl _,Nat.zero_le _,rfl,by rw [show s.extract 0 s.size=s from by simp]; exact hh.out,World.ownsRow_nil _ _ _ _,aO (World.grownBy.refl w _) _ _,by rw [show s.extract 0 s.size=s from by simp]; exact Blk.eq hB0.out (by simp)⟩
 case round=>
  obtain⟨done,left,A,n,c,a,m',hfs,hm,rfl,hna,ha,rfl,hF,ho,hg,hB⟩:=hrel
  have y0:wr.cell? ⟨g,0,none⟩=some (.string (s.extract a s.size)):=Blk.cell hB 0
  have hsz1:=hid (show (s.extract a s.size).size≤9223372036854775807 from by rw [ByteArray.size_extract]; omega)
  have hgl:=hB.lt
  have HB:=hid hB
  clear x0 x2 t0 hB0 hpl hpl2 hs hB
  cases hF with
  | stop hd he=>
   have hd:=hid hd
   have e1:((e:Int) == 0)=false:=by simp; omega
   have fin:=hid (show fs=done from by rw [hfs]; simp)
   have hm:=hid (show m=a from hm)
   clear hfs
   go_wp2_with fail
   refine Calls.mono (ME hd.out _ hsz1.out) ?_
   rintro x w1 ⟨rfl,hb1⟩
   have ho1:=hid ((nC ho hb1).alloc (.cells #[.int .i64 0,.int .i64 0,.string ⟨#[]⟩] 43))
   have hb2:=hb1.alloc hb1.size (.cells #[.int .i64 0,.int .i64 0,.string ⟨#[]⟩] 43)
   have hG:=hid (eX hg hb2)
   have hB1:=HB.out.below hb2 hgl
   have z0:w1.cell? ⟨g,0,none⟩=some (.string (s.extract a s.size)):=Blk.cell (Blk.below HB.out hb1 hgl) 0
   have z2:w1.cell? ⟨g,2,none⟩=some (.int .i64 0):=Blk.cell (Blk.below HB.out hb1 hgl) 2
   have t0:=Blk.thaw (Blk.below HB.out hb1 hgl) 0
   have t2:=Blk.thaw (Blk.below HB.out hb1 hgl) 2
   have hgl1:g<w1.heap.size:=by have:=hb1.size; omega
   have HB1:=hid hB1
   have hlen:=hid (show done.length=n from by have:=ho.1; rw [iW zB] at this; omega)
   have hoE:=hid ((nC ho hb1).kept (row:=some g) (aO (aO (World.grownBy.refl w1 _) 0 (.string ⟨#[]⟩)) 2 (.int .i64 (e:Int))) (.inr (fun h=>by have:=((nC ho hb1).lt g h).1; omega)))
   have hGE:=hid (aO (aO (eX hg hb1) 0 (.string ⟨#[]⟩)) 2 (.int .i64 (e:Int)))
   have hBE:=hid (show gX ((w1.setCell ⟨g,0,none⟩ (.string ⟨#[]⟩)).setCell ⟨g,2,none⟩ (.int .i64 (e:Int))) g ⟨#[]⟩ ((at0:Int)+(a:Int)) (e:Int) from Blk.eq ((Blk.set (Blk.below HB.out hb1 hgl) 0 _).set 2 _) (by simp))
   clear ho hb1 hb2 hg hB1 y0
   by_cases h3:e=3
   · subst h3
     clear e1 he
     go_wp2
     refine bodyPost_ret (v:=.tuple #[.slice A n c,.int .i64 0]) (by simp [results,Tryz.results10,go_sem]) rfl ?_
     exact⟨A,n,c,rfl,by rw [fin.out]; exact hlen.out,by rw [fin.out]; exact ho1.out,hG.out,by rw [hm.out]; exact HB1.out⟩
   · have e2:((e:Int) == 3)=false:=by simp; omega
     go_wp2
     refine bodyPost_ret (v:=.tuple #[.slice A n c,.int .i64 (e:Int)]) (by simp [results,Tryz.results10,go_sem]) rfl ?_
     exact⟨A,n,c,by rw [if_neg h3],by rw [fin.out]; exact hlen.out,by rw [fin.out]; exact hoE.out.alloc _,eX hGE.out ((Below.refl _ _).alloc (Nat.le_refl _) _),by rw [hm.out,if_neg h3,if_neg h3]; exact hBE.out.alloc _⟩
  | @step _ f n1 fs1 m1 _ hd h1 h2 hF=>
   have hd:=hid hd
   have h2':=h2
   rw [ByteArray.size_extract] at h2'
   have e0:(s.extract a s.size).extract n1 (s.extract a s.size).size=s.extract (a+n1) s.size:=by
    rw [ByteArray.extract_extract,ByteArray.size_extract]
    congr 1
    omega
   have hF1:=hid (show Frs (s.extract (a+n1) s.size) fs1 m1 e from by rw [← e0]; exact hF)
   have q1:∀ W:World,(Instr.slice 9 (.string (s.extract a s.size)) (some (.int .i64 (n1:Int))) none none).run Tryz.prog W = .ok (.string (s.extract (a+n1) s.size)) W:=fun W=>by
    rw [run_slice_string_from_if (P:=Tryz.prog) (w:=W) 9 (s.extract a s.size) .i64 (n1:Int) Tryz.underlying9,if_pos ⟨by omega,by omega⟩,show ((n1:Int)).toNat=n1 from by omega,e0]
   have fin:=hid (show fs=(done ++ [f]) ++ fs1 from by rw [hfs]; simp)
   have hm:=hid (show m=(a+n1)+m1 from by omega)
   clear hfs hF e0
   obtain⟨ver,kind,pay⟩:=f
   go_wp2_with fail
   refine Calls.mono (ME hd.out _ hsz1.out) ?_
   rintro x w1 ⟨rfl,hb1⟩
   dsimp only
   have ho1:=(nC ho hb1).alloc (.cells #[.int .i64 (ver:Int),.int .i64 (kind:Int),.string pay] 43)
   have hb2:=hb1.alloc hb1.size (.cells #[.int .i64 (ver:Int),.int .i64 (kind:Int),.string pay] 43)
   have hG:=hid (eX hg hb2)
   have hbr:=hG.out.size
   have HB1:=hid (HB.out.below hb2 hgl)
   have Hlt:=hid ho1.lt
   clear ho hb1 hb2 hg y0
   go_wp2_with (at_builtin; refine fu qw rfl _ _ 36 43 MD 3 32 rfl Tryz.underlying36 B6 rfl (by decide) zB E7 w.heap.size _ _ _ done rfl ho1 _ ⟨ver,kind,pay⟩ rfl _ (by simp) rfl (by omega) (by unfold maxLen; omega) hbr ?_; intro A2 c2 w2 ho2 hg2; have HB2:=hid (HB1.out.grew hg2 (fun k hk=>by have:=(Hlt.out k hk).1; omega)); have y0:=Blk.cell HB2.out 0; have y1:=Blk.cell HB2.out 1; have t0:=Blk.thaw HB2.out 0; have t1:=Blk.thaw HB2.out 1; dsimp at y0 y1)
   go_roundg (s.size - (a+n1))
   case rel=>exact⟨done ++ [⟨ver,kind,pay⟩],fs1,A2,n+1,c2,a+n1,m1,fin.out,hm.out,rfl,by omega,by omega,rfl,hF1.out,ho2.kept (row:=some g) (aO (aO (World.grownBy.refl w2 _) 0 _) 1 _) (.inr (fun h=>by have:=(ho2.lt g h).1; omega)),aO (aO (iN hG.out hg2 (fun k hk=>(Hlt.out k hk).1)) _ _) _ _,Blk.eq ((HB2.out.set 0 _).set 1 _) (by simp; omega)⟩
   case measure=>omega
theorem Io (w:World):Calls Tryz.prog 8 #[] w fun x w'=>x = .returned (.pointer (some ⟨w.heap.size,0,none⟩))∧w'=w.alloc (.cells #[.string ⟨#[]⟩,.int .i64 0,.int .i64 0] 74):=by
 go_enter Tryz.func8,Tryz.ntmps8
 go_wp2
 go_ret
 exact⟨rfl,rfl⟩
theorem MF (w:World):gX (w.alloc (.cells #[.string ⟨#[]⟩,.int .i64 0,.int .i64 0] 74)) w.heap.size ⟨#[]⟩ 0 0:=heap_alloc_new _ _
theorem IM {j:aB} (h:eZ j=0):xQ j:=by
 obtain⟨h1,h2,h3,h4,h5⟩:=fQ h
 have:=cU h1
 have:=iI h2
 exact⟨by omega,by omega,by omega,by omega,by omega⟩
theorem E9 {n:av} (h:eV n=0):sB n:=by
 obtain⟨h1,h2,h3⟩:=iJ h
 have:=cU h1
 have:=iI h2
 exact⟨by omega,by omega,by omega⟩
theorem Km {l:ak} (h:lsE l=0):Ae l:=by
 obtain⟨h1,h2,h3⟩:=Dz h
 have:=cU h1
 have:=cU h2
 exact⟨by omega,by omega,by omega⟩
theorem AE:∀ {l:List Int},iF l=0→∀ e ∈ l,e=0
 | [],_,e,he=>by cases he
 | x :: l,h,e,he=>by
  by_cases hx:x=0
  · rw [gK hx] at h
    rcases List.mem_cons.1 he with rfl | he
    · exact hx
    · exact AE h e he
  · rw [wW hx] at h; exact absurd h hx
def qI (d:aK):List UInt8:=bg d.from_.toNat ++ bg (d.to_ - d.from_).toNat ++ fM (fun x=>eC x 3) d.jobs ++ fM (fun x=>cZ x 3) d.nodes ++ fM eQ d.leases ++ fM gA d.gj ++ fM gA d.gn ++ fM gA d.gl
def oS (d:aK):ByteArray × Int:=if cW d=0 then (if 6000<(qI d).length then (⟨#[]⟩,2) else (⟨(qI d).toArray⟩,0)) else (⟨#[]⟩,cW d)
def mS (d:aK) (w:World) (e:Ending) (w':World):Prop:=e = .returned (.tuple #[.string (oS d).1,.int .i64 (oS d).2])∧Below w.heap.size w w'
theorem mS.bad {d:aK} {w w':World} {E:Int} (h:cW d=E) (hE:E≠0) (hb:Below w.heap.size w w'):mS d w (.returned (.tuple #[.string ⟨#[]⟩,.int .i64 E])) w':=by
 refine⟨?_,hb⟩; unfold oS; rw [if_neg (by rw [h]; exact hE),h]
theorem mS.large {d:aK} {w w':World} (h:cW d=0) (hL:6000<(qI d).length) (hb:Below w.heap.size w w'):mS d w (.returned (.tuple #[.string ⟨#[]⟩,.int .i64 2])) w':=by
 refine⟨?_,hb⟩; unfold oS; rw [if_pos h,if_pos hL]
theorem mS.ok {d:aK} {w w':World} {s:ByteArray} (h:cW d=0) (hL:¬ 6000<(qI d).length) (hs:s=⟨(qI d).toArray⟩) (hb:Below w.heap.size w w'):mS d w (.returned (.tuple #[.string s,.int .i64 0])) w':=by
 refine⟨?_,hb⟩; unfold oS; rw [if_pos h,if_neg hL,hs]
structure Rg (d:aK):Prop where
 t0:0≤d.from_
 t1:d.from_<d.to_
 t2:d.to_≤1099511627776
 nj:d.jobs.length≤40
 nn:d.nodes.length≤20
 nl:d.leases.length≤40
 ngj:d.gj.length≤40
 ngn:d.gn.length≤20
 ngl:d.gl.length≤40
 jobs:∀ x ∈ d.jobs,xQ x
 nodes:∀ x ∈ d.nodes,sB x
 leases:∀ x ∈ d.leases,Ae x
theorem QP {d:aK} (h:cW d=0):Rg d:=by
 have ht:kI d=true:=by
  cases hh:kI d
  · rw [CA hh] at h; exact absurd h (by decide)
  · rfl
 have hs:jR d=true:=by
  cases hh:jR d
  · rw [zo ht hh] at h; exact absurd h (by decide)
  · rfl
 rw [Ii ht hs] at h
 have hall:=AE h
 unfold kI at ht
 unfold jR at hs
 simp only [Bool.and_eq_true,decide_eq_true_eq,aZ] at ht hs
 have hj:=(lU (E:=eZ) (key:=aB.name) none d.jobs (hall _ (by simp [wV,bM]))).1
 have hn:=(lU (E:=eV) (key:=av.name) none d.nodes (hall _ (by simp [wV,bM]))).1
 have hl:=(lU (E:=lsE) (key:=ak.job) none d.leases (hall _ (by simp [wV,bM]))).1
 exact⟨by omega,by omega,by omega,by omega,by omega,by omega,by omega,by omega,by omega,fun x hx=>IM (hj x hx).1,fun x hx=>E9 (hn x hx).1,fun x hx=>Km (hl x hx).1⟩
def lu (E:Int) (w:World) (e:Ending) (w':World):Prop:=e = .returned (.int .i64 E)∧Below w.heap.size w w'
theorem GV (j:aB) (P:Nat) (w:World) (hp:Blk w P 262 #[.string j.name,.int .i64 j.prio,.int .i64 j.need,.int .i64 j.tries,.string j.tag]) (h1:j.name.size≤9223372036854775807) (h2:j.tag.size≤9223372036854775807) (hT:Tabs w):Calls Tryz.prog 318 #[.pointer (some ⟨P,0,none⟩)] w (lu (eZ j) w):=by
 obtain⟨p0,p1,p2,p3,p4⟩:=Blk.c5 (hp)
 have hlp:=hp.lt
 have HC:=hid (show Calls Tryz.prog _ #[.agg #[.string j.name,.int .i64 j.prio,.int .i64 j.need,.int .i64 j.tries,.string j.tag]] w _ from uD j w h1 h2 hT)
 obtain⟨E,hE⟩:∃ E,eZ j=E:=⟨_,rfl⟩
 rw [hE] at HC ⊢
 clear hp hE
 go_enter Tryz.func318,Tryz.ntmps318
 go_wp2_with fail
 refine Calls.mono HC.out ?_
 rintro e w5 ⟨rfl,hb5⟩
 have HB:=hid hb5
 clear hb5 HC
 go_wp2
 go_ret
 exact⟨rfl,HB.out⟩
theorem Ko (xk yk:Int) (xjn yjn:ByteArray) (xjp yjp:Int) (xjd yjd:Int) (xjt yjt:Int) (xjg yjg:ByteArray) (xnn ynn:ByteArray) (xnr ynr:Int) (xnz ynz:ByteArray) (xlj ylj:ByteArray) (xln yln:ByteArray) (xlt ylt:Int) (xnm ynm:ByteArray) (xn yn:Int) (h:(⟨xk,⟨xjn,xjp,xjd,xjt,xjg⟩,⟨xnn,xnr,xnz⟩,⟨xlj,xln,xlt⟩,xnm,xn⟩:cJ)≠(⟨yk,⟨yjn,yjp,yjd,yjt,yjg⟩,⟨ynn,ynr,ynz⟩,⟨ylj,yln,ylt⟩,ynm,yn⟩:cJ)) (W:World):(binOp .neq 65 (.agg #[.int .i64 xk,.string xjn,.int .i64 xjp,.int .i64 xjd,.int .i64 xjt,.string xjg,.string xnn,.int .i64 xnr,.string xnz,.string xlj,.string xln,.int .i64 xlt,.string xnm,.int .i64 xn]) (.agg #[.int .i64 yk,.string yjn,.int .i64 yjp,.int .i64 yjd,.int .i64 yjt,.string yjg,.string ynn,.int .i64 ynr,.string ynz,.string ylj,.string yln,.int .i64 ylt,.string ynm,.int .i64 yn])).run Tryz.prog W = .ok (.bool true) W:=by
 by_cases e_k:xk=yk
 rotate_left
 · simp [go_sem,e_k]
 by_cases rV:xjn.toList=yjn.toList
 rotate_left
 · simp [go_sem,e_k,rV]
 by_cases wM:xjp=yjp
 rotate_left
 · simp [go_sem,e_k,rV,wM]
 by_cases xW:xjd=yjd
 rotate_left
 · simp [go_sem,e_k,rV,wM,xW]
 by_cases AF:xjt=yjt
 rotate_left
 · simp [go_sem,e_k,rV,wM,xW,AF]
 by_cases xX:xjg.toList=yjg.toList
 rotate_left
 · simp [go_sem,e_k,rV,wM,xW,AF,xX]
 by_cases AG:xnn.toList=ynn.toList
 rotate_left
 · simp [go_sem,e_k,rV,wM,xW,AF,xX,AG]
 by_cases Fa:xnr=ynr
 rotate_left
 · simp [go_sem,e_k,rV,wM,xW,AF,xX,AG,Fa]
 by_cases De:xnz.toList=ynz.toList
 rotate_left
 · simp [go_sem,e_k,rV,wM,xW,AF,xX,AG,Fa,De]
 by_cases Fb:xlj.toList=ylj.toList
 rotate_left
 · simp [go_sem,e_k,rV,wM,xW,AF,xX,AG,Fa,De,Fb]
 by_cases GW:xln.toList=yln.toList
 rotate_left
 · simp [go_sem,e_k,rV,wM,xW,AF,xX,AG,Fa,De,Fb,GW]
 by_cases OD:xlt=ylt
 rotate_left
 · simp [go_sem,e_k,rV,wM,xW,AF,xX,AG,Fa,De,Fb,GW,OD]
 by_cases MG:xnm.toList=ynm.toList
 rotate_left
 · simp [go_sem,e_k,rV,wM,xW,AF,xX,AG,Fa,De,Fb,GW,OD,MG]
 by_cases e_n:xn=yn
 rotate_left
 · simp [go_sem,e_k,rV,wM,xW,AF,xX,AG,Fa,De,Fb,GW,OD,MG,e_n]
 refine absurd ?_ h
 subst e_k
 have rV:=cQ rV; subst rV
 subst wM
 subst xW
 subst AF
 have xX:=cQ xX; subst xX
 have AG:=cQ AG; subst AG
 subst Fa
 have De:=cQ De; subst De
 have Fb:=cQ Fb; subst Fb
 have GW:=cQ GW; subst GW
 subst OD
 have MG:=cQ MG; subst MG
 subst e_n
 rfl
theorem MB (a b:cJ):∃ t:Bool,(t=true↔a=b)∧∀ W,(binOp .neq 65 (gY a) (gY b)).run Tryz.prog W = .ok (.bool (!t)) W:=by
 by_cases h:a=b
 · subst h
   exact⟨true,⟨fun _=>rfl,fun _=>rfl⟩,fun W=>by simp [go_sem,gY,eM]⟩
 · exact⟨false,⟨fun h'=>(by cases h'),fun h'=>absurd h' h⟩,fun W=>Ko _ _ _ _ _ _ _ _ _ _ _ _ _ _ _ _ _ _ _ _ _ _ _ _ _ _ _ _ h W⟩
theorem uU {w:World} {base n g sz:Nat} {e t:TypeId} {v:Value} {xs:List Value} {cs:Array Value} (h:Blk w g t cs) (ho:w.ownsRow base e sz v n xs) (hne:t≠e):v.ownBlock≠some g:=by
 intro hb
 rcases ho.2 with ⟨h1,_⟩ | ⟨q,cap,cur,hv,_,hgq,_⟩
 · rw [h1] at hb; cases hb
 · rw [hv] at hb
   have:q=g:=by simpa [Value.ownBlock] using hb
   subst this
   unfold Blk at h
   rw [h] at hgq
   injection hgq with hgq
   injection hgq with _ h2
   exact hne h2
def rR (a b:ah) (w:World) (e:Ending) (w':World):Prop:=
 ∃ t:Bool,e = .returned (.bool t)∧(t=true↔a.jobs=b.jobs∧a.nodes=b.nodes∧a.leases=b.leases)∧Below w.heap.size w w'
structure yx (w:World) (a b:ah) (x y:StA) (wx:World):Prop where
 below:Below w.heap.size w wx
 b1:Blk wx w.heap.size 26 (stC a x)
 b2:Blk wx (w.heap.size+1) 26 (stC b y)
theorem yx.next {w w' wx:World} {a b:ah} {x y:StA} (h:yx w a b x y wx) (hb:Below wx.heap.size wx w'):yx w a b x y w':=
 ⟨h.below.trans (hb.mono h.below.size),h.b1.below hb h.b1.lt,h.b2.below hb h.b2.lt⟩
theorem B7 {w wx:World} {sz n:Nat} {A:Option Addr} {xs:List Value} (h:aQ w w.heap.size sz A n xs) (hb:Below w.heap.size w wx):aQ wx wx.heap.size sz A n xs:=(h.below hb).more hb.size
theorem Ki (a b:ah) (x y:StA) (w:World) (hA:StAt w w.heap.size a x) (hB:StAt w w.heap.size b y) :
 Calls Tryz.prog 165 #[.agg (stC a x),.agg (stC b y)] w (rR a b w):=by
 obtain⟨W,hW⟩:∃ W,(w.alloc (.cells (stC a x) 26)).alloc (.cells (stC b y) 26)=W:=⟨_,rfl⟩
 have H0:=hid (show yx w a b x y W from by
  rw [← hW]
  refine⟨((Below.refl _ _).alloc (Nat.le_refl _) _).alloc (by simp) _,Blk.alloc (show Blk _ _ _ _ from heap_alloc_new w _) _,?_⟩
  have:=heap_alloc_new (w.alloc (.cells (stC a x) 26)) (.cells (stC b y) 26)
  rwa [show (w.alloc (.cells (stC a x) 26)).heap.size=w.heap.size+1 by simp] at this)
 have HA:=hid hA
 have HB:=hid hB
 clear hA hB
 have x1:W.cell? ⟨w.heap.size,1,none⟩=some (.slice x.aj x.nj x.cj):=H0.out.b1.cell 1
 have y1:W.cell? ⟨w.heap.size+1,1,none⟩=some (.slice y.aj y.nj y.cj):=H0.out.b2.cell 1
 have HJ:=hid (Av.1 a.jobs b.jobs x.aj y.aj x.nj y.nj x.cj y.cj W (B7 HA.out.j H0.out.below) (B7 HB.out.j H0.out.below) HA.out.lj HB.out.lj HA.out.bj HB.out.bj)
 unfold stC at hW ⊢
 go_enter Tryz.func165,Tryz.ntmps165
 go_wp2_with fail
 try rw [hW]
 clear hW
 refine Calls.mono HJ.out ?_
 rintro e w1 ⟨t1,rfl,ht1,hb1⟩
 have H1:=hid (H0.out.next hb1)
 have Ht1:=hid ht1
 clear hb1 ht1 HJ x1 y1 H0
 cases t1
 · have fin:=hid (show rR a b w (.returned (.bool false)) w1 from ⟨false,rfl,⟨fun h=>(by cases h),fun h=>absurd (Ht1.out.2 h.1) (by decide)⟩,H1.out.below⟩)
   go_wp2
   go_ret
   exact fin.out
 have x2:w1.cell? ⟨w.heap.size,2,none⟩=some (.slice x.an x.nn x.cn):=H1.out.b1.cell 2
 have y2:w1.cell? ⟨w.heap.size+1,2,none⟩=some (.slice y.an y.nn y.cn):=H1.out.b2.cell 2
 have HN:=hid (Av.2 a.nodes b.nodes x.an y.an x.nn y.nn x.cn y.cn w1 (B7 HA.out.n H1.out.below) (B7 HB.out.n H1.out.below) HA.out.ln HB.out.ln HA.out.bn HB.out.bn)
 go_wp2_with fail
 refine Calls.mono HN.out ?_
 rintro e w2 ⟨t2,rfl,ht2,hb2⟩
 have H2:=hid (H1.out.next hb2)
 have Ht2:=hid ht2
 clear hb2 ht2 HN x2 y2 H1
 cases t2
 · have fin:=hid (show rR a b w (.returned (.bool false)) w2 from ⟨false,rfl,⟨fun h=>(by cases h),fun h=>absurd (Ht2.out.2 h.2.1) (by decide)⟩,H2.out.below⟩)
   go_wp2
   go_ret
   exact fin.out
 have x3:w2.cell? ⟨w.heap.size,3,none⟩=some (.slice x.al x.nl x.cl):=H2.out.b1.cell 3
 have y3:w2.cell? ⟨w.heap.size+1,3,none⟩=some (.slice y.al y.nl y.cl):=H2.out.b2.cell 3
 have HL:=hid (FC a.leases b.leases x.al y.al x.nl y.nl x.cl y.cl w2 (B7 HA.out.l H2.out.below) (B7 HB.out.l H2.out.below) HA.out.ll HB.out.ll HA.out.bl HB.out.bl)
 go_wp2_with fail
 refine Calls.mono HL.out ?_
 rintro e w3 ⟨t3,rfl,ht3,hb3⟩
 have H3:=hid (H2.out.next hb3)
 have Ht3:=hid ht3
 clear hb3 ht3 HL x3 y3 H2
 have fin:=hid (show rR a b w (.returned (.bool t3)) w3 from ⟨t3,rfl,⟨fun h=>⟨Ht1.out.1 (by trivial),Ht2.out.1 (by trivial),Ht3.out.1 h⟩,fun h=>Ht3.out.2 h.2.2⟩,H3.out.below⟩)
 cases t3
 · go_wp2
   go_ret
   exact fin.out
 · go_wp2
   go_ret
   exact fin.out
theorem vH (n:Nat):(bg n).length≤4000:=by have:=dP n; omega
theorem fR {α:Type} {enc:α→List UInt8} {xs:List α} (h:∀ x,(enc x).length≤85) (hn:xs.length≤40):(fM enc xs).length≤4000:=by
 have h1:=lS h xs
 have h2:=dD xs.length
 unfold fM
 rw [List.length_append]; omega
theorem sM (x:ByteArray):(gA x).length≤85:=by have:=eJ x; omega
theorem eL.new {w:World} {base:Nat} (hT:Tabs w) (h3:ren.g 3<base) (h4:ren.g 4<base) (hb:base≤w.heap.size):eL (w.alloc (.cells #[.slice none 0 0] 134)) base w.heap.size []:=
 have hbl:Below w.heap.size w (w.alloc (.cells #[.slice none 0 0] 134)):=(Below.refl _ _).alloc (Nat.le_refl _) _
 ⟨⟨hb,none,0,0,heap_alloc_new w _,World.ownsRow_nil _ _ _ _⟩,hT.below hbl,h3,h4,Nat.le_trans hb hbl.size⟩
theorem Tabs.lt {w:World} (h:Tabs w):ren.g 3<w.heap.size∧ren.g 4<w.heap.size:=by
 have lt:∀ {a:Addr} {v:Value},w.cell? a=some v→a.block<w.heap.size:=fun {a v} hc=>by
  rcases Nat.lt_or_ge a.block w.heap.size with h' | h'
  · exact h'
  · simp [World.cell?,Array.getElem?_eq_none h'] at hc
 exact⟨lt (h.1 0 (by decide)),lt (h.2 0 (by decide)).1⟩
def oK (q:cJ) (e:Int) (w:World) (x:Ending) (w':World):Prop:=x = .returned (.tuple #[gY q,.int .i64 e])∧Below w.heap.size w w'
section
variable {α:Type} {f:α→α} {l:List α} {k:Nat} {y:α}
end
theorem StOwn.kept {w w':World} {base:Nat} {st:ah} {x:StA} (h:StOwn w base st x) (hb:Below w.heap.size w w'):StOwn w' base st x:=
 ⟨aU h.j hb,aU h.n hb,aU h.l hb,h.lj,h.ln,h.ll⟩
end Go.Proofs.YtcpgnjmaampglaaGreatDoor
