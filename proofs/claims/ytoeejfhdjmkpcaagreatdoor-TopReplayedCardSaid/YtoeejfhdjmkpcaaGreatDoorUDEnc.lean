/- Of the proof of a statement: PlFrs, FrsR, PushFeed, EncC, DEnc. -/
import Derived.Lib.QuietBelow
import Derived.Test.YtoeejfhdjmkpcaaGreatDoorUArgSt
import Derived.Test.YtoeejfhdjmkpcaaGreatDoorUFrmDec
set_option linter.unusedVariables false
set_option linter.unusedSimpArgs false
set_option maxRecDepth 100000
set_option maxHeartbeats 8000000
/- Frames, one behind the other: plain. -/
namespace Go.Proofs.YtoeejfhdjmkpcaaGreatDoor
open Go.Lib (hid)
theorem CR {s:ByteArray} {f:dF} {n e:Nat} (h:gX s=(f,n,e)):(e≠0→f = .zero∧n=0)∧(e=0→9≤n∧n≤s.size):=by
 unfold gX at h
 by_cases hd:lD s=0
 · rw [if_pos hd] at h
   obtain⟨n',k,x,hr⟩:∃ n k x,rdNum (s.extract 4 s.size)=(n,k,x):=⟨_,_,_,rfl⟩
   have hf:=jE hr
   rw [hr] at h
   dsimp only at h
   by_cases hx:x=0
   · rw [if_pos hx] at h
     have h1:=(hf.2.2.2 hx).1
     by_cases hn:6000<n'
     · rw [if_pos hn] at h; cases h; exact⟨fun _=>⟨rfl,rfl⟩,fun h=>absurd h (by omega)⟩
     · rw [if_neg hn] at h
       by_cases hl:s.size<8+k+n'
       · rw [if_pos hl] at h; cases h; exact⟨fun _=>⟨rfl,rfl⟩,fun h=>absurd h (by omega)⟩
       · rw [if_neg hl] at h
         split at h
         · cases h; exact⟨fun h=>absurd rfl h,fun _=>⟨by omega,by omega⟩⟩
         · cases h; exact⟨fun _=>⟨rfl,rfl⟩,fun h=>absurd h (by omega)⟩
   · rw [if_neg hx] at h; cases h; exact⟨fun _=>⟨rfl,rfl⟩,fun h=>absurd h hx⟩
 · rw [if_neg hd] at h; cases h; exact⟨fun _=>⟨rfl,rfl⟩,fun h=>absurd h hd⟩
inductive Frs:ByteArray→List dF→Nat→Nat→Prop
 | stop {s:ByteArray} {e:Nat}:gX s=(.zero,0,e)→e≠0→Frs s [] 0 e
 | step {s:ByteArray} {f:dF} {n:Nat} {fs:List dF} {m e:Nat}:gX s=(f,n,0)→1≤n→n≤s.size→Frs (s.extract n s.size) fs m e→Frs s (f :: fs) (n+m) e
theorem Frs.all_:∀ (k:Nat) (s:ByteArray),s.size≤k→∃ fs m e,Frs s fs m e
 | k,s,hk=>by
  obtain⟨f,n,e,h⟩:∃ f n e,gX s=(f,n,e):=⟨_,_,_,rfl⟩
  obtain⟨h1,h2⟩:=CR h
  by_cases he:e=0
  · subst he
    obtain⟨h3,h4⟩:=h2 rfl
    match k,hk with
    | 0,hk=>omega
    | k+1,hk=>
     obtain⟨fs,m,e,hr⟩:=Frs.all_ k (s.extract n s.size) (by rw [ByteArray.size_extract]; omega)
     exact⟨_,_,_,.step h (by omega) h4 hr⟩
  · obtain⟨rfl,rfl⟩:=h1 he
    exact⟨_,_,_,.stop h he⟩
theorem Frs.all (s:ByteArray):∃ fs m e,Frs s fs m e:=Frs.all_ s.size s (Nat.le_refl _)
theorem Frs.facts {s:ByteArray} {fs:List dF} {m e:Nat} (h:Frs s fs m e):m≤s.size∧e≠0∧fs.length≤m:=by
 induction h with
 | stop _ he=>exact⟨Nat.zero_le _,he,Nat.le_refl _⟩
 | step _ h1 h2 _ ih=>
  rw [ByteArray.size_extract] at ih
  refine⟨by omega,ih.2.1,?_⟩
  rw [List.length_cons]; omega
end Go.Proofs.YtoeejfhdjmkpcaaGreatDoor
/- The walk of the reference Frames. -/
namespace Go.Proofs.YtoeejfhdjmkpcaaGreatDoor
open Go.Lib (hid)
open Go.RowKit
def Lj:Value:=.agg #[.int .i64 0,.int .i64 0,.string ⟨#[]⟩]
theorem EZ:(Tryz.prog.info? 53).map (fun i=>(i.zero,i.size,i.bytes))=some (some Lj,3,32):=by kernel_rfl
theorem GS (f:dF):∀ u ∈ A3 f,u.oneCell'=true:=by
 intro u hu
 simp only [A3,List.mem_cons,List.not_mem_nil,or_false] at hu
 rcases hu with rfl | rfl | rfl <;> rfl
theorem nZ {w w':World} {base:Nat} {e:TypeId} {sz n:Nat} {v:Value} {xs:List Value} (h:w.ownsRow base e sz v n xs) (hb:Below w.heap.size w w'):w'.ownsRow base e sz v n xs:=
 h.kept (row:=none) ⟨hb.os,hb.tape,hb.output,hb.size,fun k hk _=>hb.block k hk⟩ (by
  by_cases h:v.ownBlock=none
  · exact .inl h
  · exact .inr h)
theorem GT {s:ByteArray} {f:dF} {n e:Nat} (h:gX s=(f,n,e)) (w:World) (hs:s.size≤9223372036854775807) :
 Calls Tryz.prog 16 #[.string s] w fun x w'=>x = .returned (.tuple #[.agg #[.int .i64 f.ver,.int .i64 f.kind,.string f.pay],.int .i64 (n:Int),.int .i64 (e:Int)])∧Below w.heap.size w w':=by
 have h1:=JO s w hs
 unfold je LJ at h1
 rw [h] at h1
 exact h1
end Go.Proofs.YtoeejfhdjmkpcaaGreatDoor
/- The walk of Feed.Push. -/
namespace Go.Proofs.YtoeejfhdjmkpcaaGreatDoor
open Go.Lib (hid)
open Go.RowKit
def jm (w:World) (g:Nat) (rest:ByteArray) (at_:Int) (stuck:Int):Prop:=Blk w g 219 #[.string rest,.int .i64 at_,.int .i64 stuck]
def ME (s:ByteArray) (g at0:Nat) (fs:List dF) (m e:Nat) (w:World) (out:Value) (wr:World) (k:Nat):Prop:=
 ∃ (done left:List dF) (A:Option Addr) (n c a m':Nat),fs=done ++ left∧m=a+m'∧out = .slice A n c∧n≤a∧a≤s.size∧k=s.size - a∧Frs (s.extract a s.size) left m' e∧wr.ownsRow w.heap.size 53 3 (.slice A n c) n (au A3 done)∧w.grownBy wr (some g)∧jm wr g (s.extract a s.size) ((at0:Int)+(a:Int)) 0
def JP (s:ByteArray) (g at0:Nat) (fs:List dF) (m e:Nat) (w:World) (x:Ending) (w':World):Prop:=
 ∃ A n c,x = .returned (.tuple #[.slice A n c,.int .i64 (if e=3 then 0 else (e:Int))])∧fs.length=n∧w'.ownsRow w.heap.size 53 3 (.slice A n c) n (au A3 fs)∧w.grownBy w' (some g) ∧
  jm w' g (if e=3 then s.extract m s.size else ⟨#[]⟩) ((at0:Int)+(m:Int)) (if e=3 then 0 else (e:Int))
theorem GU {rest p s:ByteArray} {g at0:Nat} {fs:List dF} {m e:Nat} (w:World) (hs:rest ++ p=s) (h:Frs s fs m e) (hF:jm w g rest at0 0) (hsz:s.size≤2097152) (hat:at0≤2097152) :
 Calls Tryz.prog 40 #[.pointer (some ⟨g,0,none⟩),.string p] w (JP s g at0 fs m e w):=by
 have hh:=hid h
 have hlt:=hF.lt
 have x0:w.cell? ⟨g,0,none⟩=some (.string rest):=Blk.cell hF 0
 have x2:w.cell? ⟨g,2,none⟩=some (.int .i64 0):=Blk.cell hF 2
 have t0:=Blk.thaw hF 0
 have hB0:=hid (show jm (w.setCell ⟨g,0,none⟩ (.string s)) g s (at0:Int) 0 from Blk.eq (Blk.set hF 0 _) (by simp))
 have hpl:¬ 9223372036854775807<rest.size+p.size:=by
  have:=congrArg ByteArray.size hs
  rw [ByteArray.size_append] at this; omega
 have hpl2:rest.size+p.size≤9223372036854775807:=by omega
 clear h hF
 go_enter Tryz.func40,Tryz.ntmps40
 go_wp2
 go_loopg [4,5,6,7,8,9,27] s.size (fun k _ _ out _ _ _ _ wr=>ME s g at0 fs m e w out wr k)
 case atStart=>exact⟨[],fs,none,0,0,0,m,rfl,by omega,rfl,Nat.le_refl _,Nat.zero_le _,rfl,by rw [show s.extract 0 s.size=s from by simp]; exact hh.out,World.ownsRow_nil _ _ _ _,aF (World.grownBy.refl w _) _ _,by rw [show s.extract 0 s.size=s from by simp]; exact Blk.eq hB0.out (by simp)⟩
 case round=>
  obtain⟨done,left,A,n,c,a,m',hfs,hm,rfl,hna,ha,rfl,hF,ho,hg,hB⟩:=hrel
  have y0:wr.cell? ⟨g,0,none⟩=some (.string (s.extract a s.size)):=Blk.cell hB 0
  have hsz1:=hid (show (s.extract a s.size).size≤9223372036854775807 from by rw [ByteArray.size_extract]; omega)
  have hgl:=hB.lt
  have HB:=hid hB
  clear x0 x2 t0 hB0 hpl hpl2 hs hB
  cases hF with
  | stop hd he=>
   have hd:=hid hd
   have e1:((e:Int) == 0)=false:=by simp; omega
   have fin:=hid (show fs=done from by rw [hfs]; simp)
   have hm:=hid (show m=a from hm)
   clear hfs
   go_wp2_with fail
   refine Calls.mono (GT hd.out _ hsz1.out) ?_
   rintro x w1 ⟨rfl,hb1⟩
   have ho1:=hid ((nZ ho hb1).alloc (.cells #[.int .i64 0,.int .i64 0,.string ⟨#[]⟩] 53))
   have hb2:=hb1.alloc hb1.size (.cells #[.int .i64 0,.int .i64 0,.string ⟨#[]⟩] 53)
   have hG:=hid (gQ hg hb2)
   have hB1:=HB.out.below hb2 hgl
   have z0:w1.cell? ⟨g,0,none⟩=some (.string (s.extract a s.size)):=Blk.cell (Blk.below HB.out hb1 hgl) 0
   have z2:w1.cell? ⟨g,2,none⟩=some (.int .i64 0):=Blk.cell (Blk.below HB.out hb1 hgl) 2
   have t0:=Blk.thaw (Blk.below HB.out hb1 hgl) 0
   have t2:=Blk.thaw (Blk.below HB.out hb1 hgl) 2
   have hgl1:g<w1.heap.size:=by have:=hb1.size; omega
   have HB1:=hid hB1
   have hlen:=hid (show done.length=n from by have:=ho.1; rw [iK wU] at this; omega)
   have hoE:=hid ((nZ ho hb1).kept (row:=some g) (aF (aF (World.grownBy.refl w1 _) 0 (.string ⟨#[]⟩)) 2 (.int .i64 (e:Int))) (.inr (fun h=>by have:=((nZ ho hb1).lt g h).1; omega)))
   have hGE:=hid (aF (aF (gQ hg hb1) 0 (.string ⟨#[]⟩)) 2 (.int .i64 (e:Int)))
   have hBE:=hid (show jm ((w1.setCell ⟨g,0,none⟩ (.string ⟨#[]⟩)).setCell ⟨g,2,none⟩ (.int .i64 (e:Int))) g ⟨#[]⟩ ((at0:Int)+(a:Int)) (e:Int) from Blk.eq ((Blk.set (Blk.below HB.out hb1 hgl) 0 _).set 2 _) (by simp))
   clear ho hb1 hb2 hg hB1 y0
   by_cases h3:e=3
   · subst h3
     clear e1 he
     go_wp2
     refine bodyPost_ret (v:=.tuple #[.slice A n c,.int .i64 0]) (by simp [results,Tryz.results40,go_sem]) rfl ?_
     exact⟨A,n,c,rfl,by rw [fin.out]; exact hlen.out,by rw [fin.out]; exact ho1.out,hG.out,by rw [hm.out]; exact HB1.out⟩
   · have e2:((e:Int) == 3)=false:=by simp; omega
     go_wp2
     refine bodyPost_ret (v:=.tuple #[.slice A n c,.int .i64 (e:Int)]) (by simp [results,Tryz.results40,go_sem]) rfl ?_
     exact⟨A,n,c,by rw [if_neg h3],by rw [fin.out]; exact hlen.out,by rw [fin.out]; exact hoE.out.alloc _,gQ hGE.out ((Below.refl _ _).alloc (Nat.le_refl _) _),by rw [hm.out,if_neg h3,if_neg h3]; exact hBE.out.alloc _⟩
  | @step _ f n1 fs1 m1 _ hd h1 h2 hF=>
   have hd:=hid hd
   have h2':=h2
   rw [ByteArray.size_extract] at h2'
   have e0:(s.extract a s.size).extract n1 (s.extract a s.size).size=s.extract (a+n1) s.size:=by
    rw [ByteArray.extract_extract,ByteArray.size_extract]
    congr 1
    omega
   have hF1:=hid (show Frs (s.extract (a+n1) s.size) fs1 m1 e from by rw [← e0]; exact hF)
   have q1:∀ W:World,(Instr.slice 9 (.string (s.extract a s.size)) (some (.int .i64 (n1:Int))) none none).run Tryz.prog W = .ok (.string (s.extract (a+n1) s.size)) W:=fun W=>by
    rw [run_slice_string_from_if (P:=Tryz.prog) (w:=W) 9 (s.extract a s.size) .i64 (n1:Int) Tryz.underlying9,if_pos ⟨by omega,by omega⟩,show ((n1:Int)).toNat=n1 from by omega,e0]
   have fin:=hid (show fs=(done ++ [f]) ++ fs1 from by rw [hfs]; simp)
   have hm:=hid (show m=(a+n1)+m1 from by omega)
   clear hfs hF e0
   obtain⟨ver,kind,pay⟩:=f
   go_wp2_with fail
   refine Calls.mono (GT hd.out _ hsz1.out) ?_
   rintro x w1 ⟨rfl,hb1⟩
   dsimp only
   have ho1:=(nZ ho hb1).alloc (.cells #[.int .i64 (ver:Int),.int .i64 (kind:Int),.string pay] 53)
   have hb2:=hb1.alloc hb1.size (.cells #[.int .i64 (ver:Int),.int .i64 (kind:Int),.string pay] 53)
   have hG:=hid (gQ hg hb2)
   have hbr:=hG.out.size
   have HB1:=hid (HB.out.below hb2 hgl)
   have Hlt:=hid ho1.lt
   clear ho hb1 hb2 hg y0
   go_wp2_with (at_builtin; refine iB A3 rfl _ _ 100 53 Lj 3 32 rfl Tryz.underlying100 EZ rfl (by decide) wU GS w.heap.size _ _ _ done rfl ho1 _ ⟨ver,kind,pay⟩ rfl _ (by simp) rfl (by omega) (by unfold maxLen; omega) hbr ?_; intro A2 c2 w2 ho2 hg2; have HB2:=hid (HB1.out.grew hg2 (fun k hk=>by have:=(Hlt.out k hk).1; omega)); have y0:=Blk.cell HB2.out 0; have y1:=Blk.cell HB2.out 1; have t0:=Blk.thaw HB2.out 0; have t1:=Blk.thaw HB2.out 1; dsimp at y0 y1)
   go_roundg (s.size - (a+n1))
   case rel=>exact⟨done ++ [⟨ver,kind,pay⟩],fs1,A2,n+1,c2,a+n1,m1,fin.out,hm.out,rfl,by omega,by omega,rfl,hF1.out,ho2.kept (row:=some g) (aF (aF (World.grownBy.refl w2 _) 0 _) 1 _) (.inr (fun h=>by have:=(ho2.lt g h).1; omega)),aF (aF (pz hG.out hg2 (fun k hk=>(Hlt.out k hk).1)) _ _) _ _,Blk.eq ((HB2.out.set 0 _).set 1 _) (by simp; omega)⟩
   case measure=>omega
end Go.Proofs.YtoeejfhdjmkpcaaGreatDoor
/- Words for Encode: a writer just made; how long what is written is. -/
namespace Go.Proofs.YtoeejfhdjmkpcaaGreatDoor
open Go.Lib (hid)
open Go.RowKit
theorem zy (n:Nat):(bJ n).length≤4000:=by have:=dM n; omega
theorem lP {α:Type} {enc:α→List UInt8} {xs:List α} (h:∀ x,(enc x).length≤85) (hn:xs.length≤40):(iW enc xs).length≤4000:=by
 have h1:=nC h xs
 have h2:=eY xs.length
 unfold iW
 rw [List.length_append]; omega
theorem rF (x:ByteArray):(fB x).length≤85:=by have:=fH x; omega
theorem gZ.new {w:World} {base:Nat} (hT:Tabs w) (h3:ren.g 3<base) (h4:ren.g 4<base) (hb:base≤w.heap.size):gZ (w.alloc (.cells #[.slice none 0 0] 131)) base w.heap.size []:=
 have hbl:Below w.heap.size w (w.alloc (.cells #[.slice none 0 0] 131)):=(Below.refl _ _).alloc (Nat.le_refl _) _
 ⟨⟨hb,none,0,0,heap_alloc_new w _,World.ownsRow_nil _ _ _ _⟩,hT.below hbl,h3,h4,Nat.le_trans hb hbl.size⟩
theorem Tabs.lt {w:World} (h:Tabs w):ren.g 3<w.heap.size∧ren.g 4<w.heap.size:=by
 have lt:∀ {a:Addr} {v:Value},w.cell? a=some v→a.block<w.heap.size:=fun {a v} hc=>by
  rcases Nat.lt_or_ge a.block w.heap.size with h' | h'
  · exact h'
  · simp [World.cell?,Array.getElem?_eq_none h'] at hc
 exact⟨lt (h.1 0 (by decide)),lt (h.2 0 (by decide)).1⟩
end Go.Proofs.YtoeejfhdjmkpcaaGreatDoor
/- The walk of delta.Encode. -/
namespace Go.Proofs.YtoeejfhdjmkpcaaGreatDoor
open Go.Lib (hid)
open Go.RowKit
structure EGo (w0 w:World) (base g p D:Nat) (l:List UInt8) (cs:Array Value) (N:Nat):Prop where
 ok:gZ w base g l
 keep:dB base g w0 w
 bD:Blk w D 45 cs
 bp:Blk w p 128 #[.pointer (some ⟨g,0,none⟩)]
 nD:D≠g
 np:p≠g
 len:l.length≤N
theorem EGo.next {w0 w w':World} {base g p D N:Nat} {l k:List UInt8} {cs:Array Value} (h:EGo w0 w base g p D l cs N) (ha:gZ w' base g (l ++ k)) (hk:dB base g w w') (hkl:k.length≤4000):EGo w0 w' base g p D (l ++ k) cs (N+4000):=
 ⟨ha,h.keep.trans hk,hk.blk h.bD (by decide) h.nD,hk.blk h.bp (by decide) h.np,h.nD,h.np,by have:=h.len; rw [List.length_append]; omega⟩
theorem EGo.alloc {w0 w:World} {base g p D N:Nat} {l:List UInt8} {cs:Array Value} (h:EGo w0 w base g p D l cs N) (o:Obj):EGo w0 (w.alloc o) base g p D l cs N:=
 have hb:Below w.heap.size w (w.alloc o):=(Below.refl _ _).alloc (Nat.le_refl _) _
 ⟨h.ok.below hb,h.keep.trans (dB.of_below hb),h.bD.alloc _,h.bp.alloc _,h.nD,h.np,h.len⟩
def MF (w0:World) (base g p S:Nat) (L5:List UInt8) (cs ss:Array Value) (gs:List (List ByteArray)) (i:Value) (wr:World):Prop:=
 ∃ k:Nat,k≤3∧i = .int .i64 k∧EGo w0 wr base g p base (L5 ++ (gs.take k).flatMap (iW fB)) cs (20000+4000*k)∧Blk wr S 43 ss
theorem vN (d:aM) (x:eI) (w:World) (hD:dH w w.heap.size d x) (hT:Tabs w) (hf1 : -9223372036854775808≤d.from_) (hf2:d.from_≤9223372036854775807) :
 Calls Tryz.prog 19 #[.agg (dC d x)] w (kR d w):=by
 have hb1:Below w.heap.size w (w.alloc (.cells (dC d x) 45)):=(Below.refl _ _).alloc (Nat.le_refl _) _
 have hB1:Blk (w.alloc (.cells (dC d x) 45)) w.heap.size 45 (dC d x):=heap_alloc_new w _
 have hC:=rE d x _ (hD.up hb1) (hT.below hb1) hf1 hf2
 obtain⟨E,hE⟩:∃ E,cD d=E:=⟨_,rfl⟩
 unfold uH at hC
 rw [hE] at hC
 have HC:=hid hC
 have HE:=hid hE
 have HD:=hid hD
 have HT:=hid hT
 have Hb1:=hid hb1
 have HB1:=hid hB1
 have LI:=hid (fun (h:E≠0) w'=>kR.bad (w:=w) (w':=w') hE h)
 have LK:=hid (fun (h:E=0) w'=>kR.large (w:=w) (w':=w') (hE.trans h))
 have Hok:=hid (fun (h:E=0) w' s=>kR.ok (w:=w) (w':=w') (s:=s) (hE.trans h))
 have MG:=hid (fun (h:E=0)=>Ll (hE.trans h))
 clear hC hE hD hT hb1 hB1 hf1 hf2
 obtain⟨from_,to_,jobs,nodes,leases,gj,gn,gl⟩:=d
 obtain⟨aj,nj,cj,an,nn,cn,al,nl,cl,agj,ngj,cgj,agn,ngn,cgn,agl,ngl,cgl⟩:=x
 unfold dC at *
 dsimp only at *
 go_enter Tryz.func19,Tryz.ntmps19
 go_wp2_with fail
 refine Calls.mono HC.out ?_
 rintro e w1 ⟨rfl,hb2⟩
 by_cases h0:E=0
 rotate_left
 · have hne:(E != 0)=true:=bne_iff_ne.2 h0
   have aS:=hid (LI.out h0 w1 (Hb1.out.trans (hb2.mono Hb1.out.size)))
   go_wp2
   go_ret2
   exact aS.out
 subst h0
 have G:=hid (MG.out rfl)
 have gt0:=G.out.t0
 have gt1:=G.out.t1
 have gt2:=G.out.t2
 dsimp only at gt0 gt1 gt2
 have hbA:=Hb1.out.trans (hb2.mono Hb1.out.size)
 have hBD:Blk w1 w.heap.size 45 _:=HB1.out.below hb2 HB1.out.lt
 have hsz:w.heap.size<w1.heap.size:=hBD.lt
 have hTl:=HT.out.lt
 have hw0:=gZ.new (HT.out.below hbA) hTl.1 hTl.2 (Nat.le_of_lt hsz)
 have hbW:Below w1.heap.size w1 (w1.alloc (.cells #[.slice none 0 0] 131)):=(Below.refl _ _).alloc (Nat.le_refl _) _
 have hsW:(w1.alloc (.cells #[.slice none 0 0] 131)).heap.size=w1.heap.size+1:=by simp
 have hbP:Below (w1.alloc (.cells #[.slice none 0 0] 131)).heap.size (w1.alloc (.cells #[.slice none 0 0] 131)) ((w1.alloc (.cells #[.slice none 0 0] 131)).alloc (.cells #[.pointer (some ⟨w1.heap.size,0,none⟩)] 128)):=(Below.refl _ _).alloc (Nat.le_refl _) _
 have hbp:Blk ((w1.alloc (.cells #[.slice none 0 0] 131)).alloc (.cells #[.pointer (some ⟨w1.heap.size,0,none⟩)] 128)) (w1.heap.size+1) 128 #[.pointer (some ⟨w1.heap.size,0,none⟩)]:=by
  have:=heap_alloc_new (w1.alloc (.cells #[.slice none 0 0] 131)) (.cells #[.pointer (some ⟨w1.heap.size,0,none⟩)] 128)
  rw [hsW] at this
  exact this
 have H0:=hid (EGo.mk (w0:=w) (N:=0) (hw0.below hbP) (((dB.of_below hbA).trans (dB.of_below hbW)).trans (dB.of_below hbP)) ((hBD.alloc _).alloc _) hbp (Nat.ne_of_lt hsz) (by omega) (by simp))
 have HY:=hid hBD
 clear hb2 hbA hBD hTl hw0 hbW hsW hbP hbp
 obtain⟨y0,y1,y2,y3,y4,y5,y6,y7⟩:=Blk.c8 (HY.out)
 go_wp2_with fail
 refine Calls.mono (pA w.heap.size w1.heap.size _ (from_) _ (by omega) H0.out.ok (by have:=H0.out.len; omega)) ?_
 rintro e wk1 ⟨rfl,ok1,k1⟩
 have H1:=hid (H0.out.next ok1 k1 (zy _))
 clear y0 y1 y2 y3 y4 y5 y6 y7
 have yp:wk1.cell? ⟨w1.heap.size+1,0,none⟩=some (.pointer (some ⟨w1.heap.size,0,none⟩)):=H1.out.bp.cell 0
 have hpl:w1.heap.size+1<wk1.heap.size:=H1.out.bp.lt
 obtain⟨y0,y1,y2,y3,y4,y5,y6,y7⟩:=Blk.c8 (H1.out.bD)
 clear ok1 k1 H0
 go_wp2_with fail
 refine Calls.mono (pA w.heap.size w1.heap.size _ (to_ - from_) _ (by omega) H1.out.ok (by have:=H1.out.len; omega)) ?_
 rintro e wk2 ⟨rfl,ok2,k2⟩
 have H2:=hid (H1.out.next ok2 k2 (zy _))
 clear yp hpl y0 y1 y2 y3 y4 y5 y6 y7
 have yp:wk2.cell? ⟨w1.heap.size+1,0,none⟩=some (.pointer (some ⟨w1.heap.size,0,none⟩)):=H2.out.bp.cell 0
 have hpl:w1.heap.size+1<wk2.heap.size:=H2.out.bp.lt
 have y2:wk2.cell? ⟨w.heap.size,2,none⟩=some (.slice aj nj cj):=H2.out.bD.cell 2
 have y3:wk2.cell? ⟨w.heap.size,3,none⟩=some (.slice an nn cn):=H2.out.bD.cell 3
 have y4:wk2.cell? ⟨w.heap.size,4,none⟩=some (.slice al nl cl):=H2.out.bD.cell 4
 have y5:wk2.cell? ⟨w.heap.size,5,none⟩=some (.slice agj ngj cgj):=H2.out.bD.cell 5
 have y6:wk2.cell? ⟨w.heap.size,6,none⟩=some (.slice agn ngn cgn):=H2.out.bD.cell 6
 have y7:wk2.cell? ⟨w.heap.size,7,none⟩=some (.slice agl ngl cgl):=H2.out.bD.cell 7
 clear ok2 k2 H1
 go_wp2_with fail
 refine Calls.mono (JQ w.heap.size w1.heap.size (w1.heap.size+1) _ jobs _ _ _ _ (HD.out.j.below (H2.out.keep.below (Nat.le_of_lt hsz) (Nat.le_refl _))) HD.out.lj (by have h1:=HD.out.lj; have h2:=G.out.nj; dsimp only at h1 h2; omega) G.out.jobs H2.out.ok (by have:=H2.out.len; omega) H2.out.bp H2.out.np) ?_
 rintro e wk3 ⟨rfl,ok3,k3⟩
 have H3:=hid (H2.out.next ok3 k3 (lP (fun x=>xG x 3) (by have h2:=G.out.nj; dsimp only at h2; omega)))
 clear yp hpl y2 y3 y4 y5 y6 y7
 have yp:wk3.cell? ⟨w1.heap.size+1,0,none⟩=some (.pointer (some ⟨w1.heap.size,0,none⟩)):=H3.out.bp.cell 0
 have hpl:w1.heap.size+1<wk3.heap.size:=H3.out.bp.lt
 have y3:wk3.cell? ⟨w.heap.size,3,none⟩=some (.slice an nn cn):=H3.out.bD.cell 3
 have y4:wk3.cell? ⟨w.heap.size,4,none⟩=some (.slice al nl cl):=H3.out.bD.cell 4
 have y5:wk3.cell? ⟨w.heap.size,5,none⟩=some (.slice agj ngj cgj):=H3.out.bD.cell 5
 have y6:wk3.cell? ⟨w.heap.size,6,none⟩=some (.slice agn ngn cgn):=H3.out.bD.cell 6
 have y7:wk3.cell? ⟨w.heap.size,7,none⟩=some (.slice agl ngl cgl):=H3.out.bD.cell 7
 clear ok3 k3 H2
 go_wp2_with fail
 refine Calls.mono (GV w.heap.size w1.heap.size (w1.heap.size+1) _ nodes _ _ _ _ (HD.out.n.below (H3.out.keep.below (Nat.le_of_lt hsz) (Nat.le_refl _))) HD.out.ln (by have h1:=HD.out.ln; have h2:=G.out.nn; dsimp only at h1 h2; omega) G.out.nodes H3.out.ok (by have:=H3.out.len; omega) H3.out.bp H3.out.np) ?_
 rintro e wk4 ⟨rfl,ok4,k4⟩
 have H4:=hid (H3.out.next ok4 k4 (lP (fun x=>zB x 3) (by have h2:=G.out.nn; dsimp only at h2; omega)))
 clear yp hpl y3 y4 y5 y6 y7
 have yp:wk4.cell? ⟨w1.heap.size+1,0,none⟩=some (.pointer (some ⟨w1.heap.size,0,none⟩)):=H4.out.bp.cell 0
 have hpl:w1.heap.size+1<wk4.heap.size:=H4.out.bp.lt
 have y4:wk4.cell? ⟨w.heap.size,4,none⟩=some (.slice al nl cl):=H4.out.bD.cell 4
 have y5:wk4.cell? ⟨w.heap.size,5,none⟩=some (.slice agj ngj cgj):=H4.out.bD.cell 5
 have y6:wk4.cell? ⟨w.heap.size,6,none⟩=some (.slice agn ngn cgn):=H4.out.bD.cell 6
 have y7:wk4.cell? ⟨w.heap.size,7,none⟩=some (.slice agl ngl cgl):=H4.out.bD.cell 7
 clear ok4 k4 H3
 go_wp2_with fail
 refine Calls.mono (E9 w.heap.size w1.heap.size (w1.heap.size+1) _ leases _ _ _ _ (HD.out.l.below (H4.out.keep.below (Nat.le_of_lt hsz) (Nat.le_refl _))) HD.out.ll (by have h1:=HD.out.ll; have h2:=G.out.nl; dsimp only at h1 h2; omega) G.out.leases H4.out.ok (by have:=H4.out.len; omega)) ?_
 rintro e wk5 ⟨rfl,ok5,k5⟩
 have H5:=hid (H4.out.next ok5 k5 (lP (fun x=>xH x) (by have h2:=G.out.nl; dsimp only at h2; omega)))
 clear yp hpl y4 y5 y6 y7
 have yp:wk5.cell? ⟨w1.heap.size+1,0,none⟩=some (.pointer (some ⟨w1.heap.size,0,none⟩)):=H5.out.bp.cell 0
 have hpl:w1.heap.size+1<wk5.heap.size:=H5.out.bp.lt
 have y5:wk5.cell? ⟨w.heap.size,5,none⟩=some (.slice agj ngj cgj):=H5.out.bD.cell 5
 have y6:wk5.cell? ⟨w.heap.size,6,none⟩=some (.slice agn ngn cgn):=H5.out.bD.cell 6
 have y7:wk5.cell? ⟨w.heap.size,7,none⟩=some (.slice agl ngl cgl):=H5.out.bD.cell 7
 clear ok5 k5 H4
 have hS:Blk (wk5.alloc (.cells #[.slice agj ngj cgj,.slice agn ngn cgn,.slice agl ngl cgl] 43)) wk5.heap.size 43 #[.slice agj ngj cgj,.slice agn ngn cgn,.slice agl ngl cgl]:=heap_alloc_new wk5 _
 have HS:=hid hS
 have HA:=hid (H5.out.alloc (.cells #[.slice agj ngj cgj,.slice agn ngn cgn,.slice agl ngl cgl] 43))
 have hg5:=hid H5.out.ok.at_.lt
 clear hS H5
 go_wp2
 generalize hL5:[] ++ bJ from_.toNat ++ bJ (to_ - from_).toNat ++ iW (fun x=>gL x 3) jobs ++ iW (fun x=>iC x 3) nodes ++ iW fP leases=L5 at HA
 have HL5:=hid hL5
 generalize hcs:(#[.int .i64 from_,.int .i64 to_,.slice aj nj cj,.slice an nn cn,.slice al nl cl,.slice agj ngj cgj,.slice agn ngn cgn,.slice agl ngl cgl]:Array Value)=CS at HA
 generalize hS:wk5.heap.size=S at HS hg5
 clear hL5 hcs yp hpl y5 y6 y7
 go_loopw [7,50] (fun _ i wr=>MF w w.heap.size w1.heap.size (w1.heap.size+1) S L5 CS #[.slice agj ngj cgj,.slice agn ngn cgn,.slice agl ngl cgl] [gj,gn,gl] i wr) (fun _ i _=>3 - (intOf i).toNat)
 case atStart=>exact⟨0,by omega,rfl,by simpa using HA.out,HS.out⟩
 case round=>
  obtain⟨k,hk,rfl,hgo,hS⟩:=hrel
  have Hgo:=hid hgo
  have HS':=hid hS
  have yp:wr.cell? ⟨w1.heap.size+1,0,none⟩=some (.pointer (some ⟨w1.heap.size,0,none⟩)):=hgo.bp.cell 0
  have hpl:w1.heap.size+1<wr.heap.size:=hgo.bp.lt
  have hSl:S<wr.heap.size:=hS.lt
  have yS0:wr.cell? ⟨S,0,none⟩=some (.slice agj ngj cgj):=hS.cell 0
  have yS1:wr.cell? ⟨S,1,none⟩=some (.slice agn ngn cgn):=hS.cell 1
  have yS2:wr.cell? ⟨S,2,none⟩=some (.slice agl ngl cgl):=hS.cell 2
  clear hgo hS
  rcases (show k=0∨k=1∨k=2∨k=3 by omega) with rfl | rfl | rfl | rfl
  · go_wp2_with fail
    refine Calls.mono (rG w.heap.size w1.heap.size 0 _ gj _ _ _ _ (HD.out.gj.below (Hgo.out.keep.below (Nat.le_of_lt hsz) (Nat.le_refl _))) HD.out.lgj (by have h1:=HD.out.lgj; have h2:=G.out.ngj; dsimp only at h1 h2; omega) HD.out.ogj Hgo.out.ok (by have:=Hgo.out.len; omega)) ?_
    rintro e w2 ⟨rfl,ok,kk⟩
    have GW:=hid (Hgo.out.next ok kk (lP rF (by have h2:=G.out.ngj; dsimp only at h2; omega)))
    have HS2:=hid (kk.blk HS'.out (by decide) (Nat.ne_of_gt hg5.out))
    clear ok kk yS0 yS1 yS2 yp
    go_wp2
    go_roundw
    case rel=>exact⟨1,by omega,by go_num,by simpa [List.append_assoc] using GW.out,HS2.out⟩
    case measure=>simp [intOf]
  · go_wp2_with fail
    refine Calls.mono (rG w.heap.size w1.heap.size 0 _ gn _ _ _ _ (HD.out.gn.below (Hgo.out.keep.below (Nat.le_of_lt hsz) (Nat.le_refl _))) HD.out.lgn (by have h1:=HD.out.lgn; have h2:=G.out.ngn; dsimp only at h1 h2; omega) HD.out.ogn Hgo.out.ok (by have:=Hgo.out.len; omega)) ?_
    rintro e w2 ⟨rfl,ok,kk⟩
    have GW:=hid (Hgo.out.next ok kk (lP rF (by have h2:=G.out.ngn; dsimp only at h2; omega)))
    have HS2:=hid (kk.blk HS'.out (by decide) (Nat.ne_of_gt hg5.out))
    clear ok kk yS0 yS1 yS2 yp
    go_wp2
    go_roundw
    case rel=>exact⟨2,by omega,by go_num,by simpa [List.append_assoc] using GW.out,HS2.out⟩
    case measure=>simp [intOf]
  · go_wp2_with fail
    refine Calls.mono (rG w.heap.size w1.heap.size 0 _ gl _ _ _ _ (HD.out.gl.below (Hgo.out.keep.below (Nat.le_of_lt hsz) (Nat.le_refl _))) HD.out.lgl (by have h1:=HD.out.lgl; have h2:=G.out.ngl; dsimp only at h1 h2; omega) HD.out.ogl Hgo.out.ok (by have:=Hgo.out.len; omega)) ?_
    rintro e w2 ⟨rfl,ok,kk⟩
    have GW:=hid (Hgo.out.next ok kk (lP rF (by have h2:=G.out.ngl; dsimp only at h2; omega)))
    have HS2:=hid (kk.blk HS'.out (by decide) (Nat.ne_of_gt hg5.out))
    clear ok kk yS0 yS1 yS2 yp
    go_wp2
    go_roundw
    case rel=>exact⟨3,by omega,by go_num,by simpa [List.append_assoc] using GW.out,HS2.out⟩
    case measure=>simp [intOf]
  · have hL:L5 ++ ([gj,gn,gl].take 3).flatMap (iW fB)=iD ⟨from_,to_,jobs,nodes,leases,gj,gn,gl⟩:=by rw [← HL5.out]; simp [iD]
    have hbl:=Hgo.out.keep.below (Nat.le_of_lt hsz) (Nat.le_refl _)
    have hat:=Hgo.out.ok.at_
    rw [hL] at hat
    obtain⟨_,A,m,c,hB,ho⟩:=hat
    have hm:=qm ho
    have z0:wr.cell? ⟨w1.heap.size,0,none⟩=some (.slice A m c):=hB.cell 0
    have hrun:=iE Tryz.underlying129 Tryz.underlying5 Tryz.underlying9 ho
    by_cases hbig:6000<m
    · have aS:=hid (LK.out trivial wr (by omega) hbl)
      have hd:decide ((6000:Int)<(m:Int))=true:=decide_eq_true (by omega)
      clear hbl hm hrun ho hB
      go_wp2
      go_ret2
      exact aS.out
    · have aS:=hid (Hok.out trivial wr _ (by omega) rfl hbl)
      have hd:decide ((6000:Int)<(m:Int))=false:=decide_eq_false (by omega)
      clear hbl hm ho hB
      go_wp2
      go_ret2
      exact aS.out
end Go.Proofs.YtoeejfhdjmkpcaaGreatDoor
