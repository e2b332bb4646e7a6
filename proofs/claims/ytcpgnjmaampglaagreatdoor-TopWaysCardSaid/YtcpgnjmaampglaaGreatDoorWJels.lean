/- Of the proof of a statement: Jels. -/
import Derived.Test.YtcpgnjmaampglaaGreatDoorWJobr
set_option linter.unusedVariables false
set_option linter.unusedSimpArgs false
set_option maxRecDepth 100000
set_option maxHeartbeats 8000000
/- The walk of the program's reader of JSON: elements, at its three types. -/
namespace Go.Proofs.YtcpgnjmaampglaaGreatDoor
open Go.Lib (hid)
open Go.RowKit
open Go.Lib (hasPrefix trimPrefix)
def jrN (σ:JS):Nat:=if σ.2=true then 0 else σ.1.length+1
theorem pV {w:World} {g:Nat} {σ:JS} (h:AP w g σ):jrM g w=jrN σ:=qV (l:=σ.1) (b:=σ.2) h
theorem mK {w0 w w':World} {g X:Nat} (h:w0.grownBy w (some g)) (ht:Two w w' g X) (hX:w0.heap.size≤X):w0.grownBy w' (some g):=
 ⟨ht.os.trans h.os,ht.tape.trans h.tape,ht.output.trans h.output,Nat.le_trans h.size ht.size,fun k hk hne=>(ht.block k (Nat.lt_of_lt_of_le hk h.size) (fun e=>hne (by rw [e])) (by omega)).trans (h.block k hk hne)⟩
theorem rK {w w':World} {base g X n sz:Nat} {e:TypeId} {v:Value} {xs:List Value} (ho:w.ownsRow base e sz v n xs) (ht:Two w w' g X) (hg:g<base) (hv:∀ k,v.ownBlock=some k→k≠X):w'.ownsRow base e sz v n xs:=by
 rcases ho with ⟨h1,h | ⟨q,cap,cur,hq0,hq,hgq,r⟩⟩
 · exact⟨h1,.inl h⟩
 · have hlt:q<w.heap.size:=(Array.getElem?_eq_some_iff.1 hgq).1
   have hne:q≠X:=hv q (by rw [hq0]; rfl)
   exact⟨h1,.inr ⟨q,cap,cur,hq0,hq,(ht.block q hlt (by omega) hne).trans hgq,r⟩⟩
theorem oX (fs:bY) (σ:JS):jrN (eG fs σ).2≤σ.1.length:=by
 unfold jrN
 by_cases h:(eG fs σ).2.2=true
 · rw [if_pos h]; omega
 · rw [if_neg h]
   have:=LI (fs:=fs) (σ:=σ) (by simpa using h)
   omega
theorem fK.oY {w w':World} {g base:Nat} {σ:JS} {v v':Value} (h:fK w g σ) (hg:dE w w' v v') (hv:∀ k,v.ownBlock=some k→base≤k) (hgb:g<base) (h1 : 2 < base) (h2 : 3 < base):fK w' g σ:=by
 obtain⟨⟨t,p,a⟩,⟨t',p',b⟩,c,d⟩:=h.err
 have hb:∀ k,k<w.heap.size→k<base→w'.heap[k]? = w.heap[k]?:=fun k hk hkb=>hg.grown.block k hk (fun e=>by have:=hv k e.symm; omega)
 exact⟨Blk.oY h.at_ hg hv hgb,⟨⟨t,p,(World.cell?_of_block (hb _ (block_lt_of_cell a) h1)).trans a⟩,⟨t',p',(World.cell?_of_block (hb _ (block_lt_of_cell b) h2)).trans b⟩,c,d⟩,h.len⟩
def LJ {α:Type} (of_:bY→α) (enc:α→List Value) (zs:bY) (T:TypeId) (sz:Nat) (W0:World) (g:Nat) (R:List bY × JS) (v:Value) (wr:World):Prop:=
 ∃ (A:Option Addr) (m c:Nat) (out:List bY) (τ:JS) (N:Nat),v = .slice A m c∧out.length=m∧wr.ownsRow W0.heap.size T sz (.slice A m c) m (au enc (out.map of_))∧fK wr g τ∧W0.grownBy wr (some g)∧kC zs N (out,τ)=R∧(τ.2=false→τ.1.length<N)∧m+jrN τ≤60001
def wu {α:Type} (of_:bY→α) (enc:α→List Value) (T:TypeId) (sz:Nat) (g:Nat) (R:List bY × JS) (w:World) (e:Ending) (w':World):Prop:=
 ∃ A n c,e = .returned (.slice A n c)∧R.1.length=n∧n≤60001∧w'.ownsRow w.heap.size T sz (.slice A n c) n (au enc (R.1.map of_))∧fK w' g R.2∧w.grownBy w' (some g)
theorem CI {zs:bY} {n:Nat} {out:List bY} {τ:JS} {R:List bY × JS} (h:kC zs (n+1) (out,τ)=R) (hb:τ.2=false) (hp:hasPrefix τ.1 [93]=false) (τ1:JS) (h1:(if out=[] then τ else aX [44] τ)=τ1):kC zs n (out ++ [(eG zs τ1).1],(eG zs τ1).2)=R:=by
 rw [kC] at h
 simp only at h
 rw [hb,if_neg (by simp),hp,if_neg (by simp),h1] at h
 exact h
theorem Gd {zs:bY} {n:Nat} {out:List bY} {τ:JS} {R:List bY × JS} (h:kC zs (n+1) (out,τ)=R) (hb:τ.2=false) (hp:hasPrefix τ.1 [93]=true):R=(out,τ.1.drop 1,false):=by
 rw [kC] at h
 simp only at h
 rw [hb,if_neg (by simp),hp,if_pos rfl] at h
 exact h.symm
theorem NP (v:FV) (σ:JS):kindOf (fvJ v σ).1=kindOf v:=by cases v <;> rfl
theorem BF:∀ (fs:bY) (a:bY × JS),∃ l:bY,(fs.foldl jf a).1=a.1 ++ l∧l.map (fun f=>kindOf f.2)=fs.map (fun f=>kindOf f.2)
 | [],a=>⟨[],by simp,rfl⟩
 | f :: fs,a=>by
  obtain⟨l,h1,h2⟩:=BF fs (jf a f)
  refine⟨(f.1,(fvJ f.2 (aX (aV f.1.data.toList ++ [58]) (if a.1=[] then a.2 else aX [44] a.2))).1) :: l,?_,?_⟩
  · rw [List.foldl_cons,h1]
    show (a.1 ++ [_]) ++ l=_
    rw [List.append_assoc]; rfl
  · rw [List.map_cons,List.map_cons,h2]
    dsimp only
    rw [NP]
theorem zJ (fs:bY) (σ:JS):(eG fs σ).1.map (fun f=>kindOf f.2)=fs.map (fun f=>kindOf f.2):=by
 obtain⟨l,h1,h2⟩:=BF fs ([],aX [123] σ)
 show ((fs.foldl jf ([],aX [123] σ)).1).map _=_
 rw [h1]
 simpa using h2
theorem gG {l:bY} {b:Bool} {bs:List Bool} (h:l.map (fun f=>kindOf f.2)=b :: bs):∃ f l',l=f :: l'∧kindOf f.2=b∧l'.map (fun f=>kindOf f.2)=bs:=by
 cases l with
 | nil=>cases h
 | cons f l'=>
  rw [List.map_cons] at h
  injection h with h1 h2
  exact⟨f,l',rfl,h1,h2⟩
theorem zK {l:bY} (h:l.map (fun f=>kindOf f.2)=[]):l=[]:=List.map_eq_nil_iff.1 h
theorem oZ {f:ByteArray × FV} (h:kindOf f.2=false):∃ n s,f=(n,.txt s):=by
 obtain⟨n,v⟩:=f
 cases v with
 | num x=>cases h
 | txt s=>exact⟨n,s,rfl⟩
theorem qW {f:ByteArray × FV} (h:kindOf f.2=true):∃ n s,f=(n,.num s):=by
 obtain⟨n,v⟩:=f
 cases v with
 | txt x=>cases h
 | num s=>exact⟨n,s,rfl⟩
theorem Eg (σ:JS):fsV (eG iy σ).1=(aH (kQ (eG iy σ).1)).toArray:=by
 have h0:=zJ iy σ
 rw [show iy.map (fun f=>kindOf f.2)=[false,true,true,true,false] from rfl] at h0
 obtain⟨f,hf⟩:∃ f,(eG iy σ).1=f:=⟨_,rfl⟩
 rw [hf] at h0 ⊢
 obtain⟨g0,l0,rfl,k0,h1⟩:=gG h0
 obtain⟨n0,v0,rfl⟩:=oZ k0
 obtain⟨g1,l1,rfl,k1,h2⟩:=gG h1
 obtain⟨n1,v1,rfl⟩:=qW k1
 obtain⟨g2,l2,rfl,k2,h3⟩:=gG h2
 obtain⟨n2,v2,rfl⟩:=qW k2
 obtain⟨g3,l3,rfl,k3,h4⟩:=gG h3
 obtain⟨n3,v3,rfl⟩:=qW k3
 obtain⟨g4,l4,rfl,k4,h5⟩:=gG h4
 obtain⟨n4,v4,rfl⟩:=oZ k4
 obtain rfl:=zK h5
 rfl
theorem Eh:fsV iy=(#[.string ⟨#[]⟩,.int .i64 0,.int .i64 0,.int .i64 0,.string ⟨#[]⟩]:Array Value):=rfl
theorem LK {w:World} {gf X:Nat} (h:Blk w gf 180 (ni X 0)):zL w gf X iy:=by
 refine⟨fun k nm v hk=>?_⟩
 match k with
 | 0=>injection hk with hk; injection hk with h1 h2; subst h1; subst h2; exact⟨h.cell 0,h.cell 1,h.cell 2⟩
 | 1=>injection hk with hk; injection hk with h1 h2; subst h1; subst h2; exact⟨h.cell 3,h.cell 4,h.cell 5⟩
 | 2=>injection hk with hk; injection hk with h1 h2; subst h1; subst h2; exact⟨h.cell 6,h.cell 7,h.cell 8⟩
 | 3=>injection hk with hk; injection hk with h1 h2; subst h1; subst h2; exact⟨h.cell 9,h.cell 10,h.cell 11⟩
 | 4=>injection hk with hk; injection hk with h1 h2; subst h1; subst h2; exact⟨h.cell 12,h.cell 13,h.cell 14⟩
 | j+5=>cases hk
theorem zM:∀ f ∈ iy,f.1.size≤100:=by decide
theorem NQ (g:Nat) (σ:JS) (name:ByteArray) (w:World) (h:fK w g σ) (hname:name.size≤100) :
 Calls Tryz.prog 40 #[.pointer (some ⟨g,0,none⟩),.string name,.func (.func 41) #[] #[]] w (wu kQ aH 59 5 g (jh name iy σ) w):=by
 have hq1:(⟨(aV name.data.toList).toArray⟩:ByteArray).size≤602:=by show (aV name.data.toList).toArray.size≤602; rw [List.size_toArray]; exact dZ name hname
 have HQ:=hid (kR name w (by omega))
 obtain⟨qs,hqs⟩:∃ qs,(⟨(aV name.data.toList).toArray⟩:ByteArray)=qs:=⟨_,rfl⟩
 have Hqs:=hid (show ((⟨#[44]⟩ ++ qs) ++ ⟨#[58,91]⟩:ByteArray).data.toList=[44] ++ aV name.data.toList ++ [58,91] from by rw [← hqs,ByteArray.toList_data_append,ByteArray.toList_data_append])
 rw [hqs] at hq1 HQ
 have hz1:(⟨#[44]⟩ ++ qs:ByteArray).size=1+qs.size:=ByteArray.size_append ..
 have Ei:¬ 9223372036854775807<1+qs.size:=by omega
 have Ej:¬ 9223372036854775807<1+qs.size+2:=by omega
 have El:¬ 9223372036854775807<(⟨#[44]⟩ ++ qs:ByteArray).size+2:=by omega
 obtain⟨σ1,hσ1⟩:∃ σ1,aX ([44] ++ aV name.data.toList ++ [58,91]) σ=σ1:=⟨_,rfl⟩
 obtain⟨R,hR⟩:∃ R,jh name iy σ=R:=⟨_,rfl⟩
 have HR:=hid (show kC iy (σ1.1.length+1) ([],σ1)=R from by rw [← hR]; unfold jh; rw [hσ1])
 have HS1:=hid (show σ1.1.length≤60000 from by rw [← hσ1]; exact Nat.le_trans (dA _ _) h.len)
 rw [hR]
 have hgl:=h.at_.lt
 have H0:=hid h
 have Hσ1:=hid hσ1
 have heg:=enters_of Tryz.func41 (by kernel_rfl) rfl
 have hE1:=h.err.sne
 have hEs : 2 < w.heap.size:=by obtain⟨t,p,a⟩:=h.err.s; exact block_lt_of_cell a
 have hEr : 3 < w.heap.size:=by obtain⟨t,p,a⟩:=h.err.r; exact block_lt_of_cell a
 obtain⟨W0,hW0⟩:∃ W0,W0=w:=⟨_,rfl⟩
 have HW0:=hid hW0
 clear h hqs hσ1 hR hW0 hE1
 go_enter Tryz.func40,Tryz.ntmps40
 go_wp2_with fail
 refine Calls.mono HQ.out ?_
 rintro e w1 ⟨rfl,hb1⟩
 have HM:=hid (dB g σ ((⟨#[44]⟩ ++ qs) ++ ⟨#[58,91]⟩) w1 (H0.out.up hb1))
 rw [Hqs.out,Hσ1.out] at HM
 have Hb1:=hid hb1
 clear hb1
 go_wp2_with fail
 refine Calls.mono HM.out ?_
 rintro e w2 ⟨rfl,hJ2,hg2⟩
 have HJ2:=hid hJ2
 have Hg2:=hid (aM (aG g Hb1.out) hg2)
 clear hJ2 hg2
 go_wp2_with fail
 go_loopw [7] (fun v wr=>LJ kQ aH iy 59 5 W0 g R v wr) (fun _ wr=>jrM g wr)
 case atStart=>exact⟨none,0,0,[],σ1,_,rfl,rfl,World.ownsRow_nil _ _ _ _,HJ2.out,by rw [HW0.out]; exact Hg2.out,HR.out,fun _=>Nat.lt_succ_self _,by have:=HS1.out; unfold jrN; split <;> omega⟩
 case round=>
  clear HJ2 Hg2 HM HQ Hqs Ei Ej El hz1 hq1
  obtain⟨A,m,cp,out,⟨l,b⟩,N,rfl,hm,ho,hJ,hg,hn,hln,hmb⟩:=hrel
  have fI:g<W0.heap.size:=by rw [HW0.out]; exact hgl
  have Hm0:=hid (pV hJ.at_)
  obtain⟨M0,hM0⟩:∃ M0,jrM g wr=M0:=⟨_,rfl⟩
  rw [hM0] at Hm0 ⊢
  have Ho:=hid ho
  have HJ:=hid hJ
  have Hg:=hid hg
  have x1:wr.cell? ⟨g,1,none⟩=some (.bool b):=Blk.cell hJ.at_ 1
  have P2:=Blk.lt hJ.at_
  have Hmb:=hid hmb
  have Hm:=hid hm
  clear ho hJ hg hM0 hmb hm
  cases b with
  | true=>
   have HE:=hid (show R=(out,l,true) from by rw [← hn,Ge iy N rfl])
   have Hn0:=hid (show m≤60001 from by have:=Hmb.out; omega)
   clear hn
   go_wp2
   go_ret
   rw [HE.out]
   exact⟨A,m,cp,rfl,Hm.out,Hn0.out,by rw [← HW0.out]; exact Ho.out,HJ.out,by rw [← HW0.out]; exact Hg.out⟩
  | false=>
   replace hln:=hln rfl
   obtain⟨n',rfl⟩:∃ n',N=n'+1:=⟨N - 1,by omega⟩
   have HI:=hid (rL g (l,false) ⟨#[93]⟩ wr HJ.out)
   rw [show hasPrefix (l,false).1 (⟨#[93]⟩:ByteArray).data.toList=hasPrefix l [93] from rfl,show trimPrefix (l,false).1 (⟨#[93]⟩:ByteArray).data.toList=trimPrefix l [93] from rfl] at HI
   have Hmn:=hid (show m+(l.length+1)≤60001 from Hmb.out)
   cases h93:hasPrefix l [93] with
   | true=>
    have HE:=hid (Gd hn rfl h93)
    have Hn0:=hid (show m≤60001 from by have:=Hmn.out; omega)
    rw [h93,show trimPrefix l [93]=l.drop 1 from qX h93] at HI
    clear hn h93
    go_wp2_with fail
    refine Calls.mono HI.out ?_
    rintro e w3 ⟨rfl,hJ3,hg3⟩
    have HF:=hid (show wu kQ aH 59 5 g R w (.returned (.slice A m cp)) w3 from by
     rw [HE.out]
     exact⟨A,m,cp,rfl,Hm.out,Hn0.out,by rw [← HW0.out]; exact aD Ho.out hg3 fI,hJ3,by rw [← HW0.out]; exact aM Hg.out hg3⟩)
    clear hJ3 hg3
    go_wp2
    go_ret
    exact HF.out
   | false=>
    rw [h93,uz h93] at HI
    obtain⟨τ1,hτ1⟩:∃ τ1:JS,(if out=[] then ((l,false):JS) else aX [44] (l,false))=τ1:=⟨_,rfl⟩
    have HN:=hid (CI hn rfl h93 τ1 hτ1)
    have Hτl:=hid (show τ1.1.length≤l.length from by rw [← hτ1]; split; exact Nat.le_refl _; exact dA _ _)
    clear hn h93
    go_wp2_with fail
    refine Calls.mono HI.out ?_
    rintro e w3 ⟨rfl,hJ3,hg3⟩
    have Ho3:=hid (aD Ho.out hg3 fI)
    have HJ3:=hid hJ3
    have Hg3:=hid (aM Hg.out hg3)
    clear hJ3 hg3 HI Ho HJ Hg x1
    by_cases hm0:m=0
    · have dm:decide ((0:Int)<(m:Int))=false:=decide_eq_false (by omega)
      have h0m:¬ 0<m:=by omega
      have hτ:τ1=(l,false):=by rw [← hτ1,if_pos (List.length_eq_zero_iff.1 (Hm.out.trans hm0))]
      obtain⟨w4,hw4⟩:∃ w4,w3=w4:=⟨_,rfl⟩
      have HJ4:=hid (show fK w4 g τ1 from by rw [hτ,← hw4]; exact HJ3.out)
      have Ho4:=hid (show w4.ownsRow W0.heap.size 59 5 (.slice A m cp) m (au aH (out.map kQ)) from by rw [← hw4]; exact Ho3.out)
      have Hg4:=hid (show W0.grownBy w4 (some g) from by rw [← hw4]; exact Hg3.out)
      have Hm0':=hid hm0
      clear hm0 hτ hτ1 HJ3 Ho3 Hg3
      subst hw4
      have Hbx:=hid ((Below.refl w3.heap.size w3).alloc (Nat.le_refl _) (.cells #[.string ⟨#[]⟩,.int .i64 0,.int .i64 0,.int .i64 0,.string ⟨#[]⟩] 59))
      have HX:=hid (show Blk (w3.alloc (.cells #[.string ⟨#[]⟩,.int .i64 0,.int .i64 0,.int .i64 0,.string ⟨#[]⟩] 59)) w3.heap.size 59 (fsV iy) from by rw [Eh]; exact heap_alloc_new w3 _)
      have hX0:W0.heap.size≤w3.heap.size:=Hg4.out.size
      have hs0:W0.heap.size=w.heap.size:=by rw [HW0.out]
      have Hs0:=hid hs0
      have HFd:=hid (lC w3.heap.size 0 (w3.alloc (.cells #[.string ⟨#[]⟩,.int .i64 0,.int .i64 0,.int .i64 0,.string ⟨#[]⟩] 59)))
      clear hs0
      go_wp2_with fail
      refine Calls.mono HFd.out ?_
      rintro e w5 ⟨gf,rfl,hgf,hG,hb5⟩
      have LL:w3.heap.size<gf:=by (have:(w3.alloc (.cells #[.string ⟨#[]⟩,.int .i64 0,.int .i64 0,.int .i64 0,.string ⟨#[]⟩] 59)).heap.size=w3.heap.size+1:=by simp); omega
      have HJ5:=hid ((HJ4.out.up Hbx.out).up hb5)
      have HX5:=hid (HX.out.below hb5 HX.out.lt)
      have hg5:=aM (aM Hg4.out (aG g Hbx.out)) (aG g hb5)
      have Ho5:=hid (aD (aD Ho4.out (aG g Hbx.out) fI) (aG g hb5) fI)
      have Hg5:=hid hg5
      have HOb:=hid (jJ g τ1 gf w3.heap.size 5 59 iy w5 HJ5.out HX5.out (LK hG) rfl (by decide) zM (by omega) (by omega) (by omega) (by have:=Hs0.out; omega) (by have:=Hs0.out; omega))
      have Hvk:=hid (fun k (hk:(Value.slice A m cp).ownBlock=some k)=>(Ho4.out.lt k hk).2)
      clear hG hb5 hg5 HFd
      go_wp2_with fail
      refine Calls.mono HOb.out ?_
      rintro e w6 ⟨rfl,hJ6,hX6,hT6⟩
      have Ho6:=hid (rK Ho5.out hT6 fI (fun k hk=>by have:=Hvk.out k hk; omega))
      have HJ6:=hid hJ6
      have Hg6:=hid (mK Hg5.out hT6 hX0)
      obtain⟨fl,hfl⟩:∃ fl,(eG iy τ1).1=fl:=⟨_,rfl⟩
      have iM:=Eg τ1
      rw [hfl] at iM hX6
      rw [iM] at hX6
      obtain⟨itm,nk⟩:∃ itm,kQ fl=itm:=⟨_,rfl⟩
      rw [nk] at hX6
      have zN:=hid nk
      have Hfl:=hid hfl
      obtain⟨f0,f1,f2,f3,f4⟩:=itm
      have HX6:=hid hX6
      have q0:=(show w6.cell? ⟨w3.heap.size,0,none⟩=some (.string f0) from hX6.cell 0)
      have q1:=(show w6.cell? ⟨w3.heap.size,1,none⟩=some (.int .i64 f1) from hX6.cell 1)
      have q2:=(show w6.cell? ⟨w3.heap.size,2,none⟩=some (.int .i64 f2) from hX6.cell 2)
      have q3:=(show w6.cell? ⟨w3.heap.size,3,none⟩=some (.int .i64 f3) from hX6.cell 3)
      have q4:=(show w6.cell? ⟨w3.heap.size,4,none⟩=some (.string f4) from hX6.cell 4)
      have hXl:=hX6.lt
      have hbr:W0.heap.size≤w6.heap.size:=Hg6.out.size
      have hmm:m≤60000:=by have:=Hmn.out; omega
      clear iM hX6 hT6 hJ6 HOb hfl nk
      go_wp2_with (at_builtin; refine fu aH rfl _ _ 22 59 (.agg #[.string ⟨#[]⟩,.int .i64 0,.int .i64 0,.int .i64 0,.string ⟨#[]⟩]) 5 56 rfl Tryz.underlying22 oo rfl (by decide) aN kE W0.heap.size _ _ _ (out.map kQ) rfl Ho6.out _ ⟨f0,f1,f2,f3,f4⟩ rfl _ (by simp) rfl (by omega) (by unfold maxLen; omega) hbr ?_; intro A2 c2 w7 ho7 hg7)
      have hv7:∀ k,(Value.slice A m cp).ownBlock=some k→W0.heap.size≤k:=fun k hk=>(Ho6.out.lt k hk).1
      have HJ7:=hid (show fK w7 g (eG iy τ1).2 from HJ6.out.oY hg7 hv7 fI (by have:=Hs0.out; omega) (by have:=Hs0.out; omega))
      have Hg7:=hid (iN Hg6.out hg7 hv7)
      have HQ7:=hid (pV HJ7.out.at_)
      have Ho7:=hid ho7
      have Hob:=hid (oX iy τ1)
      clear ho7 hg7 q0 q1 q2 q3 q4
      go_wp2_with fail
      go_roundw
      case rel=>exact⟨A2,m+1,c2,out ++ [(eG iy τ1).1],(eG iy τ1).2,n',rfl,by rw [List.length_append,Hm.out]; rfl,by rw [List.map_append,List.map_singleton,Hfl.out,zN.out]; exact Ho7.out,HJ7.out,Hg7.out,HN.out,fun hb=>by
       have h1:=Hob.out
       have h2:=Hτl.out
       unfold jrN at h1
       rw [if_neg (by rw [hb]; simp)] at h1
       omega,by have h1:=Hob.out; have h2:=Hτl.out; have h3:=Hmn.out; omega⟩
      case measure=>rw [HQ7.out,Hm0.out]; have h1:=Hob.out; have h2:=Hτl.out; show jrN _<l.length+1; omega
    · have dm:decide ((0:Int)<(m:Int))=true:=decide_eq_true (by omega)
      have h0m:0<m:=by omega
      have HM:=hid (dB g (l,false) ⟨#[44]⟩ w3 HJ3.out)
      rw [show aX (⟨#[44]⟩:ByteArray).data.toList (l,false)=τ1 from by rw [← hτ1,if_neg (fun e=>hm0 (by rw [← Hm.out,e]; rfl))]] at HM
      clear hm0 hτ1
      go_wp2_with fail
      refine Calls.mono HM.out ?_
      rintro e w4 ⟨rfl,hJ4,hg4⟩
      have HJ4:=hid hJ4
      have Ho4:=hid (aD Ho3.out hg4 fI)
      have Hg4:=hid (aM Hg3.out hg4)
      clear hJ4 hg4 HM HJ3 Ho3 Hg3
      have Hbx:=hid ((Below.refl w4.heap.size w4).alloc (Nat.le_refl _) (.cells #[.string ⟨#[]⟩,.int .i64 0,.int .i64 0,.int .i64 0,.string ⟨#[]⟩] 59))
      have HX:=hid (show Blk (w4.alloc (.cells #[.string ⟨#[]⟩,.int .i64 0,.int .i64 0,.int .i64 0,.string ⟨#[]⟩] 59)) w4.heap.size 59 (fsV iy) from by rw [Eh]; exact heap_alloc_new w4 _)
      have hX0:W0.heap.size≤w4.heap.size:=Hg4.out.size
      have hs0:W0.heap.size=w.heap.size:=by rw [HW0.out]
      have Hs0:=hid hs0
      have HFd:=hid (lC w4.heap.size 0 (w4.alloc (.cells #[.string ⟨#[]⟩,.int .i64 0,.int .i64 0,.int .i64 0,.string ⟨#[]⟩] 59)))
      clear hs0
      go_wp2_with fail
      refine Calls.mono HFd.out ?_
      rintro e w5 ⟨gf,rfl,hgf,hG,hb5⟩
      have LL:w4.heap.size<gf:=by (have:(w4.alloc (.cells #[.string ⟨#[]⟩,.int .i64 0,.int .i64 0,.int .i64 0,.string ⟨#[]⟩] 59)).heap.size=w4.heap.size+1:=by simp); omega
      have HJ5:=hid ((HJ4.out.up Hbx.out).up hb5)
      have HX5:=hid (HX.out.below hb5 HX.out.lt)
      have hg5:=aM (aM Hg4.out (aG g Hbx.out)) (aG g hb5)
      have Ho5:=hid (aD (aD Ho4.out (aG g Hbx.out) fI) (aG g hb5) fI)
      have Hg5:=hid hg5
      have HOb:=hid (jJ g τ1 gf w4.heap.size 5 59 iy w5 HJ5.out HX5.out (LK hG) rfl (by decide) zM (by omega) (by omega) (by omega) (by have:=Hs0.out; omega) (by have:=Hs0.out; omega))
      have Hvk:=hid (fun k (hk:(Value.slice A m cp).ownBlock=some k)=>(Ho4.out.lt k hk).2)
      clear hG hb5 hg5 HFd
      go_wp2_with fail
      refine Calls.mono HOb.out ?_
      rintro e w6 ⟨rfl,hJ6,hX6,hT6⟩
      have Ho6:=hid (rK Ho5.out hT6 fI (fun k hk=>by have:=Hvk.out k hk; omega))
      have HJ6:=hid hJ6
      have Hg6:=hid (mK Hg5.out hT6 hX0)
      obtain⟨fl,hfl⟩:∃ fl,(eG iy τ1).1=fl:=⟨_,rfl⟩
      have iM:=Eg τ1
      rw [hfl] at iM hX6
      rw [iM] at hX6
      obtain⟨itm,nk⟩:∃ itm,kQ fl=itm:=⟨_,rfl⟩
      rw [nk] at hX6
      have zN:=hid nk
      have Hfl:=hid hfl
      obtain⟨f0,f1,f2,f3,f4⟩:=itm
      have HX6:=hid hX6
      have q0:=(show w6.cell? ⟨w4.heap.size,0,none⟩=some (.string f0) from hX6.cell 0)
      have q1:=(show w6.cell? ⟨w4.heap.size,1,none⟩=some (.int .i64 f1) from hX6.cell 1)
      have q2:=(show w6.cell? ⟨w4.heap.size,2,none⟩=some (.int .i64 f2) from hX6.cell 2)
      have q3:=(show w6.cell? ⟨w4.heap.size,3,none⟩=some (.int .i64 f3) from hX6.cell 3)
      have q4:=(show w6.cell? ⟨w4.heap.size,4,none⟩=some (.string f4) from hX6.cell 4)
      have hXl:=hX6.lt
      have hbr:W0.heap.size≤w6.heap.size:=Hg6.out.size
      have hmm:m≤60000:=by have:=Hmn.out; omega
      clear iM hX6 hT6 hJ6 HOb hfl nk
      go_wp2_with (at_builtin; refine fu aH rfl _ _ 22 59 (.agg #[.string ⟨#[]⟩,.int .i64 0,.int .i64 0,.int .i64 0,.string ⟨#[]⟩]) 5 56 rfl Tryz.underlying22 oo rfl (by decide) aN kE W0.heap.size _ _ _ (out.map kQ) rfl Ho6.out _ ⟨f0,f1,f2,f3,f4⟩ rfl _ (by simp) rfl (by omega) (by unfold maxLen; omega) hbr ?_; intro A2 c2 w7 ho7 hg7)
      have hv7:∀ k,(Value.slice A m cp).ownBlock=some k→W0.heap.size≤k:=fun k hk=>(Ho6.out.lt k hk).1
      have HJ7:=hid (show fK w7 g (eG iy τ1).2 from HJ6.out.oY hg7 hv7 fI (by have:=Hs0.out; omega) (by have:=Hs0.out; omega))
      have Hg7:=hid (iN Hg6.out hg7 hv7)
      have HQ7:=hid (pV HJ7.out.at_)
      have Ho7:=hid ho7
      have Hob:=hid (oX iy τ1)
      clear ho7 hg7 q0 q1 q2 q3 q4
      go_wp2_with fail
      go_roundw
      case rel=>exact⟨A2,m+1,c2,out ++ [(eG iy τ1).1],(eG iy τ1).2,n',rfl,by rw [List.length_append,Hm.out]; rfl,by rw [List.map_append,List.map_singleton,Hfl.out,zN.out]; exact Ho7.out,HJ7.out,Hg7.out,HN.out,fun hb=>by
       have h1:=Hob.out
       have h2:=Hτl.out
       unfold jrN at h1
       rw [if_neg (by rw [hb]; simp)] at h1
       omega,by have h1:=Hob.out; have h2:=Hτl.out; have h3:=Hmn.out; omega⟩
      case measure=>rw [HQ7.out,Hm0.out]; have h1:=Hob.out; have h2:=Hτl.out; show jrN _<l.length+1; omega
theorem BG (σ:JS):fsV (eG eI σ).1=(aI (iX (eG eI σ).1)).toArray:=by
 have h0:=zJ eI σ
 rw [show eI.map (fun f=>kindOf f.2)=[false,true,false] from rfl] at h0
 obtain⟨f,hf⟩:∃ f,(eG eI σ).1=f:=⟨_,rfl⟩
 rw [hf] at h0 ⊢
 obtain⟨g0,l0,rfl,k0,h1⟩:=gG h0
 obtain⟨n0,v0,rfl⟩:=oZ k0
 obtain⟨g1,l1,rfl,k1,h2⟩:=gG h1
 obtain⟨n1,v1,rfl⟩:=qW k1
 obtain⟨g2,l2,rfl,k2,h3⟩:=gG h2
 obtain⟨n2,v2,rfl⟩:=oZ k2
 obtain rfl:=zK h3
 rfl
theorem BH:fsV eI=(#[.string ⟨#[]⟩,.int .i64 0,.string ⟨#[]⟩]:Array Value):=rfl
theorem rM :
 (∀ {w:World} {gf X:Nat} (h:Blk w gf 180 (lR X 0)),zL w gf X eI) ∧
 (∀ {w:World} {gf X:Nat} (h:Blk w gf 180 (kg X 0)),zL w gf X cR):=by
 refine⟨@fun w gf X h=>?_,@fun w gf X h=>?_⟩<;>(
 refine⟨fun k nm v hk=>?_⟩
 match k with
 | 0=>injection hk with hk; injection hk with h1 h2; subst h1; subst h2; exact⟨h.cell 0,h.cell 1,h.cell 2⟩
 | 1=>injection hk with hk; injection hk with h1 h2; subst h1; subst h2; exact⟨h.cell 3,h.cell 4,h.cell 5⟩
 | 2=>injection hk with hk; injection hk with h1 h2; subst h1; subst h2; exact⟨h.cell 6,h.cell 7,h.cell 8⟩
 | j+3=>cases hk)
theorem xA:∀ f ∈ eI,f.1.size≤100:=by decide
theorem LM (g:Nat) (σ:JS) (name:ByteArray) (w:World) (h:fK w g σ) (hname:name.size≤100) :
 Calls Tryz.prog 42 #[.pointer (some ⟨g,0,none⟩),.string name,.func (.func 43) #[] #[]] w (wu iX aI 61 3 g (jh name eI σ) w):=by
 have hq1:(⟨(aV name.data.toList).toArray⟩:ByteArray).size≤602:=by show (aV name.data.toList).toArray.size≤602; rw [List.size_toArray]; exact dZ name hname
 have HQ:=hid (kR name w (by omega))
 obtain⟨qs,hqs⟩:∃ qs,(⟨(aV name.data.toList).toArray⟩:ByteArray)=qs:=⟨_,rfl⟩
 have Hqs:=hid (show ((⟨#[44]⟩ ++ qs) ++ ⟨#[58,91]⟩:ByteArray).data.toList=[44] ++ aV name.data.toList ++ [58,91] from by rw [← hqs,ByteArray.toList_data_append,ByteArray.toList_data_append])
 rw [hqs] at hq1 HQ
 have hz1:(⟨#[44]⟩ ++ qs:ByteArray).size=1+qs.size:=ByteArray.size_append ..
 have Ei:¬ 9223372036854775807<1+qs.size:=by omega
 have Ej:¬ 9223372036854775807<1+qs.size+2:=by omega
 have El:¬ 9223372036854775807<(⟨#[44]⟩ ++ qs:ByteArray).size+2:=by omega
 obtain⟨σ1,hσ1⟩:∃ σ1,aX ([44] ++ aV name.data.toList ++ [58,91]) σ=σ1:=⟨_,rfl⟩
 obtain⟨R,hR⟩:∃ R,jh name eI σ=R:=⟨_,rfl⟩
 have HR:=hid (show kC eI (σ1.1.length+1) ([],σ1)=R from by rw [← hR]; unfold jh; rw [hσ1])
 have HS1:=hid (show σ1.1.length≤60000 from by rw [← hσ1]; exact Nat.le_trans (dA _ _) h.len)
 rw [hR]
 have hgl:=h.at_.lt
 have H0:=hid h
 have Hσ1:=hid hσ1
 have heg:=enters_of Tryz.func43 (by kernel_rfl) rfl
 have hE1:=h.err.sne
 have hEs : 2 < w.heap.size:=by obtain⟨t,p,a⟩:=h.err.s; exact block_lt_of_cell a
 have hEr : 3 < w.heap.size:=by obtain⟨t,p,a⟩:=h.err.r; exact block_lt_of_cell a
 obtain⟨W0,hW0⟩:∃ W0,W0=w:=⟨_,rfl⟩
 have HW0:=hid hW0
 clear h hqs hσ1 hR hW0 hE1
 go_enter Tryz.func42,Tryz.ntmps42
 go_wp2_with fail
 refine Calls.mono HQ.out ?_
 rintro e w1 ⟨rfl,hb1⟩
 have HM:=hid (dB g σ ((⟨#[44]⟩ ++ qs) ++ ⟨#[58,91]⟩) w1 (H0.out.up hb1))
 rw [Hqs.out,Hσ1.out] at HM
 have Hb1:=hid hb1
 clear hb1
 go_wp2_with fail
 refine Calls.mono HM.out ?_
 rintro e w2 ⟨rfl,hJ2,hg2⟩
 have HJ2:=hid hJ2
 have Hg2:=hid (aM (aG g Hb1.out) hg2)
 clear hJ2 hg2
 go_wp2_with fail
 go_loopw [7] (fun v wr=>LJ iX aI eI 61 3 W0 g R v wr) (fun _ wr=>jrM g wr)
 case atStart=>exact⟨none,0,0,[],σ1,_,rfl,rfl,World.ownsRow_nil _ _ _ _,HJ2.out,by rw [HW0.out]; exact Hg2.out,HR.out,fun _=>Nat.lt_succ_self _,by have:=HS1.out; unfold jrN; split <;> omega⟩
 case round=>
  clear HJ2 Hg2 HM HQ Hqs Ei Ej El hz1 hq1
  obtain⟨A,m,cp,out,⟨l,b⟩,N,rfl,hm,ho,hJ,hg,hn,hln,hmb⟩:=hrel
  have fI:g<W0.heap.size:=by rw [HW0.out]; exact hgl
  have Hm0:=hid (pV hJ.at_)
  obtain⟨M0,hM0⟩:∃ M0,jrM g wr=M0:=⟨_,rfl⟩
  rw [hM0] at Hm0 ⊢
  have Ho:=hid ho
  have HJ:=hid hJ
  have Hg:=hid hg
  have x1:wr.cell? ⟨g,1,none⟩=some (.bool b):=Blk.cell hJ.at_ 1
  have P2:=Blk.lt hJ.at_
  have Hmb:=hid hmb
  have Hm:=hid hm
  clear ho hJ hg hM0 hmb hm
  cases b with
  | true=>
   have HE:=hid (show R=(out,l,true) from by rw [← hn,Ge eI N rfl])
   have Hn0:=hid (show m≤60001 from by have:=Hmb.out; omega)
   clear hn
   go_wp2
   go_ret
   rw [HE.out]
   exact⟨A,m,cp,rfl,Hm.out,Hn0.out,by rw [← HW0.out]; exact Ho.out,HJ.out,by rw [← HW0.out]; exact Hg.out⟩
  | false=>
   replace hln:=hln rfl
   obtain⟨n',rfl⟩:∃ n',N=n'+1:=⟨N - 1,by omega⟩
   have HI:=hid (rL g (l,false) ⟨#[93]⟩ wr HJ.out)
   rw [show hasPrefix (l,false).1 (⟨#[93]⟩:ByteArray).data.toList=hasPrefix l [93] from rfl,show trimPrefix (l,false).1 (⟨#[93]⟩:ByteArray).data.toList=trimPrefix l [93] from rfl] at HI
   have Hmn:=hid (show m+(l.length+1)≤60001 from Hmb.out)
   cases h93:hasPrefix l [93] with
   | true=>
    have HE:=hid (Gd hn rfl h93)
    have Hn0:=hid (show m≤60001 from by have:=Hmn.out; omega)
    rw [h93,show trimPrefix l [93]=l.drop 1 from qX h93] at HI
    clear hn h93
    go_wp2_with fail
    refine Calls.mono HI.out ?_
    rintro e w3 ⟨rfl,hJ3,hg3⟩
    have HF:=hid (show wu iX aI 61 3 g R w (.returned (.slice A m cp)) w3 from by
     rw [HE.out]
     exact⟨A,m,cp,rfl,Hm.out,Hn0.out,by rw [← HW0.out]; exact aD Ho.out hg3 fI,hJ3,by rw [← HW0.out]; exact aM Hg.out hg3⟩)
    clear hJ3 hg3
    go_wp2
    go_ret
    exact HF.out
   | false=>
    rw [h93,uz h93] at HI
    obtain⟨τ1,hτ1⟩:∃ τ1:JS,(if out=[] then ((l,false):JS) else aX [44] (l,false))=τ1:=⟨_,rfl⟩
    have HN:=hid (CI hn rfl h93 τ1 hτ1)
    have Hτl:=hid (show τ1.1.length≤l.length from by rw [← hτ1]; split; exact Nat.le_refl _; exact dA _ _)
    clear hn h93
    go_wp2_with fail
    refine Calls.mono HI.out ?_
    rintro e w3 ⟨rfl,hJ3,hg3⟩
    have Ho3:=hid (aD Ho.out hg3 fI)
    have HJ3:=hid hJ3
    have Hg3:=hid (aM Hg.out hg3)
    clear hJ3 hg3 HI Ho HJ Hg x1
    by_cases hm0:m=0
    · have dm:decide ((0:Int)<(m:Int))=false:=decide_eq_false (by omega)
      have h0m:¬ 0<m:=by omega
      have hτ:τ1=(l,false):=by rw [← hτ1,if_pos (List.length_eq_zero_iff.1 (Hm.out.trans hm0))]
      obtain⟨w4,hw4⟩:∃ w4,w3=w4:=⟨_,rfl⟩
      have HJ4:=hid (show fK w4 g τ1 from by rw [hτ,← hw4]; exact HJ3.out)
      have Ho4:=hid (show w4.ownsRow W0.heap.size 61 3 (.slice A m cp) m (au aI (out.map iX)) from by rw [← hw4]; exact Ho3.out)
      have Hg4:=hid (show W0.grownBy w4 (some g) from by rw [← hw4]; exact Hg3.out)
      have Hm0':=hid hm0
      clear hm0 hτ hτ1 HJ3 Ho3 Hg3
      subst hw4
      have Hbx:=hid ((Below.refl w3.heap.size w3).alloc (Nat.le_refl _) (.cells #[.string ⟨#[]⟩,.int .i64 0,.string ⟨#[]⟩] 61))
      have HX:=hid (show Blk (w3.alloc (.cells #[.string ⟨#[]⟩,.int .i64 0,.string ⟨#[]⟩] 61)) w3.heap.size 61 (fsV eI) from by rw [BH]; exact heap_alloc_new w3 _)
      have hX0:W0.heap.size≤w3.heap.size:=Hg4.out.size
      have hs0:W0.heap.size=w.heap.size:=by rw [HW0.out]
      have Hs0:=hid hs0
      have HFd:=hid (dz.1 w3.heap.size 0 (w3.alloc (.cells #[.string ⟨#[]⟩,.int .i64 0,.string ⟨#[]⟩] 61)))
      clear hs0
      go_wp2_with fail
      refine Calls.mono HFd.out ?_
      rintro e w5 ⟨gf,rfl,hgf,hG,hb5⟩
      have LL:w3.heap.size<gf:=by (have:(w3.alloc (.cells #[.string ⟨#[]⟩,.int .i64 0,.string ⟨#[]⟩] 61)).heap.size=w3.heap.size+1:=by simp); omega
      have HJ5:=hid ((HJ4.out.up Hbx.out).up hb5)
      have HX5:=hid (HX.out.below hb5 HX.out.lt)
      have hg5:=aM (aM Hg4.out (aG g Hbx.out)) (aG g hb5)
      have Ho5:=hid (aD (aD Ho4.out (aG g Hbx.out) fI) (aG g hb5) fI)
      have Hg5:=hid hg5
      have HOb:=hid (jJ g τ1 gf w3.heap.size 3 61 eI w5 HJ5.out HX5.out (rM.1 hG) rfl (by decide) xA (by omega) (by omega) (by omega) (by have:=Hs0.out; omega) (by have:=Hs0.out; omega))
      have Hvk:=hid (fun k (hk:(Value.slice A m cp).ownBlock=some k)=>(Ho4.out.lt k hk).2)
      clear hG hb5 hg5 HFd
      go_wp2_with fail
      refine Calls.mono HOb.out ?_
      rintro e w6 ⟨rfl,hJ6,hX6,hT6⟩
      have Ho6:=hid (rK Ho5.out hT6 fI (fun k hk=>by have:=Hvk.out k hk; omega))
      have HJ6:=hid hJ6
      have Hg6:=hid (mK Hg5.out hT6 hX0)
      obtain⟨fl,hfl⟩:∃ fl,(eG eI τ1).1=fl:=⟨_,rfl⟩
      have iM:=BG τ1
      rw [hfl] at iM hX6
      rw [iM] at hX6
      obtain⟨itm,nk⟩:∃ itm,iX fl=itm:=⟨_,rfl⟩
      rw [nk] at hX6
      have zN:=hid nk
      have Hfl:=hid hfl
      obtain⟨f0,f1,f2⟩:=itm
      have HX6:=hid hX6
      have q0:=(show w6.cell? ⟨w3.heap.size,0,none⟩=some (.string f0) from hX6.cell 0)
      have q1:=(show w6.cell? ⟨w3.heap.size,1,none⟩=some (.int .i64 f1) from hX6.cell 1)
      have q2:=(show w6.cell? ⟨w3.heap.size,2,none⟩=some (.string f2) from hX6.cell 2)
      have hXl:=hX6.lt
      have hbr:W0.heap.size≤w6.heap.size:=Hg6.out.size
      have hmm:m≤60000:=by have:=Hmn.out; omega
      clear iM hX6 hT6 hJ6 HOb hfl nk
      go_wp2_with (at_builtin; refine fu aI rfl _ _ 23 61 (.agg #[.string ⟨#[]⟩,.int .i64 0,.string ⟨#[]⟩]) 3 40 rfl Tryz.underlying23 mD rfl (by decide) bF jv W0.heap.size _ _ _ (out.map iX) rfl Ho6.out _ ⟨f0,f1,f2⟩ rfl _ (by simp) rfl (by omega) (by unfold maxLen; omega) hbr ?_; intro A2 c2 w7 ho7 hg7)
      have hv7:∀ k,(Value.slice A m cp).ownBlock=some k→W0.heap.size≤k:=fun k hk=>(Ho6.out.lt k hk).1
      have HJ7:=hid (show fK w7 g (eG eI τ1).2 from HJ6.out.oY hg7 hv7 fI (by have:=Hs0.out; omega) (by have:=Hs0.out; omega))
      have Hg7:=hid (iN Hg6.out hg7 hv7)
      have HQ7:=hid (pV HJ7.out.at_)
      have Ho7:=hid ho7
      have Hob:=hid (oX eI τ1)
      clear ho7 hg7 q0 q1 q2
      go_wp2_with fail
      go_roundw
      case rel=>exact⟨A2,m+1,c2,out ++ [(eG eI τ1).1],(eG eI τ1).2,n',rfl,by rw [List.length_append,Hm.out]; rfl,by rw [List.map_append,List.map_singleton,Hfl.out,zN.out]; exact Ho7.out,HJ7.out,Hg7.out,HN.out,fun hb=>by
       have h1:=Hob.out
       have h2:=Hτl.out
       unfold jrN at h1
       rw [if_neg (by rw [hb]; simp)] at h1
       omega,by have h1:=Hob.out; have h2:=Hτl.out; have h3:=Hmn.out; omega⟩
      case measure=>rw [HQ7.out,Hm0.out]; have h1:=Hob.out; have h2:=Hτl.out; show jrN _<l.length+1; omega
    · have dm:decide ((0:Int)<(m:Int))=true:=decide_eq_true (by omega)
      have h0m:0<m:=by omega
      have HM:=hid (dB g (l,false) ⟨#[44]⟩ w3 HJ3.out)
      rw [show aX (⟨#[44]⟩:ByteArray).data.toList (l,false)=τ1 from by rw [← hτ1,if_neg (fun e=>hm0 (by rw [← Hm.out,e]; rfl))]] at HM
      clear hm0 hτ1
      go_wp2_with fail
      refine Calls.mono HM.out ?_
      rintro e w4 ⟨rfl,hJ4,hg4⟩
      have HJ4:=hid hJ4
      have Ho4:=hid (aD Ho3.out hg4 fI)
      have Hg4:=hid (aM Hg3.out hg4)
      clear hJ4 hg4 HM HJ3 Ho3 Hg3
      have Hbx:=hid ((Below.refl w4.heap.size w4).alloc (Nat.le_refl _) (.cells #[.string ⟨#[]⟩,.int .i64 0,.string ⟨#[]⟩] 61))
      have HX:=hid (show Blk (w4.alloc (.cells #[.string ⟨#[]⟩,.int .i64 0,.string ⟨#[]⟩] 61)) w4.heap.size 61 (fsV eI) from by rw [BH]; exact heap_alloc_new w4 _)
      have hX0:W0.heap.size≤w4.heap.size:=Hg4.out.size
      have hs0:W0.heap.size=w.heap.size:=by rw [HW0.out]
      have Hs0:=hid hs0
      have HFd:=hid (dz.1 w4.heap.size 0 (w4.alloc (.cells #[.string ⟨#[]⟩,.int .i64 0,.string ⟨#[]⟩] 61)))
      clear hs0
      go_wp2_with fail
      refine Calls.mono HFd.out ?_
      rintro e w5 ⟨gf,rfl,hgf,hG,hb5⟩
      have LL:w4.heap.size<gf:=by (have:(w4.alloc (.cells #[.string ⟨#[]⟩,.int .i64 0,.string ⟨#[]⟩] 61)).heap.size=w4.heap.size+1:=by simp); omega
      have HJ5:=hid ((HJ4.out.up Hbx.out).up hb5)
      have HX5:=hid (HX.out.below hb5 HX.out.lt)
      have hg5:=aM (aM Hg4.out (aG g Hbx.out)) (aG g hb5)
      have Ho5:=hid (aD (aD Ho4.out (aG g Hbx.out) fI) (aG g hb5) fI)
      have Hg5:=hid hg5
      have HOb:=hid (jJ g τ1 gf w4.heap.size 3 61 eI w5 HJ5.out HX5.out (rM.1 hG) rfl (by decide) xA (by omega) (by omega) (by omega) (by have:=Hs0.out; omega) (by have:=Hs0.out; omega))
      have Hvk:=hid (fun k (hk:(Value.slice A m cp).ownBlock=some k)=>(Ho4.out.lt k hk).2)
      clear hG hb5 hg5 HFd
      go_wp2_with fail
      refine Calls.mono HOb.out ?_
      rintro e w6 ⟨rfl,hJ6,hX6,hT6⟩
      have Ho6:=hid (rK Ho5.out hT6 fI (fun k hk=>by have:=Hvk.out k hk; omega))
      have HJ6:=hid hJ6
      have Hg6:=hid (mK Hg5.out hT6 hX0)
      obtain⟨fl,hfl⟩:∃ fl,(eG eI τ1).1=fl:=⟨_,rfl⟩
      have iM:=BG τ1
      rw [hfl] at iM hX6
      rw [iM] at hX6
      obtain⟨itm,nk⟩:∃ itm,iX fl=itm:=⟨_,rfl⟩
      rw [nk] at hX6
      have zN:=hid nk
      have Hfl:=hid hfl
      obtain⟨f0,f1,f2⟩:=itm
      have HX6:=hid hX6
      have q0:=(show w6.cell? ⟨w4.heap.size,0,none⟩=some (.string f0) from hX6.cell 0)
      have q1:=(show w6.cell? ⟨w4.heap.size,1,none⟩=some (.int .i64 f1) from hX6.cell 1)
      have q2:=(show w6.cell? ⟨w4.heap.size,2,none⟩=some (.string f2) from hX6.cell 2)
      have hXl:=hX6.lt
      have hbr:W0.heap.size≤w6.heap.size:=Hg6.out.size
      have hmm:m≤60000:=by have:=Hmn.out; omega
      clear iM hX6 hT6 hJ6 HOb hfl nk
      go_wp2_with (at_builtin; refine fu aI rfl _ _ 23 61 (.agg #[.string ⟨#[]⟩,.int .i64 0,.string ⟨#[]⟩]) 3 40 rfl Tryz.underlying23 mD rfl (by decide) bF jv W0.heap.size _ _ _ (out.map iX) rfl Ho6.out _ ⟨f0,f1,f2⟩ rfl _ (by simp) rfl (by omega) (by unfold maxLen; omega) hbr ?_; intro A2 c2 w7 ho7 hg7)
      have hv7:∀ k,(Value.slice A m cp).ownBlock=some k→W0.heap.size≤k:=fun k hk=>(Ho6.out.lt k hk).1
      have HJ7:=hid (show fK w7 g (eG eI τ1).2 from HJ6.out.oY hg7 hv7 fI (by have:=Hs0.out; omega) (by have:=Hs0.out; omega))
      have Hg7:=hid (iN Hg6.out hg7 hv7)
      have HQ7:=hid (pV HJ7.out.at_)
      have Ho7:=hid ho7
      have Hob:=hid (oX eI τ1)
      clear ho7 hg7 q0 q1 q2
      go_wp2_with fail
      go_roundw
      case rel=>exact⟨A2,m+1,c2,out ++ [(eG eI τ1).1],(eG eI τ1).2,n',rfl,by rw [List.length_append,Hm.out]; rfl,by rw [List.map_append,List.map_singleton,Hfl.out,zN.out]; exact Ho7.out,HJ7.out,Hg7.out,HN.out,fun hb=>by
       have h1:=Hob.out
       have h2:=Hτl.out
       unfold jrN at h1
       rw [if_neg (by rw [hb]; simp)] at h1
       omega,by have h1:=Hob.out; have h2:=Hτl.out; have h3:=Hmn.out; omega⟩
      case measure=>rw [HQ7.out,Hm0.out]; have h1:=Hob.out; have h2:=Hτl.out; show jrN _<l.length+1; omega
theorem zO (σ:JS):fsV (eG cR σ).1=(aE (gH (eG cR σ).1)).toArray:=by
 have h0:=zJ cR σ
 rw [show cR.map (fun f=>kindOf f.2)=[false,false,true] from rfl] at h0
 obtain⟨f,hf⟩:∃ f,(eG cR σ).1=f:=⟨_,rfl⟩
 rw [hf] at h0 ⊢
 obtain⟨g0,l0,rfl,k0,h1⟩:=gG h0
 obtain⟨n0,v0,rfl⟩:=oZ k0
 obtain⟨g1,l1,rfl,k1,h2⟩:=gG h1
 obtain⟨n1,v1,rfl⟩:=oZ k1
 obtain⟨g2,l2,rfl,k2,h3⟩:=gG h2
 obtain⟨n2,v2,rfl⟩:=qW k2
 obtain rfl:=zK h3
 rfl
theorem zP:fsV cR=(#[.string ⟨#[]⟩,.string ⟨#[]⟩,.int .i64 0]:Array Value):=rfl
theorem uA:∀ f ∈ cR,f.1.size≤100:=by decide
theorem Jw (g:Nat) (σ:JS) (name:ByteArray) (w:World) (h:fK w g σ) (hname:name.size≤100) :
 Calls Tryz.prog 44 #[.pointer (some ⟨g,0,none⟩),.string name,.func (.func 45) #[] #[]] w (wu gH aE 63 3 g (jh name cR σ) w):=by
 have hq1:(⟨(aV name.data.toList).toArray⟩:ByteArray).size≤602:=by show (aV name.data.toList).toArray.size≤602; rw [List.size_toArray]; exact dZ name hname
 have HQ:=hid (kR name w (by omega))
 obtain⟨qs,hqs⟩:∃ qs,(⟨(aV name.data.toList).toArray⟩:ByteArray)=qs:=⟨_,rfl⟩
 have Hqs:=hid (show ((⟨#[44]⟩ ++ qs) ++ ⟨#[58,91]⟩:ByteArray).data.toList=[44] ++ aV name.data.toList ++ [58,91] from by rw [← hqs,ByteArray.toList_data_append,ByteArray.toList_data_append])
 rw [hqs] at hq1 HQ
 have hz1:(⟨#[44]⟩ ++ qs:ByteArray).size=1+qs.size:=ByteArray.size_append ..
 have Ei:¬ 9223372036854775807<1+qs.size:=by omega
 have Ej:¬ 9223372036854775807<1+qs.size+2:=by omega
 have El:¬ 9223372036854775807<(⟨#[44]⟩ ++ qs:ByteArray).size+2:=by omega
 obtain⟨σ1,hσ1⟩:∃ σ1,aX ([44] ++ aV name.data.toList ++ [58,91]) σ=σ1:=⟨_,rfl⟩
 obtain⟨R,hR⟩:∃ R,jh name cR σ=R:=⟨_,rfl⟩
 have HR:=hid (show kC cR (σ1.1.length+1) ([],σ1)=R from by rw [← hR]; unfold jh; rw [hσ1])
 have HS1:=hid (show σ1.1.length≤60000 from by rw [← hσ1]; exact Nat.le_trans (dA _ _) h.len)
 rw [hR]
 have hgl:=h.at_.lt
 have H0:=hid h
 have Hσ1:=hid hσ1
 have heg:=enters_of Tryz.func45 (by kernel_rfl) rfl
 have hE1:=h.err.sne
 have hEs : 2 < w.heap.size:=by obtain⟨t,p,a⟩:=h.err.s; exact block_lt_of_cell a
 have hEr : 3 < w.heap.size:=by obtain⟨t,p,a⟩:=h.err.r; exact block_lt_of_cell a
 obtain⟨W0,hW0⟩:∃ W0,W0=w:=⟨_,rfl⟩
 have HW0:=hid hW0
 clear h hqs hσ1 hR hW0 hE1
 go_enter Tryz.func44,Tryz.ntmps44
 go_wp2_with fail
 refine Calls.mono HQ.out ?_
 rintro e w1 ⟨rfl,hb1⟩
 have HM:=hid (dB g σ ((⟨#[44]⟩ ++ qs) ++ ⟨#[58,91]⟩) w1 (H0.out.up hb1))
 rw [Hqs.out,Hσ1.out] at HM
 have Hb1:=hid hb1
 clear hb1
 go_wp2_with fail
 refine Calls.mono HM.out ?_
 rintro e w2 ⟨rfl,hJ2,hg2⟩
 have HJ2:=hid hJ2
 have Hg2:=hid (aM (aG g Hb1.out) hg2)
 clear hJ2 hg2
 go_wp2_with fail
 go_loopw [7] (fun v wr=>LJ gH aE cR 63 3 W0 g R v wr) (fun _ wr=>jrM g wr)
 case atStart=>exact⟨none,0,0,[],σ1,_,rfl,rfl,World.ownsRow_nil _ _ _ _,HJ2.out,by rw [HW0.out]; exact Hg2.out,HR.out,fun _=>Nat.lt_succ_self _,by have:=HS1.out; unfold jrN; split <;> omega⟩
 case round=>
  clear HJ2 Hg2 HM HQ Hqs Ei Ej El hz1 hq1
  obtain⟨A,m,cp,out,⟨l,b⟩,N,rfl,hm,ho,hJ,hg,hn,hln,hmb⟩:=hrel
  have fI:g<W0.heap.size:=by rw [HW0.out]; exact hgl
  have Hm0:=hid (pV hJ.at_)
  obtain⟨M0,hM0⟩:∃ M0,jrM g wr=M0:=⟨_,rfl⟩
  rw [hM0] at Hm0 ⊢
  have Ho:=hid ho
  have HJ:=hid hJ
  have Hg:=hid hg
  have x1:wr.cell? ⟨g,1,none⟩=some (.bool b):=Blk.cell hJ.at_ 1
  have P2:=Blk.lt hJ.at_
  have Hmb:=hid hmb
  have Hm:=hid hm
  clear ho hJ hg hM0 hmb hm
  cases b with
  | true=>
   have HE:=hid (show R=(out,l,true) from by rw [← hn,Ge cR N rfl])
   have Hn0:=hid (show m≤60001 from by have:=Hmb.out; omega)
   clear hn
   go_wp2
   go_ret
   rw [HE.out]
   exact⟨A,m,cp,rfl,Hm.out,Hn0.out,by rw [← HW0.out]; exact Ho.out,HJ.out,by rw [← HW0.out]; exact Hg.out⟩
  | false=>
   replace hln:=hln rfl
   obtain⟨n',rfl⟩:∃ n',N=n'+1:=⟨N - 1,by omega⟩
   have HI:=hid (rL g (l,false) ⟨#[93]⟩ wr HJ.out)
   rw [show hasPrefix (l,false).1 (⟨#[93]⟩:ByteArray).data.toList=hasPrefix l [93] from rfl,show trimPrefix (l,false).1 (⟨#[93]⟩:ByteArray).data.toList=trimPrefix l [93] from rfl] at HI
   have Hmn:=hid (show m+(l.length+1)≤60001 from Hmb.out)
   cases h93:hasPrefix l [93] with
   | true=>
    have HE:=hid (Gd hn rfl h93)
    have Hn0:=hid (show m≤60001 from by have:=Hmn.out; omega)
    rw [h93,show trimPrefix l [93]=l.drop 1 from qX h93] at HI
    clear hn h93
    go_wp2_with fail
    refine Calls.mono HI.out ?_
    rintro e w3 ⟨rfl,hJ3,hg3⟩
    have HF:=hid (show wu gH aE 63 3 g R w (.returned (.slice A m cp)) w3 from by
     rw [HE.out]
     exact⟨A,m,cp,rfl,Hm.out,Hn0.out,by rw [← HW0.out]; exact aD Ho.out hg3 fI,hJ3,by rw [← HW0.out]; exact aM Hg.out hg3⟩)
    clear hJ3 hg3
    go_wp2
    go_ret
    exact HF.out
   | false=>
    rw [h93,uz h93] at HI
    obtain⟨τ1,hτ1⟩:∃ τ1:JS,(if out=[] then ((l,false):JS) else aX [44] (l,false))=τ1:=⟨_,rfl⟩
    have HN:=hid (CI hn rfl h93 τ1 hτ1)
    have Hτl:=hid (show τ1.1.length≤l.length from by rw [← hτ1]; split; exact Nat.le_refl _; exact dA _ _)
    clear hn h93
    go_wp2_with fail
    refine Calls.mono HI.out ?_
    rintro e w3 ⟨rfl,hJ3,hg3⟩
    have Ho3:=hid (aD Ho.out hg3 fI)
    have HJ3:=hid hJ3
    have Hg3:=hid (aM Hg.out hg3)
    clear hJ3 hg3 HI Ho HJ Hg x1
    by_cases hm0:m=0
    · have dm:decide ((0:Int)<(m:Int))=false:=decide_eq_false (by omega)
      have h0m:¬ 0<m:=by omega
      have hτ:τ1=(l,false):=by rw [← hτ1,if_pos (List.length_eq_zero_iff.1 (Hm.out.trans hm0))]
      obtain⟨w4,hw4⟩:∃ w4,w3=w4:=⟨_,rfl⟩
      have HJ4:=hid (show fK w4 g τ1 from by rw [hτ,← hw4]; exact HJ3.out)
      have Ho4:=hid (show w4.ownsRow W0.heap.size 63 3 (.slice A m cp) m (au aE (out.map gH)) from by rw [← hw4]; exact Ho3.out)
      have Hg4:=hid (show W0.grownBy w4 (some g) from by rw [← hw4]; exact Hg3.out)
      have Hm0':=hid hm0
      clear hm0 hτ hτ1 HJ3 Ho3 Hg3
      subst hw4
      have Hbx:=hid ((Below.refl w3.heap.size w3).alloc (Nat.le_refl _) (.cells #[.string ⟨#[]⟩,.string ⟨#[]⟩,.int .i64 0] 63))
      have HX:=hid (show Blk (w3.alloc (.cells #[.string ⟨#[]⟩,.string ⟨#[]⟩,.int .i64 0] 63)) w3.heap.size 63 (fsV cR) from by rw [zP]; exact heap_alloc_new w3 _)
      have hX0:W0.heap.size≤w3.heap.size:=Hg4.out.size
      have hs0:W0.heap.size=w.heap.size:=by rw [HW0.out]
      have Hs0:=hid hs0
      have HFd:=hid (dz.2 w3.heap.size 0 (w3.alloc (.cells #[.string ⟨#[]⟩,.string ⟨#[]⟩,.int .i64 0] 63)))
      clear hs0
      go_wp2_with fail
      refine Calls.mono HFd.out ?_
      rintro e w5 ⟨gf,rfl,hgf,hG,hb5⟩
      have LL:w3.heap.size<gf:=by (have:(w3.alloc (.cells #[.string ⟨#[]⟩,.string ⟨#[]⟩,.int .i64 0] 63)).heap.size=w3.heap.size+1:=by simp); omega
      have HJ5:=hid ((HJ4.out.up Hbx.out).up hb5)
      have HX5:=hid (HX.out.below hb5 HX.out.lt)
      have hg5:=aM (aM Hg4.out (aG g Hbx.out)) (aG g hb5)
      have Ho5:=hid (aD (aD Ho4.out (aG g Hbx.out) fI) (aG g hb5) fI)
      have Hg5:=hid hg5
      have HOb:=hid (jJ g τ1 gf w3.heap.size 3 63 cR w5 HJ5.out HX5.out (rM.2 hG) rfl (by decide) uA (by omega) (by omega) (by omega) (by have:=Hs0.out; omega) (by have:=Hs0.out; omega))
      have Hvk:=hid (fun k (hk:(Value.slice A m cp).ownBlock=some k)=>(Ho4.out.lt k hk).2)
      clear hG hb5 hg5 HFd
      go_wp2_with fail
      refine Calls.mono HOb.out ?_
      rintro e w6 ⟨rfl,hJ6,hX6,hT6⟩
      have Ho6:=hid (rK Ho5.out hT6 fI (fun k hk=>by have:=Hvk.out k hk; omega))
      have HJ6:=hid hJ6
      have Hg6:=hid (mK Hg5.out hT6 hX0)
      obtain⟨fl,hfl⟩:∃ fl,(eG cR τ1).1=fl:=⟨_,rfl⟩
      have iM:=zO τ1
      rw [hfl] at iM hX6
      rw [iM] at hX6
      obtain⟨itm,nk⟩:∃ itm,gH fl=itm:=⟨_,rfl⟩
      rw [nk] at hX6
      have zN:=hid nk
      have Hfl:=hid hfl
      obtain⟨f0,f1,f2⟩:=itm
      have HX6:=hid hX6
      have q0:=(show w6.cell? ⟨w3.heap.size,0,none⟩=some (.string f0) from hX6.cell 0)
      have q1:=(show w6.cell? ⟨w3.heap.size,1,none⟩=some (.string f1) from hX6.cell 1)
      have q2:=(show w6.cell? ⟨w3.heap.size,2,none⟩=some (.int .i64 f2) from hX6.cell 2)
      have hXl:=hX6.lt
      have hbr:W0.heap.size≤w6.heap.size:=Hg6.out.size
      have hmm:m≤60000:=by have:=Hmn.out; omega
      clear iM hX6 hT6 hJ6 HOb hfl nk
      go_wp2_with (at_builtin; refine fu aE rfl _ _ 24 63 (.agg #[.string ⟨#[]⟩,.string ⟨#[]⟩,.int .i64 0]) 3 40 rfl Tryz.underlying24 kD rfl (by decide) bB iA W0.heap.size _ _ _ (out.map gH) rfl Ho6.out _ ⟨f0,f1,f2⟩ rfl _ (by simp) rfl (by omega) (by unfold maxLen; omega) hbr ?_; intro A2 c2 w7 ho7 hg7)
      have hv7:∀ k,(Value.slice A m cp).ownBlock=some k→W0.heap.size≤k:=fun k hk=>(Ho6.out.lt k hk).1
      have HJ7:=hid (show fK w7 g (eG cR τ1).2 from HJ6.out.oY hg7 hv7 fI (by have:=Hs0.out; omega) (by have:=Hs0.out; omega))
      have Hg7:=hid (iN Hg6.out hg7 hv7)
      have HQ7:=hid (pV HJ7.out.at_)
      have Ho7:=hid ho7
      have Hob:=hid (oX cR τ1)
      clear ho7 hg7 q0 q1 q2
      go_wp2_with fail
      go_roundw
      case rel=>exact⟨A2,m+1,c2,out ++ [(eG cR τ1).1],(eG cR τ1).2,n',rfl,by rw [List.length_append,Hm.out]; rfl,by rw [List.map_append,List.map_singleton,Hfl.out,zN.out]; exact Ho7.out,HJ7.out,Hg7.out,HN.out,fun hb=>by
       have h1:=Hob.out
       have h2:=Hτl.out
       unfold jrN at h1
       rw [if_neg (by rw [hb]; simp)] at h1
       omega,by have h1:=Hob.out; have h2:=Hτl.out; have h3:=Hmn.out; omega⟩
      case measure=>rw [HQ7.out,Hm0.out]; have h1:=Hob.out; have h2:=Hτl.out; show jrN _<l.length+1; omega
    · have dm:decide ((0:Int)<(m:Int))=true:=decide_eq_true (by omega)
      have h0m:0<m:=by omega
      have HM:=hid (dB g (l,false) ⟨#[44]⟩ w3 HJ3.out)
      rw [show aX (⟨#[44]⟩:ByteArray).data.toList (l,false)=τ1 from by rw [← hτ1,if_neg (fun e=>hm0 (by rw [← Hm.out,e]; rfl))]] at HM
      clear hm0 hτ1
      go_wp2_with fail
      refine Calls.mono HM.out ?_
      rintro e w4 ⟨rfl,hJ4,hg4⟩
      have HJ4:=hid hJ4
      have Ho4:=hid (aD Ho3.out hg4 fI)
      have Hg4:=hid (aM Hg3.out hg4)
      clear hJ4 hg4 HM HJ3 Ho3 Hg3
      have Hbx:=hid ((Below.refl w4.heap.size w4).alloc (Nat.le_refl _) (.cells #[.string ⟨#[]⟩,.string ⟨#[]⟩,.int .i64 0] 63))
      have HX:=hid (show Blk (w4.alloc (.cells #[.string ⟨#[]⟩,.string ⟨#[]⟩,.int .i64 0] 63)) w4.heap.size 63 (fsV cR) from by rw [zP]; exact heap_alloc_new w4 _)
      have hX0:W0.heap.size≤w4.heap.size:=Hg4.out.size
      have hs0:W0.heap.size=w.heap.size:=by rw [HW0.out]
      have Hs0:=hid hs0
      have HFd:=hid (dz.2 w4.heap.size 0 (w4.alloc (.cells #[.string ⟨#[]⟩,.string ⟨#[]⟩,.int .i64 0] 63)))
      clear hs0
      go_wp2_with fail
      refine Calls.mono HFd.out ?_
      rintro e w5 ⟨gf,rfl,hgf,hG,hb5⟩
      have LL:w4.heap.size<gf:=by (have:(w4.alloc (.cells #[.string ⟨#[]⟩,.string ⟨#[]⟩,.int .i64 0] 63)).heap.size=w4.heap.size+1:=by simp); omega
      have HJ5:=hid ((HJ4.out.up Hbx.out).up hb5)
      have HX5:=hid (HX.out.below hb5 HX.out.lt)
      have hg5:=aM (aM Hg4.out (aG g Hbx.out)) (aG g hb5)
      have Ho5:=hid (aD (aD Ho4.out (aG g Hbx.out) fI) (aG g hb5) fI)
      have Hg5:=hid hg5
      have HOb:=hid (jJ g τ1 gf w4.heap.size 3 63 cR w5 HJ5.out HX5.out (rM.2 hG) rfl (by decide) uA (by omega) (by omega) (by omega) (by have:=Hs0.out; omega) (by have:=Hs0.out; omega))
      have Hvk:=hid (fun k (hk:(Value.slice A m cp).ownBlock=some k)=>(Ho4.out.lt k hk).2)
      clear hG hb5 hg5 HFd
      go_wp2_with fail
      refine Calls.mono HOb.out ?_
      rintro e w6 ⟨rfl,hJ6,hX6,hT6⟩
      have Ho6:=hid (rK Ho5.out hT6 fI (fun k hk=>by have:=Hvk.out k hk; omega))
      have HJ6:=hid hJ6
      have Hg6:=hid (mK Hg5.out hT6 hX0)
      obtain⟨fl,hfl⟩:∃ fl,(eG cR τ1).1=fl:=⟨_,rfl⟩
      have iM:=zO τ1
      rw [hfl] at iM hX6
      rw [iM] at hX6
      obtain⟨itm,nk⟩:∃ itm,gH fl=itm:=⟨_,rfl⟩
      rw [nk] at hX6
      have zN:=hid nk
      have Hfl:=hid hfl
      obtain⟨f0,f1,f2⟩:=itm
      have HX6:=hid hX6
      have q0:=(show w6.cell? ⟨w4.heap.size,0,none⟩=some (.string f0) from hX6.cell 0)
      have q1:=(show w6.cell? ⟨w4.heap.size,1,none⟩=some (.string f1) from hX6.cell 1)
      have q2:=(show w6.cell? ⟨w4.heap.size,2,none⟩=some (.int .i64 f2) from hX6.cell 2)
      have hXl:=hX6.lt
      have hbr:W0.heap.size≤w6.heap.size:=Hg6.out.size
      have hmm:m≤60000:=by have:=Hmn.out; omega
      clear iM hX6 hT6 hJ6 HOb hfl nk
      go_wp2_with (at_builtin; refine fu aE rfl _ _ 24 63 (.agg #[.string ⟨#[]⟩,.string ⟨#[]⟩,.int .i64 0]) 3 40 rfl Tryz.underlying24 kD rfl (by decide) bB iA W0.heap.size _ _ _ (out.map gH) rfl Ho6.out _ ⟨f0,f1,f2⟩ rfl _ (by simp) rfl (by omega) (by unfold maxLen; omega) hbr ?_; intro A2 c2 w7 ho7 hg7)
      have hv7:∀ k,(Value.slice A m cp).ownBlock=some k→W0.heap.size≤k:=fun k hk=>(Ho6.out.lt k hk).1
      have HJ7:=hid (show fK w7 g (eG cR τ1).2 from HJ6.out.oY hg7 hv7 fI (by have:=Hs0.out; omega) (by have:=Hs0.out; omega))
      have Hg7:=hid (iN Hg6.out hg7 hv7)
      have HQ7:=hid (pV HJ7.out.at_)
      have Ho7:=hid ho7
      have Hob:=hid (oX cR τ1)
      clear ho7 hg7 q0 q1 q2
      go_wp2_with fail
      go_roundw
      case rel=>exact⟨A2,m+1,c2,out ++ [(eG cR τ1).1],(eG cR τ1).2,n',rfl,by rw [List.length_append,Hm.out]; rfl,by rw [List.map_append,List.map_singleton,Hfl.out,zN.out]; exact Ho7.out,HJ7.out,Hg7.out,HN.out,fun hb=>by
       have h1:=Hob.out
       have h2:=Hτl.out
       unfold jrN at h1
       rw [if_neg (by rw [hb]; simp)] at h1
       omega,by have h1:=Hob.out; have h2:=Hτl.out; have h3:=Hmn.out; omega⟩
      case measure=>rw [HQ7.out,Hm0.out]; have h1:=Hob.out; have h2:=Hτl.out; show jrN _<l.length+1; omega
end Go.Proofs.YtcpgnjmaampglaaGreatDoor
