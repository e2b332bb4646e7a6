/- Of the proof of a statement: Clone, SvOwn, DoC. -/
import Derived.Test.YtoeejfhdjmkpcaaGreatDoorTDoB
set_option linter.unusedVariables false
set_option linter.unusedSimpArgs false
set_option maxRecDepth 100000
set_option maxHeartbeats 8000000
/- The walks of slices.Clone and of Copy at rows of records: a row of the call's own that reads the same. -/
namespace Go.Proofs.YtoeejfhdjmkpcaaGreatDoor
open Go.Lib (hid)
open Go.RowKit
def mR {α:Type} (T:TypeId) (sz:Nat) (enc:α→List Value) (xs:List α) (w:World) (e:Ending) (w':World):Prop:=
 ∃ A' c',e = .returned (.slice A' xs.length c')∧w'.ownsRow w.heap.size T sz (.slice A' xs.length c') xs.length (au enc xs)∧Below w.heap.size w w'
theorem mR.Ad {α:Type} {T:TypeId} {sz n:Nat} {enc:α→List Value} {xs:List α} {w w':World} {v:Value} (hl:xs.length=n) (ho:w'.ownsRow w.heap.size T sz v n (au enc xs)) (hb:Below w.heap.size w w'):mR T sz enc xs w (.returned v) w':=by
 subst hl
 rcases ho.2 with ⟨rfl,h0⟩ | ⟨g,cap,cur,rfl,_⟩
 · rw [h0] at ho
   exact⟨none,0,by rw [h0],by rw [h0]; exact ho,hb⟩
 · exact⟨some ⟨g,0,none⟩,cap,rfl,ho,hb⟩
theorem aW.adds {w:World} {B sz n:Nat} {ad:Addr} {xs:List Value} (h:aW w B sz (some ad) n xs):∀ j u,xs[j]? = some u→w.cell? (ad.add j)=some u:=by
 intro j u hu
 have hn:0<n:=by
  rcases Nat.eq_zero_or_pos n with h0 | h0
  · subst h0
    have:xs=[]:=List.eq_nil_of_length_eq_zero (by rw [h.len]; omega)
    subst this; cases hu
  · exact h0
 obtain⟨b,off,e,hB,hr⟩:=h.at_ hn
 injection e with e
 subst e
 have:=hr j u hu
 unfold Addr.add
 split
 · rename_i hj; subst hj; simpa using this
 · exact this
theorem oP {w:World} {a:Addr} {v:Value} (o:Obj) (h:w.cell? a=some v):(w.alloc o).cell? a=some v:=by
 have hlt:a.block<w.heap.size:=by
  rcases Nat.lt_or_ge a.block w.heap.size with h' | h'
  · exact h'
  · simp [World.cell?,Array.getElem?_eq_none h'] at h
 rw [← h]
 have:=((Below.refl w.heap.size w).alloc (Nat.le_refl _) o).block a.block hlt
 unfold World.cell?
 rw [this]
theorem BR (xs:List aD) (A:Option Addr) (n c:Nat) (w:World) (hx:aW w w.heap.size 5 A n (au aL xs)) (hl:xs.length=n) (hn:n≤1000) :
 Calls Tryz.prog 130 #[.slice A n c] w (mR 34 5 aL xs w):=by
 have qe:∀ (w:World) (a:Option Addr) (n c n' c':Nat),(binOp .eql 22 (.slice a n c) (.slice none n' c')).run Tryz.prog w = .ok (.bool a.isNone) w:=fun w a n c n' c'=>Lib.run_eql_slice_nil w _ _ a n c n' c' Tryz.underlying22
 obtain⟨i0,hi,hz0,hz1,hz2⟩:=info_parts yB
 cases A with
 | none=>
  have h0:n=0:=by
   rcases Nat.eq_zero_or_pos n with h | h
   · exact h
   · obtain⟨_,_,e,_⟩:=hx.at_ h; cases e
  subst h0
  have hxs:xs=[]:=List.eq_nil_of_length_eq_zero hl
  subst hxs
  clear hx hl
  go_enter Tryz.func130,Tryz.ntmps130
  go_wp2
  go_ret
  exact⟨none,0,rfl,World.ownsRow_nil _ _ _ _,Below.refl _ _⟩
 | some ad=>
  have hadd:=hx.adds
  have hlen:(au aL xs).length=n*5:=hx.len
  have H:=hid hadd
  clear hx hadd
  go_enter Tryz.func130,Tryz.ntmps130
  go_wp2_with (at_builtin; refine wpList_append_own_at _ rfl _ _ 22 rfl w.heap.size 34 i0 (.agg #[.string ⟨#[]⟩,.int .i64 0,.int .i64 0,.int .i64 0,.string ⟨#[]⟩]) 5 56 Tryz.underlying22 hi hz0 hz1 hz2 rfl (by decide) (.slice (some ⟨w.heap.size,0,none⟩) 0 0) 0 [] rfl (World.ownsRow_made w #[] 0 (Nat.le_refl _) (Nat.zero_le _) rfl) ad n c (au aL xs) rfl hlen (fun j u hu=>by have hadd:=H.out; exact oP _ (hadd j u hu)) (fun u hu=>by obtain⟨a,_,ha⟩:=List.mem_flatMap.1 hu; exact vL a u ha) (by unfold maxLen; omega) (by omega) (by simp) ?_; intro v' w1 hown hgrow hnil hblk)
  rw [Nat.zero_add,List.nil_append] at hown
  have hfin:=hid (mR.Ad hl hown (((Below.refl _ w).alloc (Nat.le_refl _) _).grown hgrow (by simp) (by intro k hk; simp [Value.ownBlock] at hk; omega)))
  clear hown hgrow hnil hblk
  go_wp2
  go_ret
  exact hfin.out
theorem Ae (xs:List aA) (A:Option Addr) (n c:Nat) (w:World) (hx:aW w w.heap.size 3 A n (au aC xs)) (hl:xs.length=n) (hn:n≤1000) :
 Calls Tryz.prog 131 #[.slice A n c] w (mR 36 3 aC xs w):=by
 have qe:∀ (w:World) (a:Option Addr) (n c n' c':Nat),(binOp .eql 23 (.slice a n c) (.slice none n' c')).run Tryz.prog w = .ok (.bool a.isNone) w:=fun w a n c n' c'=>Lib.run_eql_slice_nil w _ _ a n c n' c' Tryz.underlying23
 obtain⟨i0,hi,hz0,hz1,hz2⟩:=info_parts vM
 cases A with
 | none=>
  have h0:n=0:=by
   rcases Nat.eq_zero_or_pos n with h | h
   · exact h
   · obtain⟨_,_,e,_⟩:=hx.at_ h; cases e
  subst h0
  have hxs:xs=[]:=List.eq_nil_of_length_eq_zero hl
  subst hxs
  clear hx hl
  go_enter Tryz.func131,Tryz.ntmps131
  go_wp2
  go_ret
  exact⟨none,0,rfl,World.ownsRow_nil _ _ _ _,Below.refl _ _⟩
 | some ad=>
  have hadd:=hx.adds
  have hlen:(au aC xs).length=n*3:=hx.len
  have H:=hid hadd
  clear hx hadd
  go_enter Tryz.func131,Tryz.ntmps131
  go_wp2_with (at_builtin; refine wpList_append_own_at _ rfl _ _ 23 rfl w.heap.size 36 i0 (.agg #[.string ⟨#[]⟩,.int .i64 0,.string ⟨#[]⟩]) 3 40 Tryz.underlying23 hi hz0 hz1 hz2 rfl (by decide) (.slice (some ⟨w.heap.size,0,none⟩) 0 0) 0 [] rfl (World.ownsRow_made w #[] 0 (Nat.le_refl _) (Nat.zero_le _) rfl) ad n c (au aC xs) rfl hlen (fun j u hu=>by have hadd:=H.out; exact oP _ (hadd j u hu)) (fun u hu=>by obtain⟨a,_,ha⟩:=List.mem_flatMap.1 hu; exact tC a u ha) (by unfold maxLen; omega) (by omega) (by simp) ?_; intro v' w1 hown hgrow hnil hblk)
  rw [Nat.zero_add,List.nil_append] at hown
  have hfin:=hid (mR.Ad hl hown (((Below.refl _ w).alloc (Nat.le_refl _) _).grown hgrow (by simp) (by intro k hk; simp [Value.ownBlock] at hk; omega)))
  clear hown hgrow hnil hblk
  go_wp2
  go_ret
  exact hfin.out
theorem yC (xs:List ak) (A:Option Addr) (n c:Nat) (w:World) (hx:aW w w.heap.size 3 A n (au av xs)) (hl:xs.length=n) (hn:n≤1000) :
 Calls Tryz.prog 132 #[.slice A n c] w (mR 38 3 av xs w):=by
 have qe:∀ (w:World) (a:Option Addr) (n c n' c':Nat),(binOp .eql 24 (.slice a n c) (.slice none n' c')).run Tryz.prog w = .ok (.bool a.isNone) w:=fun w a n c n' c'=>Lib.run_eql_slice_nil w _ _ a n c n' c' Tryz.underlying24
 obtain⟨i0,hi,hz0,hz1,hz2⟩:=info_parts tD
 cases A with
 | none=>
  have h0:n=0:=by
   rcases Nat.eq_zero_or_pos n with h | h
   · exact h
   · obtain⟨_,_,e,_⟩:=hx.at_ h; cases e
  subst h0
  have hxs:xs=[]:=List.eq_nil_of_length_eq_zero hl
  subst hxs
  clear hx hl
  go_enter Tryz.func132,Tryz.ntmps132
  go_wp2
  go_ret
  exact⟨none,0,rfl,World.ownsRow_nil _ _ _ _,Below.refl _ _⟩
 | some ad=>
  have hadd:=hx.adds
  have hlen:(au av xs).length=n*3:=hx.len
  have H:=hid hadd
  clear hx hadd
  go_enter Tryz.func132,Tryz.ntmps132
  go_wp2_with (at_builtin; refine wpList_append_own_at _ rfl _ _ 24 rfl w.heap.size 38 i0 (.agg #[.string ⟨#[]⟩,.string ⟨#[]⟩,.int .i64 0]) 3 40 Tryz.underlying24 hi hz0 hz1 hz2 rfl (by decide) (.slice (some ⟨w.heap.size,0,none⟩) 0 0) 0 [] rfl (World.ownsRow_made w #[] 0 (Nat.le_refl _) (Nat.zero_le _) rfl) ad n c (au av xs) rfl hlen (fun j u hu=>by have hadd:=H.out; exact oP _ (hadd j u hu)) (fun u hu=>by obtain⟨a,_,ha⟩:=List.mem_flatMap.1 hu; exact rN a u ha) (by unfold maxLen; omega) (by omega) (by simp) ?_; intro v' w1 hown hgrow hnil hblk)
  rw [Nat.zero_add,List.nil_append] at hown
  have hfin:=hid (mR.Ad hl hown (((Below.refl _ w).alloc (Nat.le_refl _) _).grown hgrow (by simp) (by intro k hk; simp [Value.ownBlock] at hk; omega)))
  clear hown hgrow hnil hblk
  go_wp2
  go_ret
  exact hfin.out
end Go.Proofs.YtoeejfhdjmkpcaaGreatDoor
/- The walk of serve.own: a state of one's own. -/
namespace Go.Proofs.YtoeejfhdjmkpcaaGreatDoor
open Go.Lib (hid)
open Go.RowKit
def Dw (B:Nat) (x γ:StA):Nat→Value→Prop
 | 0,u=>u = .pointer (some ⟨B,1,none⟩)
 | 1,u=>u = .slice x.aj x.nj x.cj
 | 2,u=>u = .slice γ.aj x.nj γ.cj
 | 3,u=>u = .pointer (some ⟨B,2,none⟩)
 | 4,u=>u = .slice x.an x.nn x.cn
 | 5,u=>u = .slice γ.an x.nn γ.cn
 | 6,u=>u = .pointer (some ⟨B,3,none⟩)
 | 7,u=>u = .slice x.al x.nl x.cl
 | 8,u=>u = .slice γ.al x.nl γ.cl
 | 9,u=>u = .pointer (some ⟨B,1,none⟩)
 | 11,u=>u = .pointer (some ⟨B,2,none⟩)
 | 13,u=>u = .pointer (some ⟨B,3,none⟩)
 | _,_=>True
structure Af (w0:World) (st:ah) (x γ:StA) (c k:Nat) (w:World):Prop where
 below:Below w0.heap.size w0 w
 blk:Blk w w0.heap.size 26 #[.int .i64 st.rev,if 0<k then .slice γ.aj x.nj γ.cj else .slice x.aj x.nj x.cj,if 1<k then .slice γ.an x.nn γ.cn else .slice x.an x.nn x.cn,if 2<k then .slice γ.al x.nl γ.cl else .slice x.al x.nl x.cl]
 res:Blk w (w0.heap.size+1) 26 uY
 j:0<c→w.ownsRow (w0.heap.size+2) 34 5 (.slice γ.aj x.nj γ.cj) x.nj (au aL st.jobs)
 n:1<c→w.ownsRow (w0.heap.size+2) 36 3 (.slice γ.an x.nn γ.cn) x.nn (au aC st.nodes)
 l:2<c→w.ownsRow (w0.heap.size+2) 38 3 (.slice γ.al x.nl γ.cl) x.nl (au av st.leases)
def H8 (w0:World) (st:ah) (x:StA) (p:Nat) (γ:StA) (w:World):Prop:=Af w0 st x γ p (p - 3) w
theorem tE {B:Nat} {x γ γ':StA} (d:Nat) (h2:d≠2→γ'.aj=γ.aj∧γ'.cj=γ.cj) (h5:d≠5→γ'.an=γ.an∧γ'.cn=γ.cn) (h8:d≠8→γ'.al=γ.al∧γ'.cl=γ.cl):∀ j v,j≠d→Dw B x γ j v→Dw B x γ' j v:=by
 intro j v hj h
 match j,hj,h with
 | 0,_,h=>exact h
 | 1,_,h=>exact h
 | 2,hj,h=>obtain⟨e1,e2⟩:=h2 (fun e=>hj e.symm); exact (show v=_ by rw [e1,e2]; exact h)
 | 3,_,h=>exact h
 | 4,_,h=>exact h
 | 5,hj,h=>obtain⟨e1,e2⟩:=h5 (fun e=>hj e.symm); exact (show v=_ by rw [e1,e2]; exact h)
 | 6,_,h=>exact h
 | 7,_,h=>exact h
 | 8,hj,h=>obtain⟨e1,e2⟩:=h8 (fun e=>hj e.symm); exact (show v=_ by rw [e1,e2]; exact h)
 | 9,_,h=>exact h
 | 10,_,_=>trivial
 | 11,_,h=>exact h
 | 12,_,_=>trivial
 | 13,_,h=>exact h
 | _+14,_,_=>trivial
def yD (st:ah) (x:StA) (w:World) (e:Ending) (w':World):Prop:=
 ∃ x':StA,e = .returned (.agg (stC st x'))∧x'.nj=x.nj∧x'.nn=x.nn∧x'.nl=x.nl∧StOwn w' (w.heap.size+2) st x'∧Below w.heap.size w w'
theorem kC (st:ah) (x:StA) (w:World) (hS:StAt w w.heap.size st x) (h1:x.nj≤1000) (h2:x.nn≤1000) (h3:x.nl≤1000) :
 Calls Tryz.prog 43 #[.agg (stC st x)] w (yD st x w):=by
 have hb1:Below w.heap.size w (w.alloc (.cells (stC st x) 26)):=(Below.refl _ _).alloc (Nat.le_refl _) _
 have hb2:=hb1.alloc hb1.size (.cells uY 26)
 have H0:Af w st x x 0 0 (((w.alloc (.cells (stC st x) 26)).alloc (.cells uY 26))).drew:=
  { below:=hb2.drew
    blk:=Blk.alloc (show Blk _ _ _ _ from heap_alloc_new w _) _
    res:=by
     have h:=heap_alloc_new (w.alloc (.cells (stC st x) 26)) (.cells uY 26)
     rw [show (w.alloc (.cells (stC st x) 26)).heap.size=w.heap.size+1 by simp] at h
     exact h
    j:=fun h=>absurd h (by omega)
    n:=fun h=>absurd h (by omega)
    l:=fun h=>absurd h (by omega) }
 have HS:=hid hS
 clear hb1 hb2 hS
 go_enter Tryz.func43,Tryz.ntmps43
 unfold stC at *
 go_wp2_with fail
 refine gQ (n:=16) (by kernel_rfl) (Dw w.heap.size x) [2,5,8,10,12,14] (H8 w st x) x (by decide +kernel) (by decide +kernel) rfl H0 ?_ ?_
 · refine⟨?_,?_,?_,?_,?_,?_,?_,?_,?_,?_,?_,?_,?_,?_,?_,trivial⟩
   · refine⟨rfl,.inr ⟨by decide,0,6,by decide +kernel,by decide +kernel,fun p γ a wx _ hph hp hk=>?_⟩⟩
     have h1:=hk.k 1 rfl
     simp [go_sem,Oper.wp,execOp,Act.eval,h1]
     exact⟨_,rfl,rfl,hp⟩
   · refine⟨rfl,.inr ⟨by decide,0,0,by decide +kernel,by decide +kernel,fun p γ a wx _ hph hp hk=>?_⟩⟩
     obtain⟨u1,hu1,ru1⟩:=hk.g 0 3 rfl rfl
     replace ru1:u1=_:=ru1
     subst ru1
     have hc:wx.cell? ⟨w.heap.size,1,none⟩=some (.slice x.aj x.nj x.cj):=by
      have h:=hp.blk.cell 1
      simp only [List.getElem?_toArray,List.getElem?_cons_succ,List.getElem?_cons_zero] at h
      rw [h,if_neg (by omega)]
     simp [go_sem,Oper.wp,execOp,Act.eval,hu1,hc]
     exact⟨_,rfl,rfl,hp⟩
   · refine⟨rfl,.inl ⟨0,rfl,fun γ a wx hp hk=>?_⟩⟩
     obtain⟨u1,hu1,ru1⟩:=hk.g 1 4 rfl rfl
     replace ru1:u1=_:=ru1
     subst ru1
     simp [go_sem,Oper.wp,execOp,Act.eval,hu1]
     refine (BR st.jobs x.aj x.nj x.cj wx (HS.out.j.below hp.below |>.more hp.below.size) HS.out.lj (by omega)).mono ?_
     rintro e w' ⟨A',c',rfl,ho,hb⟩
     rw [HS.out.lj] at ho ⊢
     exact⟨_,rfl,{ γ with aj:=A',cj:=c' },tE 2 (fun h=>absurd rfl h) (fun _=>⟨rfl,rfl⟩) (fun _=>⟨rfl,rfl⟩),rfl,{ below:=hp.below.trans (hb.mono hp.below.size),blk:=Blk.eq (hp.blk.below hb hp.blk.lt) (by simp),res:=hp.res.below hb hp.res.lt,j:=fun _=>bS ho (by have:=hp.res.lt; omega),n:=fun h=>absurd h (by omega),l:=fun h=>absurd h (by omega) }⟩
   · refine⟨rfl,.inr ⟨by decide,0,6,by decide +kernel,by decide +kernel,fun p γ a wx _ hph hp hk=>?_⟩⟩
     have h1:=hk.k 1 rfl
     simp [go_sem,Oper.wp,execOp,Act.eval,h1]
     exact⟨_,rfl,rfl,hp⟩
   · refine⟨rfl,.inr ⟨by decide,0,1,by decide +kernel,by decide +kernel,fun p γ a wx _ hph hp hk=>?_⟩⟩
     obtain⟨u1,hu1,ru1⟩:=hk.g 3 6 rfl rfl
     replace ru1:u1=_:=ru1
     subst ru1
     have hc:wx.cell? ⟨w.heap.size,2,none⟩=some (.slice x.an x.nn x.cn):=by
      have h:=hp.blk.cell 2
      simp only [List.getElem?_toArray,List.getElem?_cons_succ,List.getElem?_cons_zero] at h
      rw [h,if_neg (by omega)]
     simp [go_sem,Oper.wp,execOp,Act.eval,hu1,hc]
     exact⟨_,rfl,rfl,hp⟩
   · refine⟨rfl,.inl ⟨1,rfl,fun γ a wx hp hk=>?_⟩⟩
     obtain⟨u1,hu1,ru1⟩:=hk.g 4 7 rfl rfl
     replace ru1:u1=_:=ru1
     subst ru1
     simp [go_sem,Oper.wp,execOp,Act.eval,hu1]
     refine (Ae st.nodes x.an x.nn x.cn wx (HS.out.n.below hp.below |>.more hp.below.size) HS.out.ln (by omega)).mono ?_
     rintro e w' ⟨A',c',rfl,ho,hb⟩
     rw [HS.out.ln] at ho ⊢
     exact⟨_,rfl,{ γ with an:=A',cn:=c' },tE 5 (fun _=>⟨rfl,rfl⟩) (fun h=>absurd rfl h) (fun _=>⟨rfl,rfl⟩),rfl,{ below:=hp.below.trans (hb.mono hp.below.size),blk:=Blk.eq (hp.blk.below hb hp.blk.lt) (by simp),res:=hp.res.below hb hp.res.lt,j:=fun _=>ay (hp.j (by omega)) hb,n:=fun _=>bS ho (by have:=hp.res.lt; omega),l:=fun h=>absurd h (by omega) }⟩
   · refine⟨rfl,.inr ⟨by decide,0,6,by decide +kernel,by decide +kernel,fun p γ a wx _ hph hp hk=>?_⟩⟩
     have h1:=hk.k 1 rfl
     simp [go_sem,Oper.wp,execOp,Act.eval,h1]
     exact⟨_,rfl,rfl,hp⟩
   · refine⟨rfl,.inr ⟨by decide,0,2,by decide +kernel,by decide +kernel,fun p γ a wx _ hph hp hk=>?_⟩⟩
     obtain⟨u1,hu1,ru1⟩:=hk.g 6 9 rfl rfl
     replace ru1:u1=_:=ru1
     subst ru1
     have hc:wx.cell? ⟨w.heap.size,3,none⟩=some (.slice x.al x.nl x.cl):=by
      have h:=hp.blk.cell 3
      simp only [List.getElem?_toArray,List.getElem?_cons_succ,List.getElem?_cons_zero] at h
      rw [h,if_neg (by omega)]
     simp [go_sem,Oper.wp,execOp,Act.eval,hu1,hc]
     exact⟨_,rfl,rfl,hp⟩
   · refine⟨rfl,.inl ⟨2,rfl,fun γ a wx hp hk=>?_⟩⟩
     obtain⟨u1,hu1,ru1⟩:=hk.g 7 10 rfl rfl
     replace ru1:u1=_:=ru1
     subst ru1
     simp [go_sem,Oper.wp,execOp,Act.eval,hu1]
     refine (yC st.leases x.al x.nl x.cl wx (HS.out.l.below hp.below |>.more hp.below.size) HS.out.ll (by omega)).mono ?_
     rintro e w' ⟨A',c',rfl,ho,hb⟩
     rw [HS.out.ll] at ho ⊢
     exact⟨_,rfl,{ γ with al:=A',cl:=c' },tE 8 (fun _=>⟨rfl,rfl⟩) (fun _=>⟨rfl,rfl⟩) (fun h=>absurd rfl h),rfl,{ below:=hp.below.trans (hb.mono hp.below.size),blk:=Blk.eq (hp.blk.below hb hp.blk.lt) (by simp),res:=hp.res.below hb hp.res.lt,j:=fun _=>ay (hp.j (by omega)) hb,n:=fun _=>ay (hp.n (by omega)) hb,l:=fun _=>bS ho (by have:=hp.res.lt; omega) }⟩
   · refine⟨rfl,.inr ⟨by decide,0,6,by decide +kernel,by decide +kernel,fun p γ a wx _ hph hp hk=>?_⟩⟩
     have h1:=hk.k 1 rfl
     simp [go_sem,Oper.wp,execOp,Act.eval,h1]
     exact⟨_,rfl,rfl,hp⟩
   · refine⟨rfl,.inl ⟨3,rfl,fun γ a wx hp hk=>?_⟩⟩
     obtain⟨u1,hu1,ru1⟩:=hk.g 9 12 rfl rfl
     replace ru1:u1=_:=ru1
     subst ru1
     obtain⟨u2,hu2,ru2⟩:=hk.g 2 5 rfl rfl
     replace ru2:u2=_:=ru2
     subst ru2
     have hc:wx.cell? ⟨w.heap.size,1,none⟩=some (.slice x.aj x.nj x.cj):=by
      have h:=hp.blk.cell 1
      simp only [List.getElem?_toArray,List.getElem?_cons_succ,List.getElem?_cons_zero] at h
      rw [h,if_neg (by omega)]
     have hz:wx.frozen? ⟨w.heap.size,1,none⟩=false:=hp.blk.thaw 1
     simp [go_sem,Oper.wp,execOp,Act.eval,hu1,hu2,hc,hz]
     exact⟨.int .i64 0,γ,fun _ _ _ h=>h,trivial,{ below:=dz hp.below (bH wx w.heap.size 1 _) (Nat.le_refl _),blk:=Blk.eq (hp.blk.set 1 _) rfl,res:=aF (bH wx w.heap.size 1 _) hp.res (by omega),j:=fun _=>bT (hp.j (by omega)) (bH wx w.heap.size 1 _) (by omega),n:=fun _=>bT (hp.n (by omega)) (bH wx w.heap.size 1 _) (by omega),l:=fun _=>bT (hp.l (by omega)) (bH wx w.heap.size 1 _) (by omega) }⟩
   · refine⟨rfl,.inr ⟨by decide,0,6,by decide +kernel,by decide +kernel,fun p γ a wx _ hph hp hk=>?_⟩⟩
     have h1:=hk.k 1 rfl
     simp [go_sem,Oper.wp,execOp,Act.eval,h1]
     exact⟨_,rfl,rfl,hp⟩
   · refine⟨rfl,.inl ⟨4,rfl,fun γ a wx hp hk=>?_⟩⟩
     obtain⟨u1,hu1,ru1⟩:=hk.g 11 13 rfl rfl
     replace ru1:u1=_:=ru1
     subst ru1
     obtain⟨u2,hu2,ru2⟩:=hk.g 5 8 rfl rfl
     replace ru2:u2=_:=ru2
     subst ru2
     have hc:wx.cell? ⟨w.heap.size,2,none⟩=some (.slice x.an x.nn x.cn):=by
      have h:=hp.blk.cell 2
      simp only [List.getElem?_toArray,List.getElem?_cons_succ,List.getElem?_cons_zero] at h
      rw [h,if_neg (by omega)]
     have hz:wx.frozen? ⟨w.heap.size,2,none⟩=false:=hp.blk.thaw 2
     simp [go_sem,Oper.wp,execOp,Act.eval,hu1,hu2,hc,hz]
     exact⟨.int .i64 0,γ,fun _ _ _ h=>h,trivial,{ below:=dz hp.below (bH wx w.heap.size 2 _) (Nat.le_refl _),blk:=Blk.eq (hp.blk.set 2 _) rfl,res:=aF (bH wx w.heap.size 2 _) hp.res (by omega),j:=fun _=>bT (hp.j (by omega)) (bH wx w.heap.size 2 _) (by omega),n:=fun _=>bT (hp.n (by omega)) (bH wx w.heap.size 2 _) (by omega),l:=fun _=>bT (hp.l (by omega)) (bH wx w.heap.size 2 _) (by omega) }⟩
   · refine⟨rfl,.inr ⟨by decide,0,6,by decide +kernel,by decide +kernel,fun p γ a wx _ hph hp hk=>?_⟩⟩
     have h1:=hk.k 1 rfl
     simp [go_sem,Oper.wp,execOp,Act.eval,h1]
     exact⟨_,rfl,rfl,hp⟩
   · refine⟨rfl,.inl ⟨5,rfl,fun γ a wx hp hk=>?_⟩⟩
     obtain⟨u1,hu1,ru1⟩:=hk.g 13 14 rfl rfl
     replace ru1:u1=_:=ru1
     subst ru1
     obtain⟨u2,hu2,ru2⟩:=hk.g 8 11 rfl rfl
     replace ru2:u2=_:=ru2
     subst ru2
     have hc:wx.cell? ⟨w.heap.size,3,none⟩=some (.slice x.al x.nl x.cl):=by
      have h:=hp.blk.cell 3
      simp only [List.getElem?_toArray,List.getElem?_cons_succ,List.getElem?_cons_zero] at h
      rw [h,if_neg (by omega)]
     have hz:wx.frozen? ⟨w.heap.size,3,none⟩=false:=hp.blk.thaw 3
     simp [go_sem,Oper.wp,execOp,Act.eval,hu1,hu2,hc,hz]
     exact⟨.int .i64 0,γ,fun _ _ _ h=>h,trivial,{ below:=dz hp.below (bH wx w.heap.size 3 _) (Nat.le_refl _),blk:=Blk.eq (hp.blk.set 3 _) rfl,res:=aF (bH wx w.heap.size 3 _) hp.res (by omega),j:=fun _=>bT (hp.j (by omega)) (bH wx w.heap.size 3 _) (by omega),n:=fun _=>bT (hp.n (by omega)) (bH wx w.heap.size 3 _) (by omega),l:=fun _=>bT (hp.l (by omega)) (bH wx w.heap.size 3 _) (by omega) }⟩
 · intro γ a wx hd
   have hp:Af w st x γ 6 3 wx:=hd.ph
   obtain⟨fv,rfl,-⟩:=hd.frame [3,4,5,6,7,8,9,10,11,12,13,14] rfl
   have hB:Blk wx w.heap.size 26 #[.int .i64 st.rev,.slice γ.aj x.nj γ.cj,.slice γ.an x.nn γ.cn,.slice γ.al x.nl γ.cl]:=hp.blk
   have hR:=hp.res
   have hbl:=hB.lt
   have hrl:=hR.lt
   obtain⟨b0,b1,b2,b3⟩:=Blk.c4 (hB)
   obtain⟨u0,u1,u2,u3⟩:=Blk.z4 (hR)
   obtain⟨s0,s1,s2,s3⟩:=Blk.c4 (hR)
   obtain⟨hR4,hG4⟩:=Blk.S4 (hR) (.int .i64 st.rev) (.slice γ.aj x.nj γ.cj) (.slice γ.an x.nn γ.cn) (.slice γ.al x.nl γ.cl)
   obtain⟨q0,q1,q2,q3⟩:=Blk.c4 hR4
   have aR:=hid (show yD st x w (.returned (.agg (stC st ⟨γ.aj,x.nj,γ.cj,γ.an,x.nn,γ.cn,γ.al,x.nl,γ.cl⟩))) _ from ⟨⟨γ.aj,x.nj,γ.cj,γ.an,x.nn,γ.cn,γ.al,x.nl,γ.cl⟩,rfl,rfl,rfl,rfl,⟨bT (hp.j (by omega)) hG4 (by omega),bT (hp.n (by omega)) hG4 (by omega),bT (hp.l (by omega)) hG4 (by omega),HS.out.lj,HS.out.ln,HS.out.ll⟩,dz hp.below hG4 (by omega)⟩)
   clear hd hp hB hR hR4 hG4 H0
   simp [Exit.then]
   go_wp2
   refine bodyPost_ret (v:=.agg #[.int .i64 st.rev,.slice γ.aj x.nj γ.cj,.slice γ.an x.nn γ.cn,.slice γ.al x.nl γ.cl]) (by simp [results,Tryz.results43,go_sem, *]) rfl ?_
   exact aR.out
end Go.Proofs.YtoeejfhdjmkpcaaGreatDoor
/- (*work).do at the tick, and at the kinds that change nothing. -/
namespace Go.Proofs.YtoeejfhdjmkpcaaGreatDoor
open Go.Lib (hid)
open Go.RowKit
theorem BS (BP WK N:Nat) (t:Int) (w:World) (g:Option Nat) (hb:Blk w BP 111 #[.pointer (some ⟨WK,0,none⟩)]) (hk:Blk w WK 114 #[.pointer (some ⟨N,0,none⟩),.int .i64 t]) (hg:g≠some BP) (hg2:g≠some WK):sD (fun l=>decide (l.till≤t)) 144 #[.pointer (some ⟨BP,0,none⟩)] w g:=by
 intro W hW x
 have hb1:Blk W BP 111 #[.pointer (some ⟨WK,0,none⟩)]:=(hW.block BP hb.lt (fun e=>hg e.symm)).trans hb
 have hk1:Blk W WK 114 #[.pointer (some ⟨N,0,none⟩),.int .i64 t]:=(hW.block WK hk.lt (fun e=>hg2 e.symm)).trans hk
 have h1:W.cell? ⟨BP,0,none⟩=some (.pointer (some ⟨WK,0,none⟩)):=hb1.cell 0
 have h2:W.cell? ⟨WK,1,none⟩=some (.int .i64 t):=hk1.cell 1
 have hl:=hb1.lt
 have hl2:=hk1.lt
 obtain⟨job,node,till⟩:=x
 show Calls Tryz.prog 144 #[.agg #[.string job,.string node,.int .i64 till],.pointer (some ⟨BP,0,none⟩)] W _
 clear hb hk hW hb1 hk1
 go_enter Tryz.func144,Tryz.ntmps144
 go_wp2
 all_goals first | go_quiet (fail) | skip
 go_wp2
 go_ret
 exact⟨rfl,((Below.refl _ _).alloc (Nat.le_refl _) _).trans ⟨rfl,rfl,rfl,Nat.le_refl _,fun _ _=>rfl⟩⟩
theorem do_7 (base:Nat) (st:ah) (x:StA) (N WK:Nat) (now:Int) (q:aH) (w:World) (h:vg w base st x N WK now) (hq:q.kind=7) (hn0:0≤now) (hn1:now≤1099511627776) (hq0:0≤q.n) (hq1:q.n≤1099511627776) :
 Calls Tryz.prog 45 #[.pointer (some ⟨WK,0,none⟩),bP q] w (fK base N WK (if 1099511627776 - now<q.n then (1,st,now) else (0,qR st (now+q.n),now+q.n)) w):=by
 obtain⟨W,hW⟩:∃ W,(w.alloc (.cells #[.pointer (some ⟨WK,0,none⟩)] 111)).alloc (.cells (aB q) 40)=W:=⟨_,rfl⟩
 have hbW:Below w.heap.size w W:=by rw [← hW]; exact ((Below.refl _ _).alloc (Nat.le_refl _) _).alloc (by simp) _
 have hbp:Blk W w.heap.size 111 #[.pointer (some ⟨WK,0,none⟩)]:=by rw [← hW]; exact Blk.alloc (show Blk _ _ _ _ from heap_alloc_new w _) _
 have hqb:Blk W (w.heap.size+1) 40 (aB q):=by
  rw [← hW]
  have:=heap_alloc_new (w.alloc (.cells #[.pointer (some ⟨WK,0,none⟩)] 111)) (.cells (aB q) 40)
  rwa [show (w.alloc (.cells #[.pointer (some ⟨WK,0,none⟩)] 111)).heap.size=w.heap.size+1 by simp] at this
 have hw:=h.w.below hbW
 have hk0:W.cell? ⟨w.heap.size+1,0,none⟩=some (.int .i64 7):=by rw [hqb.cell 0,← hq]; rfl
 have q13:W.cell? ⟨w.heap.size+1,13,none⟩=some (.int .i64 q.n):=hqb.cell 13
 have bp0:W.cell? ⟨w.heap.size,0,none⟩=some (.pointer (some ⟨WK,0,none⟩)):=hbp.cell 0
 have wk1:W.cell? ⟨WK,1,none⟩=some (.int .i64 now):=hw.wk.cell 1
 have wkz:W.frozen? ⟨WK,1,none⟩=false:=hw.wk.thaw 1
 have H:=hid h
 have Hw:=hid hw
 have HbW:=hid (hbW.mono h.w.bs)
 have Hbp:=hid hbp
 clear hbW hbp hqb hw h
 unfold bP
 unfold aB at hW ⊢
 clear hq
 by_cases hgt:1099511627776 - now<q.n
 · rw [if_pos hgt]
   have d1:decide (1099511627776 - now<q.n)=true:=decide_eq_true hgt
   go_enter Tryz.func45,Tryz.ntmps45
   go_wp2_with fail
   try rw [hW]
   clear hW
   go_region
   go_wp2
   go_ret
   exact⟨rfl,HbW.out.drew,fun h=>absurd h (by decide:(1:Int)≠0)⟩
 · rw [if_neg hgt]
   have d1:decide (1099511627776 - now<q.n)=false:=decide_eq_false hgt
   go_enter Tryz.func45,Tryz.ntmps45
   go_wp2_with fail
   try rw [hW]
   clear hW
   go_region
   go_wp2
   go_region
   obtain⟨W2,hW2⟩:∃ W2,(W.setCell ⟨WK,1,none⟩ (.int .i64 (now+q.n))).drew.drew=W2:=⟨_,rfl⟩
   have hw2:lQ W2 base st x N WK (now+q.n):=by
    rw [← hW2]
    have ho:=Hw.out.own
    exact⟨aY Hw.out.nb Hw.out.wk (by decide),Blk.eq (Hw.out.wk.set 1 _) rfl,⟨(aP ho.j Hw.out.wk (by decide)).drew.drew,(aP ho.n Hw.out.wk (by decide)).drew.drew,(aP ho.l Hw.out.wk (by decide)).drew.drew,ho.lj,ho.ln,ho.ll⟩,Hw.out.bN,Hw.out.bW,by show base≤(W.setCell _ _).heap.size; simpa using Hw.out.bs⟩
   have hb2:Blk W2 w.heap.size 111 #[.pointer (some ⟨WK,0,none⟩)]:=by
    rw [← hW2]
    exact aY Hbp.out Hw.out.wk (by decide)
   have HbX:=hid (show Below base w W2 from by rw [← hW2]; exact (HbW.out.trans (aN (Below.refl _ _) Hw.out.bW)).drew.drew)
   have b0:W2.cell? ⟨w.heap.size,0,none⟩=some (.pointer (some ⟨WK,0,none⟩)):=hb2.cell 0
   have hol:=hw2.own.l
   have HWO:=hid (mS (fun l=>decide (l.till≤now+q.n)) 144 #[.pointer (some ⟨w.heap.size,0,none⟩)] base st x N WK (now+q.n) W2 hw2 (by have:=H.out.nl; omega) (enters_of Tryz.func144 (by kernel_rfl) rfl) (BS w.heap.size WK N (now+q.n) W2 _ hb2 hw2.wk (jS hb2 hol (by decide)) (jS hw2.wk hol (by decide))))
   rw [hW2]
   clear hW2 hw2 hb2 hol Hw Hbp q13 bp0 wk1 wkz hk0
   go_wp2_with fail
   refine Calls.mono HWO.out ?_
   rintro e w5 ⟨rfl,⟨x',hwk⟩,hb5⟩
   have aR:=hid (show fK base N WK (0,qR st (now+q.n),now+q.n) w (.returned (.int .i64 0)) w5 from ⟨rfl,HbX.out.trans hb5,fun _=>⟨x',hwk⟩⟩)
   clear hwk hb5 b0 HWO
   go_wp2
   go_ret
   exact aR.out
theorem do_8 (base:Nat) (st:ah) (x:StA) (N WK:Nat) (now:Int) (q:aH) (w:World) (h:vg w base st x N WK now) (hq:8≤q.kind) :
 Calls Tryz.prog 45 #[.pointer (some ⟨WK,0,none⟩),bP q] w (fK base N WK (0,st,now) w):=by
 obtain⟨W,hW⟩:∃ W,(w.alloc (.cells #[.pointer (some ⟨WK,0,none⟩)] 111)).alloc (.cells (aB q) 40)=W:=⟨_,rfl⟩
 have hbW:Below w.heap.size w W:=by rw [← hW]; exact ((Below.refl _ _).alloc (Nat.le_refl _) _).alloc (by simp) _
 have hqb:Blk W (w.heap.size+1) 40 (aB q):=by
  rw [← hW]
  have:=heap_alloc_new (w.alloc (.cells #[.pointer (some ⟨WK,0,none⟩)] 111)) (.cells (aB q) 40)
  rwa [show (w.alloc (.cells #[.pointer (some ⟨WK,0,none⟩)] 111)).heap.size=w.heap.size+1 by simp] at this
 have hw:=h.w.below hbW
 have hk0:W.cell? ⟨w.heap.size+1,0,none⟩=some (.int .i64 q.kind):=hqb.cell 0
 have aR:=hid (show fK base N WK (0,st,now) w (.returned (.int .i64 0)) W from ⟨rfl,hbW.mono h.w.bs,fun _=>⟨x,hw⟩⟩)
 have d1:(q.kind == 1)=false:=beq_false_of_ne (by omega)
 have d2:(q.kind == 2)=false:=beq_false_of_ne (by omega)
 have d3:(q.kind == 3)=false:=beq_false_of_ne (by omega)
 have d4:(q.kind == 4)=false:=beq_false_of_ne (by omega)
 have d5:(q.kind == 5)=false:=beq_false_of_ne (by omega)
 have d6:(q.kind == 6)=false:=beq_false_of_ne (by omega)
 have d7:(q.kind == 7)=false:=beq_false_of_ne (by omega)
 clear hbW hqb hw h hq
 unfold bP
 unfold aB at hW ⊢
 go_enter Tryz.func45,Tryz.ntmps45
 go_wp2
 go_ret
 try rw [hW]
 exact aR.out
end Go.Proofs.YtoeejfhdjmkpcaaGreatDoor
