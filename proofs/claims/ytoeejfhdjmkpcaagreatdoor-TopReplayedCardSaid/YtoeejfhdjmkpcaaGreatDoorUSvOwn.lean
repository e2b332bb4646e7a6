/- Of the proof of a statement: WPutD, SvOwn. -/
import Derived.Test.YtoeejfhdjmkpcaaGreatDoorUGone
import Derived.Test.YtoeejfhdjmkpcaaGreatDoorUHasFL
import Derived.Test.YtoeejfhdjmkpcaaGreatDoorUSlEq
set_option linter.unusedVariables false
set_option linter.unusedSimpArgs false
set_option maxRecDepth 100000
set_option maxHeartbeats 8000000
/- The walks of Put with the closures of delta.Encode, and of texts. -/
namespace Go.Proofs.YtoeejfhdjmkpcaaGreatDoor
open Go.Lib (hid)
open Go.RowKit
theorem Mx (base g p:Nat) (l:List UInt8) (x:aA) (w:World) (hx:C8 x) (h:gZ w base g l) (hl:l.length≤90000000) (hp:Blk w p 128 #[.pointer (some ⟨g,0,none⟩)]) :
 Calls Tryz.prog 61 #[.agg (aJ x).toArray,.pointer (some ⟨p,0,none⟩)] w (kr base g (l ++ gL x 3) w):=by
 have Hx:=hid hx
 obtain⟨name,prio,need,tries,tag⟩:=x
 generalize hK:l ++ gL _ 3=K
 have HK:=hid hK
 unfold aJ
 have H0:=hid (WGo.start h 34 #[.string name,.int .i64 prio,.int .i64 need,.int .i64 tries,.string tag] (by decide))
 have y0:w.cell? ⟨p,0,none⟩=some (.pointer (some ⟨g,0,none⟩)):=hp.cell 0
 have hpl:=hp.lt
 clear h hx hp hK
 go_enter Tryz.func61,Tryz.ntmps61
 go_wp2_with fail
 refine Calls.mono (IA base g _ ⟨name,prio,need,tries,tag⟩ 3 _ (by decide) (by decide) Hx.out H0.out.ok (by have:=H0.out.len; omega)) ?_
 rintro e w1 ⟨rfl,ok1,k1⟩
 rw [HK.out] at ok1
 have hkk:=H0.out.keep.trans k1
 go_wp2
 go_end0
 exact⟨rfl,ok1,hkk⟩
theorem K9 (base g p:Nat) (l:List UInt8) (x:av) (w:World) (hx:BF x) (h:gZ w base g l) (hl:l.length≤90000000) (hp:Blk w p 128 #[.pointer (some ⟨g,0,none⟩)]) :
 Calls Tryz.prog 64 #[.agg (aB x).toArray,.pointer (some ⟨p,0,none⟩)] w (kr base g (l ++ iC x 3) w):=by
 have Hx:=hid hx
 obtain⟨name,room,zone⟩:=x
 generalize hK:l ++ iC _ 3=K
 have HK:=hid hK
 unfold aB
 have H0:=hid (WGo.start h 36 #[.string name,.int .i64 room,.string zone] (by decide))
 have y0:w.cell? ⟨p,0,none⟩=some (.pointer (some ⟨g,0,none⟩)):=hp.cell 0
 have hpl:=hp.lt
 clear h hx hp hK
 go_enter Tryz.func64,Tryz.ntmps64
 go_wp2_with fail
 refine Calls.mono (Lc base g _ ⟨name,room,zone⟩ 3 _ (by decide) Hx.out H0.out.ok (by have:=H0.out.len; omega)) ?_
 rintro e w1 ⟨rfl,ok1,k1⟩
 rw [HK.out] at ok1
 have hkk:=H0.out.keep.trans k1
 go_wp2
 go_end0
 exact⟨rfl,ok1,hkk⟩
theorem JQ (base g p:Nat) (l:List UInt8) (xs:List aA) (A:Option Addr) (n c:Nat) (w:World) (hx:aQ w base 5 A n (au aJ xs)) (hl:xs.length=n) (hn:n≤1000000) (hw:∀ x ∈ xs,C8 x) (h:gZ w base g l) (hll:l.length≤1000000) (hp:Blk w p 128 #[.pointer (some ⟨g,0,none⟩)]) (hpg:p≠g) :
 Calls Tryz.prog 60 #[.pointer (some ⟨g,0,none⟩),.slice A n c,.func (.func 61) #[] #[.pointer (some ⟨p,0,none⟩)]] w (kr base g (l ++ iW (fun x=>gL x 3) xs) w):=by
 have pG:∀ k,((xs.take k).flatMap (fun x=>gL x 3)).length≤85*n:=fun k=>by
  have h1:=nC (enc:=fun x=>gL x 3) (fun x=>xG _ 3) (xs.take k)
  have h2:(xs.take k).length≤n:=by rw [List.length_take]; omega
  omega
 have hnl:=eY n
 have Hlen:=hid (show ∀ k,(l ++ bJ n ++ (xs.take k).flatMap (fun x=>gL x 3)).length≤90000000 from fun k=>by have:=pG k; simp only [List.length_append]; omega)
 have bO:=hid (show l ++ iW (fun x=>gL x 3) xs=l ++ bJ n ++ (xs.take n).flatMap (fun x=>gL x 3) from by unfold iW; rw [← hl,List.take_length,List.append_assoc])
 have HN:=hid (pA base g l (n:Int) w (by omega) h (by omega))
 have Hw:=hid hw
 have Hl:=hid hl
 have Hx:=hid hx
 have Ho:=hid h
 have Hp:=hid hp
 clear hw hl hx h pG hnl hp
 go_enter Tryz.func60,Tryz.ntmps60
 go_wp2_with fail
 refine Calls.mono HN.out ?_
 rintro e w0 ⟨rfl,ok0,k0⟩
 rw [show ((n:Int)).toNat=n from by omega] at ok0
 have Ok0:=hid ok0
 have K0:=hid k0
 clear ok0 k0
 go_wp2
 go_loopw [7,14] (fun _ i wr=>wR (fun x=>gL x 3) xs n base g l w i wr) (fun _ i _=>n - (intOf i).toNat)
 case atStart=>exact⟨0,Nat.zero_le _,rfl,by simpa using Ok0.out,K0.out⟩
 case round=>
  obtain⟨k,hk,rfl,hok,hkp⟩:=hrel
  have Hok:=hid hok
  have Hkp:=hid hkp
  have hsz:=hok.size
  have hB:=Ho.out.keep hkp
  clear hok hkp
  by_cases hlt:k<n
  · obtain⟨x,hf⟩:∃ x,xs[k]? = some x:=⟨_,List.getElem?_eq_getElem (by rw [Hl.out]; exact hlt)⟩
    obtain⟨b,off,rfl,hbB,hc⟩:=(Hx.out.below hB).cR aP Hl.out hf
    have hso:=hid (Hw.out x (List.mem_of_getElem? hf))
    have Hst:=hid (qB (fun x=>gL x 3) hf)
    obtain⟨X,hX⟩:∃ X,X=x:=⟨_,rfl⟩
    have HX:=hid hX
    obtain⟨name,prio,need,tries,tag⟩:=x
    obtain⟨c0,c1,c2,c3,c4⟩:=rc5 hc
    clear hc hf hX hB
    have hlb:b<wr.heap.size:=by omega
    have hba:Below wr.heap.size wr (wr.alloc (.cells #[.string name,.int .i64 prio,.int .i64 need,.int .i64 tries,.string tag] 34)):=(Below.refl _ _).alloc (Nat.le_refl _) _
    have Hba:=hid hba
    have Ha:=hid (Hok.out.below hba)
    have Hkl:=hid (Hlen.out k)
    have Hpa:=hid ((Hkp.out.blk Hp.out (by decide) (by intro e; subst e; exact hpg rfl)).alloc (.cells #[.string name,.int .i64 prio,.int .i64 need,.int .i64 tries,.string tag] 34))
    clear hba
    go_wp2_with fail
    refine Calls.mono (Mx base g p _ ⟨name,prio,need,tries,tag⟩ _ hso.out Ha.out Hkl.out Hpa.out) ?_
    rintro e w1 ⟨rfl,ok1,k1⟩
    have Hk1:=hid (Hkp.out.trans ((dB.of_below Hba.out).trans k1))
    have Ok1:=hid (show gZ w1 base g (l ++ bJ n ++ (xs.take (k+1)).flatMap (fun x=>gL x 3)) from by rw [Hst.out,← List.append_assoc]; exact ok1)
    clear ok1 k1
    go_wp2
    go_roundw
    case rel=>exact⟨k+1,by omega,by go_num,Ok1.out,Hk1.out⟩
    case measure=>simp [intOf]; omega
  · obtain rfl:k=n:=by omega
    go_wp2
    go_end0
    exact⟨rfl,by rw [bO.out]; exact Hok.out,Hkp.out⟩
theorem GV (base g p:Nat) (l:List UInt8) (xs:List av) (A:Option Addr) (n c:Nat) (w:World) (hx:aQ w base 3 A n (au aB xs)) (hl:xs.length=n) (hn:n≤1000000) (hw:∀ x ∈ xs,BF x) (h:gZ w base g l) (hll:l.length≤1000000) (hp:Blk w p 128 #[.pointer (some ⟨g,0,none⟩)]) (hpg:p≠g) :
 Calls Tryz.prog 63 #[.pointer (some ⟨g,0,none⟩),.slice A n c,.func (.func 64) #[] #[.pointer (some ⟨p,0,none⟩)]] w (kr base g (l ++ iW (fun x=>iC x 3) xs) w):=by
 have pG:∀ k,((xs.take k).flatMap (fun x=>iC x 3)).length≤85*n:=fun k=>by
  have h1:=nC (enc:=fun x=>iC x 3) (fun x=>zB _ 3) (xs.take k)
  have h2:(xs.take k).length≤n:=by rw [List.length_take]; omega
  omega
 have hnl:=eY n
 have Hlen:=hid (show ∀ k,(l ++ bJ n ++ (xs.take k).flatMap (fun x=>iC x 3)).length≤90000000 from fun k=>by have:=pG k; simp only [List.length_append]; omega)
 have bO:=hid (show l ++ iW (fun x=>iC x 3) xs=l ++ bJ n ++ (xs.take n).flatMap (fun x=>iC x 3) from by unfold iW; rw [← hl,List.take_length,List.append_assoc])
 have HN:=hid (pA base g l (n:Int) w (by omega) h (by omega))
 have Hw:=hid hw
 have Hl:=hid hl
 have Hx:=hid hx
 have Ho:=hid h
 have Hp:=hid hp
 clear hw hl hx h pG hnl hp
 go_enter Tryz.func63,Tryz.ntmps63
 go_wp2_with fail
 refine Calls.mono HN.out ?_
 rintro e w0 ⟨rfl,ok0,k0⟩
 rw [show ((n:Int)).toNat=n from by omega] at ok0
 have Ok0:=hid ok0
 have K0:=hid k0
 clear ok0 k0
 go_wp2
 go_loopw [7,14] (fun _ i wr=>wR (fun x=>iC x 3) xs n base g l w i wr) (fun _ i _=>n - (intOf i).toNat)
 case atStart=>exact⟨0,Nat.zero_le _,rfl,by simpa using Ok0.out,K0.out⟩
 case round=>
  obtain⟨k,hk,rfl,hok,hkp⟩:=hrel
  have Hok:=hid hok
  have Hkp:=hid hkp
  have hsz:=hok.size
  have hB:=Ho.out.keep hkp
  clear hok hkp
  by_cases hlt:k<n
  · obtain⟨x,hf⟩:∃ x,xs[k]? = some x:=⟨_,List.getElem?_eq_getElem (by rw [Hl.out]; exact hlt)⟩
    obtain⟨b,off,rfl,hbB,hc⟩:=(Hx.out.below hB).cR aL Hl.out hf
    have hso:=hid (Hw.out x (List.mem_of_getElem? hf))
    have Hst:=hid (qB (fun x=>iC x 3) hf)
    obtain⟨X,hX⟩:∃ X,X=x:=⟨_,rfl⟩
    have HX:=hid hX
    obtain⟨name,room,zone⟩:=x
    obtain⟨c0,c1,c2⟩:=rc3 hc
    clear hc hf hX hB
    have hlb:b<wr.heap.size:=by omega
    have hba:Below wr.heap.size wr (wr.alloc (.cells #[.string name,.int .i64 room,.string zone] 36)):=(Below.refl _ _).alloc (Nat.le_refl _) _
    have Hba:=hid hba
    have Ha:=hid (Hok.out.below hba)
    have Hkl:=hid (Hlen.out k)
    have Hpa:=hid ((Hkp.out.blk Hp.out (by decide) (by intro e; subst e; exact hpg rfl)).alloc (.cells #[.string name,.int .i64 room,.string zone] 36))
    clear hba
    go_wp2_with fail
    refine Calls.mono (K9 base g p _ ⟨name,room,zone⟩ _ hso.out Ha.out Hkl.out Hpa.out) ?_
    rintro e w1 ⟨rfl,ok1,k1⟩
    have Hk1:=hid (Hkp.out.trans ((dB.of_below Hba.out).trans k1))
    have Ok1:=hid (show gZ w1 base g (l ++ bJ n ++ (xs.take (k+1)).flatMap (fun x=>iC x 3)) from by rw [Hst.out,← List.append_assoc]; exact ok1)
    clear ok1 k1
    go_wp2
    go_roundw
    case rel=>exact⟨k+1,by omega,by go_num,Ok1.out,Hk1.out⟩
    case measure=>simp [intOf]; omega
  · obtain rfl:k=n:=by omega
    go_wp2
    go_end0
    exact⟨rfl,by rw [bO.out]; exact Hok.out,Hkp.out⟩
theorem rG (base g p:Nat) (l:List UInt8) (xs:List ByteArray) (A:Option Addr) (n c:Nat) (w:World) (hx:aQ w base 1 A n (au jh xs)) (hl:xs.length=n) (hn:n≤1000000) (hw:∀ x ∈ xs,x.size≤9223372036854775807) (h:gZ w base g l) (hll:l.length≤1000000) :
 Calls Tryz.prog 68 #[.pointer (some ⟨g,0,none⟩),.slice A n c,.func (.func 69) #[.pointer (some ⟨g,0,none⟩)] #[]] w (kr base g (l ++ iW fB xs) w):=by
 have pG:∀ k,((xs.take k).flatMap fB).length≤85*n:=fun k=>by
  have h1:=nC (enc:=fB) (by have:=fH; intro x; have:=this x; omega) (xs.take k)
  have h2:(xs.take k).length≤n:=by rw [List.length_take]; omega
  omega
 have hnl:=eY n
 have Hlen:=hid (show ∀ k,(l ++ bJ n ++ (xs.take k).flatMap fB).length≤90000000 from fun k=>by have:=pG k; simp only [List.length_append]; omega)
 have bO:=hid (show l ++ iW fB xs=l ++ bJ n ++ (xs.take n).flatMap fB from by unfold iW; rw [← hl,List.take_length,List.append_assoc])
 have HN:=hid (pA base g l (n:Int) w (by omega) h (by omega))
 have Hw:=hid hw
 have Hl:=hid hl
 have Hx:=hid hx
 have Ho:=hid h
 clear hw hl hx h pG hnl
 go_enter Tryz.func68,Tryz.ntmps68
 go_wp2_with fail
 refine Calls.mono HN.out ?_
 rintro e w0 ⟨rfl,ok0,k0⟩
 rw [show ((n:Int)).toNat=n from by omega] at ok0
 have Ok0:=hid ok0
 have K0:=hid k0
 clear ok0 k0
 go_wp2
 go_loopw [7,14] (fun _ i wr=>wR fB xs n base g l w i wr) (fun _ i _=>n - (intOf i).toNat)
 case atStart=>exact⟨0,Nat.zero_le _,rfl,by simpa using Ok0.out,K0.out⟩
 case round=>
  obtain⟨k,hk,rfl,hok,hkp⟩:=hrel
  have Hok:=hid hok
  have Hkp:=hid hkp
  have hsz:=hok.size
  have hB:=Ho.out.keep hkp
  clear hok hkp
  by_cases hlt:k<n
  · obtain⟨x,hf⟩:∃ x,xs[k]? = some x:=⟨_,List.getElem?_eq_getElem (by rw [Hl.out]; exact hlt)⟩
    obtain⟨b,off,rfl,hbB,hc⟩:=(Hx.out.below hB).cR eC Hl.out hf
    have hso:=hid (Hw.out x (List.mem_of_getElem? hf))
    have Hst:=hid (qB fB hf)
    have c0:wr.cell? ⟨b,off+k*1,none⟩=some (.string x):=hc 0 _ rfl
    rw [Nat.mul_one] at c0
    clear hc hf hB
    have hlb:b<wr.heap.size:=by omega
    have Ha:=hid Hok.out
    have Hkl:=hid (Hlen.out k)
    go_wp2_with fail
    refine Calls.mono (su base g _ x _ hso.out Ha.out (by have:=Hkl.out; omega)) ?_
    rintro e w1 ⟨rfl,ok1,k1⟩
    have Hk1:=hid (Hkp.out.trans k1)
    have Ok1:=hid (show gZ w1 base g (l ++ bJ n ++ (xs.take (k+1)).flatMap fB) from by rw [Hst.out,← List.append_assoc]; exact ok1)
    clear ok1 k1
    go_wp2
    go_roundw
    case rel=>exact⟨k+1,by omega,by go_num,Ok1.out,Hk1.out⟩
    case measure=>simp [intOf]; omega
  · obtain rfl:k=n:=by omega
    go_wp2
    go_end0
    exact⟨rfl,by rw [bO.out]; exact Hok.out,Hkp.out⟩
end Go.Proofs.YtoeejfhdjmkpcaaGreatDoor
/- The walk of serve.own: a state of one's own. -/
namespace Go.Proofs.YtoeejfhdjmkpcaaGreatDoor
open Go.Lib (hid)
open Go.RowKit
def Ju (B:Nat) (x γ:StA):Nat→Value→Prop
 | 0,u=>u = .pointer (some ⟨B,1,none⟩)
 | 1,u=>u = .slice x.aj x.nj x.cj
 | 2,u=>u = .slice γ.aj x.nj γ.cj
 | 3,u=>u = .pointer (some ⟨B,2,none⟩)
 | 4,u=>u = .slice x.an x.nn x.cn
 | 5,u=>u = .slice γ.an x.nn γ.cn
 | 6,u=>u = .pointer (some ⟨B,3,none⟩)
 | 7,u=>u = .slice x.al x.nl x.cl
 | 8,u=>u = .slice γ.al x.nl γ.cl
 | 9,u=>u = .pointer (some ⟨B,1,none⟩)
 | 11,u=>u = .pointer (some ⟨B,2,none⟩)
 | 13,u=>u = .pointer (some ⟨B,3,none⟩)
 | _,_=>True
structure D5 (w0:World) (st:ak) (x γ:StA) (c k:Nat) (w:World):Prop where
 below:Below w0.heap.size w0 w
 blk:Blk w w0.heap.size 26 #[.int .i64 st.rev,if 0<k then .slice γ.aj x.nj γ.cj else .slice x.aj x.nj x.cj,if 1<k then .slice γ.an x.nn γ.cn else .slice x.an x.nn x.cn,if 2<k then .slice γ.al x.nl γ.cl else .slice x.al x.nl x.cl]
 res:Blk w (w0.heap.size+1) 26 rB
 j:0<c→w.ownsRow (w0.heap.size+2) 34 5 (.slice γ.aj x.nj γ.cj) x.nj (au aJ st.jobs)
 n:1<c→w.ownsRow (w0.heap.size+2) 36 3 (.slice γ.an x.nn γ.cn) x.nn (au aB st.nodes)
 l:2<c→w.ownsRow (w0.heap.size+2) 38 3 (.slice γ.al x.nl γ.cl) x.nl (au ay st.leases)
def My (w0:World) (st:ak) (x:StA) (p:Nat) (γ:StA) (w:World):Prop:=D5 w0 st x γ p (p - 3) w
theorem yK {B:Nat} {x γ γ':StA} (d:Nat) (h2:d≠2→γ'.aj=γ.aj∧γ'.cj=γ.cj) (h5:d≠5→γ'.an=γ.an∧γ'.cn=γ.cn) (h8:d≠8→γ'.al=γ.al∧γ'.cl=γ.cl):∀ j v,j≠d→Ju B x γ j v→Ju B x γ' j v:=by
 intro j v hj h
 match j,hj,h with
 | 0,_,h=>exact h
 | 1,_,h=>exact h
 | 2,hj,h=>obtain⟨e1,e2⟩:=h2 (fun e=>hj e.symm); exact (show v=_ by rw [e1,e2]; exact h)
 | 3,_,h=>exact h
 | 4,_,h=>exact h
 | 5,hj,h=>obtain⟨e1,e2⟩:=h5 (fun e=>hj e.symm); exact (show v=_ by rw [e1,e2]; exact h)
 | 6,_,h=>exact h
 | 7,_,h=>exact h
 | 8,hj,h=>obtain⟨e1,e2⟩:=h8 (fun e=>hj e.symm); exact (show v=_ by rw [e1,e2]; exact h)
 | 9,_,h=>exact h
 | 10,_,_=>trivial
 | 11,_,h=>exact h
 | 12,_,_=>trivial
 | 13,_,h=>exact h
 | _+14,_,_=>trivial
def Cy (st:ak) (x:StA) (w:World) (e:Ending) (w':World):Prop:=
 ∃ x':StA,e = .returned (.agg (stC st x'))∧x'.nj=x.nj∧x'.nn=x.nn∧x'.nl=x.nl∧StOwn w' (w.heap.size+2) st x'∧Below w.heap.size w w'
theorem mG (st:ak) (x:StA) (w:World) (hS:StAt w w.heap.size st x) (h1:x.nj≤1000) (h2:x.nn≤1000) (h3:x.nl≤1000) :
 Calls Tryz.prog 43 #[.agg (stC st x)] w (Cy st x w):=by
 have hb1:Below w.heap.size w (w.alloc (.cells (stC st x) 26)):=(Below.refl _ _).alloc (Nat.le_refl _) _
 have hb2:=hb1.alloc hb1.size (.cells rB 26)
 have H0:D5 w st x x 0 0 (((w.alloc (.cells (stC st x) 26)).alloc (.cells rB 26))).drew:=
  { below:=hb2.drew
    blk:=Blk.alloc (show Blk _ _ _ _ from heap_alloc_new w _) _
    res:=by
     have h:=heap_alloc_new (w.alloc (.cells (stC st x) 26)) (.cells rB 26)
     rw [show (w.alloc (.cells (stC st x) 26)).heap.size=w.heap.size+1 by simp] at h
     exact h
    j:=fun h=>absurd h (by omega)
    n:=fun h=>absurd h (by omega)
    l:=fun h=>absurd h (by omega) }
 have HS:=hid hS
 clear hb1 hb2 hS
 go_enter Tryz.func43,Tryz.ntmps43
 unfold stC at *
 go_wp2_with fail
 refine cH (n:=16) (by kernel_rfl) (Ju w.heap.size x) [2,5,8,10,12,14] (My w st x) x (by decide +kernel) (by decide +kernel) rfl H0 ?_ ?_
 · refine⟨?_,?_,?_,?_,?_,?_,?_,?_,?_,?_,?_,?_,?_,?_,?_,trivial⟩
   · refine⟨rfl,.inr ⟨by decide,0,6,by decide +kernel,by decide +kernel,fun p γ a wx _ hph hp hk=>?_⟩⟩
     have h1:=hk.k 1 rfl
     simp [go_sem,Oper.wp,execOp,Act.eval,h1]
     exact⟨_,rfl,rfl,hp⟩
   · refine⟨rfl,.inr ⟨by decide,0,0,by decide +kernel,by decide +kernel,fun p γ a wx _ hph hp hk=>?_⟩⟩
     obtain⟨u1,hu1,ru1⟩:=hk.g 0 3 rfl rfl
     replace ru1:u1=_:=ru1
     subst ru1
     have hc:wx.cell? ⟨w.heap.size,1,none⟩=some (.slice x.aj x.nj x.cj):=by
      have h:=hp.blk.cell 1
      simp only [List.getElem?_toArray,List.getElem?_cons_succ,List.getElem?_cons_zero] at h
      rw [h,if_neg (by omega)]
     simp [go_sem,Oper.wp,execOp,Act.eval,hu1,hc]
     exact⟨_,rfl,rfl,hp⟩
   · refine⟨rfl,.inl ⟨0,rfl,fun γ a wx hp hk=>?_⟩⟩
     obtain⟨u1,hu1,ru1⟩:=hk.g 1 4 rfl rfl
     replace ru1:u1=_:=ru1
     subst ru1
     simp [go_sem,Oper.wp,execOp,Act.eval,hu1]
     refine (F8 st.jobs x.aj x.nj x.cj wx (HS.out.j.below hp.below |>.more hp.below.size) HS.out.lj (by omega)).mono ?_
     rintro e w' ⟨A',c',rfl,ho,hb⟩
     rw [HS.out.lj] at ho ⊢
     exact⟨_,rfl,{ γ with aj:=A',cj:=c' },yK 2 (fun h=>absurd rfl h) (fun _=>⟨rfl,rfl⟩) (fun _=>⟨rfl,rfl⟩),rfl,{ below:=hp.below.trans (hb.mono hp.below.size),blk:=Blk.eq (hp.blk.below hb hp.blk.lt) (by simp),res:=hp.res.below hb hp.res.lt,j:=fun _=>bL ho (by have:=hp.res.lt; omega),n:=fun h=>absurd h (by omega),l:=fun h=>absurd h (by omega) }⟩
   · refine⟨rfl,.inr ⟨by decide,0,6,by decide +kernel,by decide +kernel,fun p γ a wx _ hph hp hk=>?_⟩⟩
     have h1:=hk.k 1 rfl
     simp [go_sem,Oper.wp,execOp,Act.eval,h1]
     exact⟨_,rfl,rfl,hp⟩
   · refine⟨rfl,.inr ⟨by decide,0,1,by decide +kernel,by decide +kernel,fun p γ a wx _ hph hp hk=>?_⟩⟩
     obtain⟨u1,hu1,ru1⟩:=hk.g 3 6 rfl rfl
     replace ru1:u1=_:=ru1
     subst ru1
     have hc:wx.cell? ⟨w.heap.size,2,none⟩=some (.slice x.an x.nn x.cn):=by
      have h:=hp.blk.cell 2
      simp only [List.getElem?_toArray,List.getElem?_cons_succ,List.getElem?_cons_zero] at h
      rw [h,if_neg (by omega)]
     simp [go_sem,Oper.wp,execOp,Act.eval,hu1,hc]
     exact⟨_,rfl,rfl,hp⟩
   · refine⟨rfl,.inl ⟨1,rfl,fun γ a wx hp hk=>?_⟩⟩
     obtain⟨u1,hu1,ru1⟩:=hk.g 4 7 rfl rfl
     replace ru1:u1=_:=ru1
     subst ru1
     simp [go_sem,Oper.wp,execOp,Act.eval,hu1]
     refine (D4 st.nodes x.an x.nn x.cn wx (HS.out.n.below hp.below |>.more hp.below.size) HS.out.ln (by omega)).mono ?_
     rintro e w' ⟨A',c',rfl,ho,hb⟩
     rw [HS.out.ln] at ho ⊢
     exact⟨_,rfl,{ γ with an:=A',cn:=c' },yK 5 (fun _=>⟨rfl,rfl⟩) (fun h=>absurd rfl h) (fun _=>⟨rfl,rfl⟩),rfl,{ below:=hp.below.trans (hb.mono hp.below.size),blk:=Blk.eq (hp.blk.below hb hp.blk.lt) (by simp),res:=hp.res.below hb hp.res.lt,j:=fun _=>aC (hp.j (by omega)) hb,n:=fun _=>bL ho (by have:=hp.res.lt; omega),l:=fun h=>absurd h (by omega) }⟩
   · refine⟨rfl,.inr ⟨by decide,0,6,by decide +kernel,by decide +kernel,fun p γ a wx _ hph hp hk=>?_⟩⟩
     have h1:=hk.k 1 rfl
     simp [go_sem,Oper.wp,execOp,Act.eval,h1]
     exact⟨_,rfl,rfl,hp⟩
   · refine⟨rfl,.inr ⟨by decide,0,2,by decide +kernel,by decide +kernel,fun p γ a wx _ hph hp hk=>?_⟩⟩
     obtain⟨u1,hu1,ru1⟩:=hk.g 6 9 rfl rfl
     replace ru1:u1=_:=ru1
     subst ru1
     have hc:wx.cell? ⟨w.heap.size,3,none⟩=some (.slice x.al x.nl x.cl):=by
      have h:=hp.blk.cell 3
      simp only [List.getElem?_toArray,List.getElem?_cons_succ,List.getElem?_cons_zero] at h
      rw [h,if_neg (by omega)]
     simp [go_sem,Oper.wp,execOp,Act.eval,hu1,hc]
     exact⟨_,rfl,rfl,hp⟩
   · refine⟨rfl,.inl ⟨2,rfl,fun γ a wx hp hk=>?_⟩⟩
     obtain⟨u1,hu1,ru1⟩:=hk.g 7 10 rfl rfl
     replace ru1:u1=_:=ru1
     subst ru1
     simp [go_sem,Oper.wp,execOp,Act.eval,hu1]
     refine (Cx st.leases x.al x.nl x.cl wx (HS.out.l.below hp.below |>.more hp.below.size) HS.out.ll (by omega)).mono ?_
     rintro e w' ⟨A',c',rfl,ho,hb⟩
     rw [HS.out.ll] at ho ⊢
     exact⟨_,rfl,{ γ with al:=A',cl:=c' },yK 8 (fun _=>⟨rfl,rfl⟩) (fun _=>⟨rfl,rfl⟩) (fun h=>absurd rfl h),rfl,{ below:=hp.below.trans (hb.mono hp.below.size),blk:=Blk.eq (hp.blk.below hb hp.blk.lt) (by simp),res:=hp.res.below hb hp.res.lt,j:=fun _=>aC (hp.j (by omega)) hb,n:=fun _=>aC (hp.n (by omega)) hb,l:=fun _=>bL ho (by have:=hp.res.lt; omega) }⟩
   · refine⟨rfl,.inr ⟨by decide,0,6,by decide +kernel,by decide +kernel,fun p γ a wx _ hph hp hk=>?_⟩⟩
     have h1:=hk.k 1 rfl
     simp [go_sem,Oper.wp,execOp,Act.eval,h1]
     exact⟨_,rfl,rfl,hp⟩
   · refine⟨rfl,.inl ⟨3,rfl,fun γ a wx hp hk=>?_⟩⟩
     obtain⟨u1,hu1,ru1⟩:=hk.g 9 12 rfl rfl
     replace ru1:u1=_:=ru1
     subst ru1
     obtain⟨u2,hu2,ru2⟩:=hk.g 2 5 rfl rfl
     replace ru2:u2=_:=ru2
     subst ru2
     have hc:wx.cell? ⟨w.heap.size,1,none⟩=some (.slice x.aj x.nj x.cj):=by
      have h:=hp.blk.cell 1
      simp only [List.getElem?_toArray,List.getElem?_cons_succ,List.getElem?_cons_zero] at h
      rw [h,if_neg (by omega)]
     have hz:wx.frozen? ⟨w.heap.size,1,none⟩=false:=hp.blk.thaw 1
     simp [go_sem,Oper.wp,execOp,Act.eval,hu1,hu2,hc,hz]
     exact⟨.int .i64 0,γ,fun _ _ _ h=>h,trivial,{ below:=aI hp.below (aD wx w.heap.size 1 _) (Nat.le_refl _),blk:=Blk.eq (hp.blk.set 1 _) rfl,res:=aE (aD wx w.heap.size 1 _) hp.res (by omega),j:=fun _=>bG (hp.j (by omega)) (aD wx w.heap.size 1 _) (by omega),n:=fun _=>bG (hp.n (by omega)) (aD wx w.heap.size 1 _) (by omega),l:=fun _=>bG (hp.l (by omega)) (aD wx w.heap.size 1 _) (by omega) }⟩
   · refine⟨rfl,.inr ⟨by decide,0,6,by decide +kernel,by decide +kernel,fun p γ a wx _ hph hp hk=>?_⟩⟩
     have h1:=hk.k 1 rfl
     simp [go_sem,Oper.wp,execOp,Act.eval,h1]
     exact⟨_,rfl,rfl,hp⟩
   · refine⟨rfl,.inl ⟨4,rfl,fun γ a wx hp hk=>?_⟩⟩
     obtain⟨u1,hu1,ru1⟩:=hk.g 11 13 rfl rfl
     replace ru1:u1=_:=ru1
     subst ru1
     obtain⟨u2,hu2,ru2⟩:=hk.g 5 8 rfl rfl
     replace ru2:u2=_:=ru2
     subst ru2
     have hc:wx.cell? ⟨w.heap.size,2,none⟩=some (.slice x.an x.nn x.cn):=by
      have h:=hp.blk.cell 2
      simp only [List.getElem?_toArray,List.getElem?_cons_succ,List.getElem?_cons_zero] at h
      rw [h,if_neg (by omega)]
     have hz:wx.frozen? ⟨w.heap.size,2,none⟩=false:=hp.blk.thaw 2
     simp [go_sem,Oper.wp,execOp,Act.eval,hu1,hu2,hc,hz]
     exact⟨.int .i64 0,γ,fun _ _ _ h=>h,trivial,{ below:=aI hp.below (aD wx w.heap.size 2 _) (Nat.le_refl _),blk:=Blk.eq (hp.blk.set 2 _) rfl,res:=aE (aD wx w.heap.size 2 _) hp.res (by omega),j:=fun _=>bG (hp.j (by omega)) (aD wx w.heap.size 2 _) (by omega),n:=fun _=>bG (hp.n (by omega)) (aD wx w.heap.size 2 _) (by omega),l:=fun _=>bG (hp.l (by omega)) (aD wx w.heap.size 2 _) (by omega) }⟩
   · refine⟨rfl,.inr ⟨by decide,0,6,by decide +kernel,by decide +kernel,fun p γ a wx _ hph hp hk=>?_⟩⟩
     have h1:=hk.k 1 rfl
     simp [go_sem,Oper.wp,execOp,Act.eval,h1]
     exact⟨_,rfl,rfl,hp⟩
   · refine⟨rfl,.inl ⟨5,rfl,fun γ a wx hp hk=>?_⟩⟩
     obtain⟨u1,hu1,ru1⟩:=hk.g 13 14 rfl rfl
     replace ru1:u1=_:=ru1
     subst ru1
     obtain⟨u2,hu2,ru2⟩:=hk.g 8 11 rfl rfl
     replace ru2:u2=_:=ru2
     subst ru2
     have hc:wx.cell? ⟨w.heap.size,3,none⟩=some (.slice x.al x.nl x.cl):=by
      have h:=hp.blk.cell 3
      simp only [List.getElem?_toArray,List.getElem?_cons_succ,List.getElem?_cons_zero] at h
      rw [h,if_neg (by omega)]
     have hz:wx.frozen? ⟨w.heap.size,3,none⟩=false:=hp.blk.thaw 3
     simp [go_sem,Oper.wp,execOp,Act.eval,hu1,hu2,hc,hz]
     exact⟨.int .i64 0,γ,fun _ _ _ h=>h,trivial,{ below:=aI hp.below (aD wx w.heap.size 3 _) (Nat.le_refl _),blk:=Blk.eq (hp.blk.set 3 _) rfl,res:=aE (aD wx w.heap.size 3 _) hp.res (by omega),j:=fun _=>bG (hp.j (by omega)) (aD wx w.heap.size 3 _) (by omega),n:=fun _=>bG (hp.n (by omega)) (aD wx w.heap.size 3 _) (by omega),l:=fun _=>bG (hp.l (by omega)) (aD wx w.heap.size 3 _) (by omega) }⟩
 · intro γ a wx hd
   have hp:D5 w st x γ 6 3 wx:=hd.ph
   obtain⟨fv,rfl,-⟩:=hd.frame [3,4,5,6,7,8,9,10,11,12,13,14] rfl
   have hB:Blk wx w.heap.size 26 #[.int .i64 st.rev,.slice γ.aj x.nj γ.cj,.slice γ.an x.nn γ.cn,.slice γ.al x.nl γ.cl]:=hp.blk
   have hR:=hp.res
   have hbl:=hB.lt
   have hrl:=hR.lt
   obtain⟨b0,b1,b2,b3⟩:=Blk.c4 (hB)
   obtain⟨u0,u1,u2,u3⟩:=Blk.z4 (hR)
   obtain⟨s0,s1,s2,s3⟩:=Blk.c4 (hR)
   obtain⟨hR4,hG4⟩:=Blk.S4 (hR) (.int .i64 st.rev) (.slice γ.aj x.nj γ.cj) (.slice γ.an x.nn γ.cn) (.slice γ.al x.nl γ.cl)
   obtain⟨q0,q1,q2,q3⟩:=Blk.c4 hR4
   have aS:=hid (show Cy st x w (.returned (.agg (stC st ⟨γ.aj,x.nj,γ.cj,γ.an,x.nn,γ.cn,γ.al,x.nl,γ.cl⟩))) _ from ⟨⟨γ.aj,x.nj,γ.cj,γ.an,x.nn,γ.cn,γ.al,x.nl,γ.cl⟩,rfl,rfl,rfl,rfl,⟨bG (hp.j (by omega)) hG4 (by omega),bG (hp.n (by omega)) hG4 (by omega),bG (hp.l (by omega)) hG4 (by omega),HS.out.lj,HS.out.ln,HS.out.ll⟩,aI hp.below hG4 (by omega)⟩)
   clear hd hp hB hR hR4 hG4 H0
   simp [Exit.then]
   go_wp2
   refine bodyPost_ret (v:=.agg #[.int .i64 st.rev,.slice γ.aj x.nj γ.cj,.slice γ.an x.nn γ.cn,.slice γ.al x.nl γ.cl]) (by simp [results,Tryz.results43,go_sem, *]) rfl ?_
   exact aS.out
end Go.Proofs.YtoeejfhdjmkpcaaGreatDoor
