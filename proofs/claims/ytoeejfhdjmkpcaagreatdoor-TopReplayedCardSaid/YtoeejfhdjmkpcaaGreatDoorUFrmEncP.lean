/- Of the proof of a statement: FrmEncP, PlBack. -/
import Derived.Deep.DeepCutAuto
import Derived.Test.YtoeejfhdjmkpcaaGreatDoorUArgSt
set_option linter.unusedVariables false
set_option linter.unusedSimpArgs false
set_option maxRecDepth 100000
set_option maxHeartbeats 8000000
/- The walk of frame.Encode. -/
namespace Go.Proofs.YtoeejfhdjmkpcaaGreatDoor
open Go.Lib (hid)
open Go.RowKit
def J9 (g:Nat) (v k:Int) (p:ByteArray):Nat→Value→World→Prop
 | 0,u,_=>u = .pointer (some ⟨g,0,none⟩)
 | 1,u,_=>u = .int .i64 v
 | 2,u,_=>u = .int .u8 v
 | 3,u,_=>u = .pointer (some ⟨g,1,none⟩)
 | 4,u,_=>u = .int .i64 k
 | 5,u,_=>u = .int .u8 k
 | 6,u,w=>∃ b,u = .slice (some ⟨b,0,none⟩) 2 2∧w.cell? ⟨b,0,none⟩=some (.int .u8 v)∧w.cell? ⟨b,1,none⟩=some (.int .u8 k)
 | 7,u,_=>u = .string ⟨#[UInt8.ofNat v.toNat,UInt8.ofNat k.toNat]⟩
 | 8,u,_=>u = .string (⟨#[66,75]⟩ ++ ⟨#[UInt8.ofNat v.toNat,UInt8.ofNat k.toNat]⟩)
 | 9,u,_=>u = .pointer (some ⟨g,2,none⟩)
 | 10,u,_=>u = .string p
 | 11,u,_=>u = .int .i64 p.size
 | 12,u,_=>u = .int .u64 p.size
 | 13,u,_=>u = .string ⟨(bJ p.size).toArray⟩
 | 14,u,_=>u = .string (⟨#[66,75]⟩ ++ ⟨#[UInt8.ofNat v.toNat,UInt8.ofNat k.toNat]⟩ ++ ⟨(bJ p.size).toArray⟩)
 | 15,u,_=>u = .pointer (some ⟨g,2,none⟩)
 | 16,u,_=>u = .string p
 | _,u,_=>u = .string (⟨#[66,75]⟩ ++ ⟨#[UInt8.ofNat v.toNat,UInt8.ofNat k.toNat]⟩ ++ ⟨(bJ p.size).toArray⟩ ++ p)
theorem BH (g:Nat) (v k:Int) (p:ByteArray) (i:Nat) (u:Value) (w w':World) (h:J9 g v k p i u w) (hw:Ext w w'):J9 g v k p i u w':=by
 unfold J9 at *
 split at h
 case h_7=>obtain⟨b,e,h0,h1⟩:=h; exact⟨b,e,eX h0 hw,eX h1 hw⟩
 all_goals exact h
theorem Ep (v k:Int) (p:ByteArray) (w:World) :
 Calls Tryz.prog 57 #[.agg #[.int .i64 v,.int .i64 k,.string p]] w (jP v k p w):=by
 by_cases hv:v<1∨3<v
 · have bO:=hid (fun (w':World)=>jP.arg (v:=v) (k:=k) (p:=p) (w:=w) (w':=w') (by omega))
   have HV:=hid hv
   clear hv
   go_enter Tryz.func57,Tryz.ntmps57
   go_wp2_with (go_at_call 52; refine (sY _ HV.out _).mono ?_; rintro e w' ⟨rfl,rfl⟩)
   go_ret2
   exact bO.out _ ((Below.refl _ _).alloc (Nat.le_refl _) _)
 have hv1:1≤v:=by omega
 have hv2:v≤3:=by omega
 clear hv
 by_cases hk:k<1∨4<k
 · have bO:=hid (fun (w':World)=>jP.arg (v:=v) (k:=k) (p:=p) (w:=w) (w':=w') (by omega))
   have HK:=hid hk
   clear hk
   go_enter Tryz.func57,Tryz.ntmps57
   go_wp2_with (first | (go_at_call 52; refine (kA _ hv1 hv2 _).mono ?_; rintro e w' ⟨rfl,rfl⟩) | (go_at_call 53; refine (zC _ HK.out _).mono ?_; rintro e w' ⟨rfl,rfl⟩))
   go_ret2
   exact bO.out _ ((Below.refl _ _).alloc (Nat.le_refl _) _)
 have hk1:1≤k:=by omega
 have hk2:k≤4:=by omega
 clear hk
 by_cases hp:6000<p.size
 · have bO:=hid (fun (w':World)=>jP.large (v:=v) (k:=k) (p:=p) (w:=w) (w':=w') (by omega) hp)
   go_enter Tryz.func57,Tryz.ntmps57
   go_wp2_with (first | (go_at_call 52; refine (kA _ hv1 hv2 _).mono ?_; rintro e w' ⟨rfl,rfl⟩) | (go_at_call 53; refine (rK _ hk1 hk2 _).mono ?_; rintro e w' ⟨rfl,rfl⟩))
   go_ret2
   exact bO.out _ ((Below.refl _ _).alloc (Nat.le_refl _) _)
 have hv8:v=(((UInt8.ofNat v.toNat).toNat:Nat):Int):=by rw [UInt8.toNat_ofNat']; omega
 have hk8:k=(((UInt8.ofNat k.toNat).toNat:Nat):Int):=by rw [UInt8.toNat_ofNat']; omega
 have MJ:∀ (W:World) (g:Nat),W.cell? ⟨g,0,none⟩=some (.int .u8 v)→W.cell? ⟨g,1,none⟩=some (.int .u8 k)→(convert 129 9 (.slice (some ⟨g,0,none⟩) 2 2)).run Tryz.prog W = .ok (.string ⟨#[UInt8.ofNat v.toNat,UInt8.ofNat k.toNat]⟩) W:=by
  intro W g h0 h1
  exact MK W g (by rw [← hv8]; exact h0) (by rw [← hk8]; exact h1)
 clear hv8 hk8
 have wv:IntKind.u8.wrap v=v:=by rw [IntKind.wrap_u8']; omega
 have wk:IntKind.u8.wrap k=k:=by rw [IntKind.wrap_u8']; omega
 have wp:IntKind.u64.wrap (p.size:Int)=p.size:=by rw [IntKind.wrap_u64]; omega
 have hl:=(dM p.size).2
 have c1:¬ 9223372036854775807<4+(bJ p.size).length:=by omega
 have c2:¬ 9223372036854775807<4+(bJ p.size).length+p.size:=by omega
 have Hlen:=hid (Ii v.toNat k.toNat p.data.toList)
 have bO:=hid (fun (s:ByteArray) (w':World)=>jP.ok (v:=v) (k:=k) (p:=p) (w:=w) (w':=w') (s:=s) (by omega) hp)
 clear hl
 go_enter Tryz.func57,Tryz.ntmps57
 go_upto_region 5 with (first | (go_at_call 52; refine (kA _ hv1 hv2 _).mono ?_; rintro e w' ⟨rfl,rfl⟩) | (go_at_call 53; refine (rK _ hk1 hk2 _).mono ?_; rintro e w' ⟨rfl,rfl⟩))
 go_cut [4] (fun s wx=>∃ S:ByteArray,s = .string S∧S.data.toList=nH v.toNat k.toNat p.data.toList∧Below w.heap.size w wx)
 case first=>
  generalize hw0:w.alloc (.cells #[.int .i64 v,.int .i64 k,.string p] 53)=w0
  have hb0:Below w.heap.size w w0:=by rw [← hw0]; exact (Below.refl _ _).alloc (Nat.le_refl _) _
  have g0:w0.cell? ⟨w.heap.size,0,none⟩=some (.int .i64 v):=by rw [← hw0]; simp [go_sem]
  have g1:w0.cell? ⟨w.heap.size,1,none⟩=some (.int .i64 k):=by rw [← hw0]; simp [go_sem]
  have g2:w0.cell? ⟨w.heap.size,2,none⟩=some (.string p):=by rw [← hw0]; simp [go_sem]
  have hg:w.heap.size<w0.heap.size:=by rw [← hw0]; simp
  clear hw0
  refine lu (n:=43) (by kernel_rfl) (J9 w.heap.size v k p) (by decide +kernel) rfl (BH _ _ _ _) ?_ ?_
  · refine⟨?_,?_,?_,?_,?_,?_,?_,?_,?_,?_,?_,?_,?_,?_,?_,?_,?_,?_,?_,trivial⟩
    all_goals (intro a wx hle hkeep fF; refine⟨rfl,?_⟩)
    · have h1:=hkeep 1 _ rfl (by decide +kernel)
      simp [go_sem,Oper.wp,execOp,Act.eval,h1]
      exact⟨_,rfl,Below.refl _ _,rfl⟩
    · obtain⟨u1,h1,r1⟩:=fF 0 _ 21 rfl rfl (by decide +kernel)
      replace r1:u1=_:=r1
      subst r1
      have hc:=eX g0 hle
      simp [go_sem,Oper.wp,execOp,Act.eval,h1,hc]
      exact⟨_,rfl,Below.refl _ _,rfl⟩
    · obtain⟨u1,h1,r1⟩:=fF 1 _ 22 rfl rfl (by decide +kernel)
      replace r1:u1=_:=r1
      subst r1
      simp [go_sem,Oper.wp,execOp,Act.eval,h1,wv]
      exact⟨_,rfl,Below.refl _ _,rfl⟩
    · have h1:=hkeep 1 _ rfl (by decide +kernel)
      simp [go_sem,Oper.wp,execOp,Act.eval,h1]
      exact⟨_,rfl,Below.refl _ _,rfl⟩
    · obtain⟨u1,h1,r1⟩:=fF 3 _ 24 rfl rfl (by decide +kernel)
      replace r1:u1=_:=r1
      subst r1
      have hc:=eX g1 hle
      simp [go_sem,Oper.wp,execOp,Act.eval,h1,hc]
      exact⟨_,rfl,Below.refl _ _,rfl⟩
    · obtain⟨u1,h1,r1⟩:=fF 4 _ 25 rfl rfl (by decide +kernel)
      replace r1:u1=_:=r1
      subst r1
      simp [go_sem,Oper.wp,execOp,Act.eval,h1,wk]
      exact⟨_,rfl,Below.refl _ _,rfl⟩
    · obtain⟨u1,h1,r1⟩:=fF 2 _ 23 rfl rfl (by decide +kernel)
      replace r1:u1=_:=r1
      subst r1
      obtain⟨u2,h2,r2⟩:=fF 5 _ 26 rfl rfl (by decide +kernel)
      replace r2:u2=_:=r2
      subst r2
      simp [go_sem,Oper.wp,execOp,Act.eval,h1,h2]
      exact⟨_,rfl,(Below.refl _ _).alloc (Nat.le_refl _) _,wx.heap.size,rfl,by simp [go_sem],by simp [go_sem]⟩
    · obtain⟨u1,h1,b,e1,x0,x1⟩:=fF 6 _ 27 rfl rfl (by decide +kernel)
      subst e1
      have hr:=MJ wx b x0 x1
      simp [go_sem,Oper.wp,execOp,Act.eval,h1,hr]
      exact⟨_,rfl,Below.refl _ _,rfl⟩
    · obtain⟨u1,h1,r1⟩:=fF 7 _ 28 rfl rfl (by decide +kernel)
      replace r1:u1=_:=r1
      subst r1
      simp [go_sem,Oper.wp,execOp,Act.eval,h1]
      exact⟨_,rfl,Below.refl _ _,rfl⟩
    · have h1:=hkeep 1 _ rfl (by decide +kernel)
      simp [go_sem,Oper.wp,execOp,Act.eval,h1]
      exact⟨_,rfl,Below.refl _ _,rfl⟩
    · obtain⟨u1,h1,r1⟩:=fF 9 _ 30 rfl rfl (by decide +kernel)
      replace r1:u1=_:=r1
      subst r1
      have hc:=eX g2 hle
      simp [go_sem,Oper.wp,execOp,Act.eval,h1,hc]
      exact⟨_,rfl,Below.refl _ _,rfl⟩
    · obtain⟨u1,h1,r1⟩:=fF 10 _ 31 rfl rfl (by decide +kernel)
      replace r1:u1=_:=r1
      subst r1
      simp [go_sem,Oper.wp,execOp,Act.eval,h1]
      exact⟨_,rfl,Below.refl _ _,rfl⟩
    · obtain⟨u1,h1,r1⟩:=fF 11 _ 32 rfl rfl (by decide +kernel)
      replace r1:u1=_:=r1
      subst r1
      simp [go_sem,Oper.wp,execOp,Act.eval,h1,wp]
      exact⟨_,rfl,Below.refl _ _,rfl⟩
    · obtain⟨u1,h1,r1⟩:=fF 12 _ 33 rfl rfl (by decide +kernel)
      replace r1:u1=_:=r1
      subst r1
      simp [go_sem,Oper.wp,execOp,Act.eval,h1]
      refine (xM _ _ (by omega) (by omega)).mono ?_
      rintro e w' ⟨rfl,hb⟩
      exact⟨_,rfl,hb,rfl⟩
    · obtain⟨u1,h1,r1⟩:=fF 8 _ 29 rfl rfl (by decide +kernel)
      replace r1:u1=_:=r1
      subst r1
      obtain⟨u2,h2,r2⟩:=fF 13 _ 34 rfl rfl (by decide +kernel)
      replace r2:u2=_:=r2
      subst r2
      simp [go_sem,Oper.wp,execOp,Act.eval,h1,h2,c1]
      exact⟨_,rfl,Below.refl _ _,rfl⟩
    · have h1:=hkeep 1 _ rfl (by decide +kernel)
      simp [go_sem,Oper.wp,execOp,Act.eval,h1]
      exact⟨_,rfl,Below.refl _ _,rfl⟩
    · obtain⟨u1,h1,r1⟩:=fF 15 _ 36 rfl rfl (by decide +kernel)
      replace r1:u1=_:=r1
      subst r1
      have hc:=eX g2 hle
      simp [go_sem,Oper.wp,execOp,Act.eval,h1,hc]
      exact⟨_,rfl,Below.refl _ _,rfl⟩
    · obtain⟨u1,h1,r1⟩:=fF 14 _ 35 rfl rfl (by decide +kernel)
      replace r1:u1=_:=r1
      subst r1
      obtain⟨u2,h2,r2⟩:=fF 16 _ 37 rfl rfl (by decide +kernel)
      replace r2:u2=_:=r2
      subst r2
      simp [go_sem,Oper.wp,execOp,Act.eval,h1,h2,c2]
      exact⟨_,rfl,Below.refl _ _,rfl⟩
    · obtain⟨u1,h1,r1⟩:=fF 17 _ 38 rfl rfl (by decide +kernel)
      replace r1:u1=_:=r1
      subst r1
      simp [go_sem,Oper.wp,execOp,Act.eval,h1]
      exact⟨_,rfl,Below.refl _ _,rfl⟩
  · intro a wx hd
    obtain⟨f,hfe,hf⟩:=hd.frame' [21,22,23,24,25,26,27,28,29,30,31,32,33,34,35,36,37,38,4] rfl
    have r4:f 4=_:=hf 18 _ 4 rfl rfl
    have hle:=hd.le
    clear hd hf
    subst hfe
    simp only [List.foldl_cons,List.foldl_nil,List.setIfInBounds_toArray,List.set_cons_succ,List.set_cons_zero,r4]
    clear r4
    go_wp2_with fail
    go_meet
    exact⟨_,rfl,by
     simp only [ByteArray.toList_data_append,nH]
     have e:p.data.toList.length=p.size:=by rw [Array.length_toList]; rfl
     rw [e]; simp,hb0.trans (hle.mono hb0.size)⟩
 case rest=>
  obtain⟨S,rfl,hS,hb1⟩:=hcut
  have HS:=hid hS
  have hSz:S.size≤6015:=by
   have h1:=Hlen.out
   rw [← HS.out] at h1
   have e:p.data.toList.length=p.size:=by rw [Array.length_toList]; rfl
   have e2:S.data.toList.length=S.size:=by rw [Array.length_toList]; rfl
   omega
  clear hS Hlen
  go_wp2_with fail
  refine Calls.mono (BC S _ (by omega)) ?_
  rintro e w2 ⟨rfl,hb2⟩
  have hb:=hb1.trans (hb2.mono hb1.size)
  clear hb1 hb2
  have hl4:(nG S.data.toList).length≤4:=Nat.le_refl 4
  have aS:=hid (bO.out (S ++ ⟨(nG S.data.toList).toArray⟩) w2 (by rw [ByteArray.toList_data_append,HS.out]; rfl) hb)
  clear bO hb
  go_wp2
  go_ret2
  exact aS.out
end Go.Proofs.YtoeejfhdjmkpcaaGreatDoor
/- What is written is read: plain. -/
namespace Go.Proofs.YtoeejfhdjmkpcaaGreatDoor
open Go.Lib (hid)
open Go.Lib (validD)
theorem Er {s:ByteArray} {i:Nat} {c:UInt8} {r:List UInt8} (h:s.data.toList.drop i=c :: r):∃ h:i<s.size,s[i]=c∧s.data.toList.drop (i+1)=r:=by
 have hl:i<s.data.toList.length:=by
  have:=congrArg List.length h
  rw [List.length_drop,List.length_cons] at this
  omega
 rw [List.drop_eq_getElem_cons hl] at h
 injection h with h1 h2
 rw [pD] at hl
 exact⟨hl,by rw [← h1]; simp [ByteArray.getElem_eq_getElem_data],h2⟩
theorem BI (s:ByteArray) (r:List UInt8):∀ (f i acc n:Nat),f+i=10→(i=0∨0<n)→n*128 ^ i<18446744073709551616→∀ g,n<128 ^ (g+1)→s.data.toList.drop i=nI g n ++ r→rdB s f i acc=(acc+n*128 ^ i,i+(nI g n).length,0)
 | 0,i,acc,n,hf,h0,hn,g,hg,hd=>by
  exfalso
  have:i=10:=by omega
  subst this
  rcases h0 with h0 | h0
  · omega
  · have:1*128 ^ 10≤n*128 ^ 10:=Nat.mul_le_mul_right _ h0
    omega
 | f+1,i,acc,n,hf,h0,hn,g,hg,hd=>by
  by_cases h1:n<128
  · rw [j6 h1] at hd ⊢
    obtain⟨hi,hc,_⟩:=Er hd
    have hcn:s[i].toNat=n:=by rw [hc,UInt8.toNat_ofNat']; omega
    have h9:i=9→n≤1:=by
     intro e
     subst e
     rcases Nat.lt_or_ge 1 n with h2 | h2
     · have:2*128 ^ 9≤n*128 ^ 9:=Nat.mul_le_mul_right _ h2
       omega
     · exact h2
    rw [rdB,dif_pos hi,hcn,if_neg (by omega),if_pos h1,Nat.mod_eq_of_lt h1]
    rfl
  · obtain⟨g',rfl⟩:∃ g',g=g'+1:=by
     cases g with
     | zero=>exact absurd (by simpa using hg) h1
     | succ g'=>exact⟨g',rfl⟩
    have e:nI (g'+1) n=UInt8.ofNat (n % 128+128) :: nI g' (n / 128):=by rw [nI,if_neg h1]
    rw [e] at hd ⊢
    obtain⟨hi,hc,hd'⟩:=Er hd
    have hcn:s[i].toNat=n % 128+128:=by rw [hc,UInt8.toNat_ofNat']; omega
    have h9:i≠9:=by
     rintro rfl
     have:128*128 ^ 9≤n*128 ^ 9:=Nat.mul_le_mul_right _ (by omega)
     omega
    have hdiv:n / 128*128 ^ (i+1)+n % 128*128 ^ i=n*128 ^ i:=by
     have:=Nat.div_add_mod n 128
     rw [Nat.pow_succ,Nat.mul_comm (128 ^ i) 128,← Nat.mul_assoc,← Nat.add_mul,Nat.mul_comm (n / 128) 128,this]
    rw [rdB,dif_pos hi,hcn,if_neg (by omega),if_neg (by omega),BI s r f (i+1) _ (n / 128) (by omega) (.inr (by omega)) (by omega) g' (by
     rw [Nat.pow_succ] at hg
     exact Nat.div_lt_of_lt_mul (by rw [Nat.mul_comm]; exact hg)) hd']
    have e2:(n % 128+128) % 128=n % 128:=by omega
    rw [e2,List.length_cons]
    refine Prod.ext ?_ (Prod.ext ?_ rfl)
    · show acc+n % 128*128 ^ i+n / 128*128 ^ (i+1)=acc+n*128 ^ i
      omega
    · show i+1+(nI g' (n / 128)).length=i+((nI g' (n / 128)).length+1)
      omega
theorem rM (n:Nat) (hn:n<18446744073709551616) (r:List UInt8):rdNum (BA (bJ n ++ r))=(n,(bJ n).length,0):=by
 have:=BI (BA (bJ n ++ r)) r 10 0 0 n rfl (.inl rfl) (by simpa using hn) 10 (by omega) rfl
 rw [show nI 10 n=bJ n from rfl] at this
 simpa [rdNum] using this
theorem iP (n:Nat) (hn:n≤4611686018427387904) (r:List UInt8):cO (BA (bJ n ++ r)) = .ok n (BA r):=by
 rw [Av (rM n (by omega) r) (by omega),Au,List.drop_left]
theorem Kb {s:ByteArray} (h:iT s=true):fB s=bJ s.size ++ s.data.toList:=by
 unfold iT at h
 simp only [Bool.and_eq_true,decide_eq_true_eq] at h
 unfold fB tq
 rw [if_neg (by omega),if_pos h.2,rN (by omega)]
 simp [ByteArray.data_append]
theorem C9 (a b c:List UInt8):(BA (a ++ (b ++ c))).extract a.length (a.length+b.length)=BA b:=by
 rw [← zZ ((BA (a ++ (b ++ c))).extract a.length (a.length+b.length))]
 congr 1
 rw [ByteArray.data_extract,Array.toList_extract,List.extract_eq_take_drop,kB,List.drop_left,Nat.add_sub_cancel_left,List.take_left]
theorem gF {s:ByteArray} (h:iT s=true) (r:List UInt8):bH (BA (fB s ++ r)) = .ok s (BA r):=by
 have h':=h
 unfold iT at h'
 simp only [Bool.and_eq_true,decide_eq_true_eq] at h'
 rw [Kb h,List.append_assoc]
 have hr:=rM s.size (by omega) (s.data.toList ++ r)
 have hm:=C9 (bJ s.size) s.data.toList r
 rw [pD] at hm
 have hx:(BA (bJ s.size ++ (s.data.toList ++ r))).extract (bJ s.size).length ((bJ s.size).length+s.size)=s:=hm
 rw [tu (Aw hr (by omega) (by rw [jQ,List.length_append,List.length_append,pD]; omega) (by rw [hx]; exact h'.2)),hx,Au]
 congr 2
 rw [← List.append_assoc,show (bJ s.size).length+s.size=(bJ s.size ++ s.data.toList).length by rw [List.length_append,pD],List.drop_left]
theorem Kc (n:Int):rO (oN n)=n:=by
 unfold oN rO
 split
 · rw [if_pos (by omega)]; omega
 · rw [if_neg (by omega)]; omega
theorem mq {s:ByteArray} (h:bR s=true):iT s=true:=by
 unfold bR at h
 simp only [Bool.and_eq_true] at h
 exact h.2
theorem zF {x:aA} (h:fE x=0) (r:List UInt8):mW 3 (BA (gL x 3 ++ r)) = .ok x (BA r):=by
 obtain⟨h1,h2,h3,h4,h5⟩:=gP h
 have e:gL x 3 ++ r=fB x.name ++ (bJ (oN x.prio).toNat ++ (bJ x.need.toNat ++ (bJ x.tries.toNat ++ (fB x.tag ++ r)))):=by simp [gL]
 have hz0:0≤oN x.prio∧oN x.prio≤2000:=by unfold oN; split <;> omega
 rw [e]
 unfold mW
 rw [gF (mq h1),RR.bind_ok,iP _ (by omega),RR.bind_ok,iP _ (by omega),RR.bind_ok,if_pos (by decide),iP _ (by omega),RR.bind_ok,if_pos (by decide),gF h2,RR.bind_ok]
 rw [Int.toNat_of_nonneg hz0.1,Kc,Int.toNat_of_nonneg h4.1,Int.toNat_of_nonneg h5.1]
theorem Db {x:av} (h:eH x=0) (r:List UInt8):jM 3 (BA (iC x 3 ++ r)) = .ok x (BA r):=by
 obtain⟨h1,h2,h3⟩:=jT h
 have e:iC x 3 ++ r=fB x.name ++ (bJ x.room.toNat ++ (fB x.zone ++ r)):=by simp [iC]
 rw [e]
 unfold jM
 rw [gF (mq h1),RR.bind_ok,iP _ (by omega),RR.bind_ok,if_pos (by decide),gF h2,RR.bind_ok,Int.toNat_of_nonneg h3.1]
theorem BJ {x:ah} (h:lsE x=0) (r:List UInt8):gT (BA (fP x ++ r)) = .ok x (BA r):=by
 obtain⟨h1,h2,h3⟩:=BK h
 have e:fP x ++ r=fB x.job ++ (fB x.node ++ (bJ x.till.toNat ++ r)):=by simp [fP]
 rw [e]
 unfold gT
 rw [gF (mq h1),RR.bind_ok,gF (mq h2),RR.bind_ok,iP _ (by omega),RR.bind_ok,Int.toNat_of_nonneg h3.1]
theorem zG {α:Type} {p:ByteArray→RR α} {F:α→List UInt8}:∀ (l:List α) (r:List UInt8),(∀ x ∈ l,∀ r,p (BA (F x ++ r)) = .ok x (BA r))→uC p l.length (BA (l.flatMap F ++ r)) = .ok l (BA r)
 | [],r,_=>rfl
 | x :: l,r,h=>by
  rw [List.length_cons,uC,List.flatMap_cons,List.append_assoc,h x List.mem_cons_self,RR.bind_ok,zG l r (fun y hy=>h y (List.mem_cons_of_mem _ hy)),RR.bind_ok]
theorem kg {α:Type} {p:ByteArray→RR α} {F:α→List UInt8} (most:Nat) (hm:most≤100) (l:List α) (r:List UInt8) (hl:l.length≤most) (h:∀ x ∈ l,∀ r,p (BA (F x ++ r)) = .ok x (BA r)):cW most p (BA (iW F l ++ r)) = .ok l (BA r):=by
 unfold cW Ee iW
 rw [List.append_assoc,iP _ (by omega),RR.bind_ok,if_neg (by omega),RR.bind_ok,zG l r h]
theorem oo {has:ByteArray→Bool}:∀ (p:Option ByteArray) (l:List ByteArray),cY has p l=0→∀ s ∈ l,bR s=true
 | _,[],_=>by intro s hs; cases hs
 | p,s :: l,h=>by
  rw [cY] at h
  split at h
  · rename_i h1
    split at h
    · split at h
      · cases h
      · intro q hq
        rcases List.mem_cons.1 hq with rfl | hq
        · exact h1
        · exact oo _ l h q hq
    · cases h
  · cases h
theorem Dc {d:aM} (h:cD d=0) (hl:¬ 6000<(iD d).length):pq (BA (iD d))=(d,0):=by
 have g:=Ll h
 have gt0:=g.t0
 have gt1:=g.t1
 have gt2:=g.t2
 have ht:jk d=true:=by
  cases hh:jk d
  · rw [wQ hh] at h; exact absurd h (by decide)
  · rfl
 have hs:iV d=true:=by
  cases hh:iV d
  · rw [sM ht hh] at h; exact absurd h (by decide)
  · rfl
 have hr:=h
 rw [Aj ht hs] at hr
 have hall:=rL hr
 have hj:=(iG (E:=fE) (key:=aA.name) none d.jobs (hall _ (by simp [mO,bZ]))).1
 have hn:=(iG (E:=eH) (key:=av.name) none d.nodes (hall _ (by simp [mO,bZ]))).1
 have hle:=(iG (E:=lsE) (key:=ah.job) none d.leases (hall _ (by simp [mO,bZ]))).1
 have h4:=oo (has:=fun s=>(dA d.jobs s).isSome) none d.gj (hall _ (by simp [mO,kH]))
 have h5:=oo (has:=fun s=>(dh d.nodes s).isSome) none d.gn (hall _ (by simp [mO,kH]))
 have h6:=oo (has:=fun s=>(dQ d.leases s).isSome) none d.gl (hall _ (by simp [mO,kH]))
 have hd:dlP (BA (iD d)) = .ok d (BA []):=by
  have e:iD d=bJ d.from_.toNat ++ (bJ (d.to_ - d.from_).toNat ++ (iW (fun x=>gL x 3) d.jobs ++ (iW (fun x=>iC x 3) d.nodes ++ (iW fP d.leases ++ (iW fB d.gj ++ (iW fB d.gn ++ (iW fB d.gl ++ []))))))):=by simp [iD]
  rw [e]
  unfold dlP
  rw [iP _ (by omega),RR.bind_ok,iP _ (by omega),RR.bind_ok,
   kg (F:=fun x=>gL x 3) 40 (by decide) d.jobs _ g.nj (fun x hx r=>zF (hj x hx).1 r),RR.bind_ok,
   kg (F:=fun x=>iC x 3) 20 (by decide) d.nodes _ g.nn (fun x hx r=>Db (hn x hx).1 r),RR.bind_ok,
   kg (F:=fP) 40 (by decide) d.leases _ g.nl (fun x hx r=>BJ (hle x hx).1 r),RR.bind_ok,
   kg (F:=fB) 40 (by decide) d.gj _ g.ngj (fun x hx r=>gF (mq (h4 x hx)) r),RR.bind_ok,
   kg (F:=fB) 20 (by decide) d.gn _ g.ngn (fun x hx r=>gF (mq (h5 x hx)) r),RR.bind_ok,
   kg (F:=fB) 40 (by decide) d.gl _ g.ngl (fun x hx r=>gF (mq (h6 x hx)) r),RR.bind_ok]
  congr 1
  have e1:((d.from_.toNat:Nat):Int)=d.from_:=Int.toNat_of_nonneg gt0
  have e2:gJ d.from_.toNat (d.to_ - d.from_).toNat=d.to_:=by
   unfold gJ
   rw [if_pos (by omega)]
   omega
  rw [e1,e2]
 have he:endP (dlP (BA (iD d))) = .ok d (BA []):=by
  rw [hd]; rfl
 exact Bo (by rw [jQ]; exact hl) he h
end Go.Proofs.YtoeejfhdjmkpcaaGreatDoor
