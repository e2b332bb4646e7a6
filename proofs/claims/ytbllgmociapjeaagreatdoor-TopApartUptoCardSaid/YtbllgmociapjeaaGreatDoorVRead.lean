/- Of the proof of a statement: PlRead, PlRdF, PlTextR, Tabs, Put, Read, Reads, TextR. -/
import Derived.Laws.Bits64b
import Derived.Lib.ValidLaws
import Derived.Shelf.Unicode.ValidAny
import Derived.Lib.LaidU8T
import Derived.Test.YtbllgmociapjeaaGreatDoorVPush
set_option linter.unusedVariables false
set_option linter.unusedSimpArgs false
set_option maxRecDepth 100000
set_option maxHeartbeats 8000000
/- Reading a number: plain. -/
namespace Go.Proofs.YtbllgmociapjeaaGreatDoor
open Go.Lib (hid)
def rdB (s:ByteArray):Nat→Nat→Nat→Nat × Nat × Nat
 | 0,_,_=>(0,0,4)
 | f+1,i,acc=>
  if h:i<s.size then
   if (i=9∧1<s[i].toNat)∨(0<i∧s[i].toNat=0) then (0,0,4)
   else if s[i].toNat<128 then (acc+s[i].toNat % 128*128 ^ i,i+1,0)
   else rdB s f (i+1) (acc+s[i].toNat % 128*128 ^ i)
  else (0,0,3)
def rdNum (s:ByteArray):Nat × Nat × Nat:=rdB s 10 0 0
def rdV (s:ByteArray):Value:=.tuple #[.int .u64 ((rdNum s).1:Int),.int .i64 ((rdNum s).2.1:Int),.int .i64 ((rdNum s).2.2:Int)]
theorem Ic {s:ByteArray} {a k e:Nat} (h:rdNum s=(a,k,e)):rdV s = .tuple #[.int .u64 (a:Int),.int .i64 (k:Int),.int .i64 (e:Int)]:=by unfold rdV; rw [h]
section
variable {s:ByteArray} {k acc c:Nat}
theorem EG (hk:k<10) (h:s.size≤k):rdB s (10 - k) k acc=(0,0,3):=by
 rw [show 10 - k=(9 - k)+1 from by omega,rdB,dif_neg (by omega)]
theorem Id (hk:k<10) (h:k<s.size) (hc:s[k].toNat=c) (hb:(k=9∧1<c)∨(0<k∧c=0)):rdB s (10 - k) k acc=(0,0,4):=by
 rw [show 10 - k=(9 - k)+1 from by omega,rdB,dif_pos h,hc,if_pos hb]
theorem Ie (hk:k<10) (h:k<s.size) (hc:s[k].toNat=c) (hb:¬ ((k=9∧1<c)∨(0<k∧c=0))) (h1:c<128):rdB s (10 - k) k acc=(acc+c % 128*128 ^ k,k+1,0):=by
 rw [show 10 - k=(9 - k)+1 from by omega,rdB,dif_pos h,hc,if_neg hb,if_pos h1]
theorem If (hk:k<10) (h:k<s.size) (hc:s[k].toNat=c) (hb:¬ ((k=9∧1<c)∨(0<k∧c=0))) (h1:¬ c<128):rdB s (10 - k) k acc=rdB s (10 - (k+1)) (k+1) (acc+c % 128*128 ^ k):=by
 rw [show 10 - k=(9 - k)+1 from by omega,rdB,dif_pos h,hc,if_neg hb,if_neg h1,show 10 - (k+1)=9 - k from by omega]
theorem JM (k:Nat):128 ^ k=2 ^ (7*k):=by rw [Nat.pow_mul]
theorem Dp (hk:k<10) (hc:c<256) (h9:k=9→c≤1) (ha:acc<128 ^ k) :
 bits .or .u64 (acc:Int) (IntKind.u64.wrap (IntKind.u64.wrap (bits .and .u8 (c:Int) 127)*2 ^ (7*k)))=((acc+c % 128*128 ^ k:Nat):Int)∧acc+c % 128*128 ^ k<128 ^ (k+1)∧acc+c % 128*128 ^ k<18446744073709551616:=by
 have e1:bits .and .u8 (c:Int) 127=((c % 128:Nat):Int):=by
  rw [show (127:Int)=((127:Nat):Int) from rfl,u8_and_nat c 127 hc (by omega),nat_mask7]
 have e2:IntKind.u64.wrap ((c % 128:Nat):Int)=((c % 128:Nat):Int):=by rw [IntKind.wrap_u64]; omega
 have hp:c % 128*128 ^ k<18446744073709551616∧acc+c % 128*128 ^ k<18446744073709551616∧acc+c % 128*128 ^ k<128 ^ (k+1):=by
  have h3:acc+c % 128*128 ^ k<128 ^ (k+1):=by
   have:c % 128*128 ^ k≤127*128 ^ k:=Nat.mul_le_mul_right _ (by omega)
   rw [Nat.pow_succ]; omega
  have h4:acc+c % 128*128 ^ k<18446744073709551616:=by
   by_cases h:k=9
   · have:=h9 h
     subst h
     have:c % 128*128 ^ 9≤1*128 ^ 9:=Nat.mul_le_mul_right _ (by omega)
     omega
   · have:(128:Nat) ^ (k+1)≤128 ^ 9:=Nat.pow_le_pow_right (by omega) (by omega)
     omega
  exact⟨by omega,h4,h3⟩
 have e3:IntKind.u64.wrap (((c % 128:Nat):Int)*2 ^ (7*k))=((c % 128*128 ^ k:Nat):Int):=by
  rw [IntKind.wrap_u64,JM]
  have e4:((c % 128:Nat):Int)*2 ^ (7*k)=((c % 128*2 ^ (7*k):Nat):Int):=by
   rw [Int.natCast_mul,Int.natCast_pow]; rfl
  have:=hp.1
  rw [JM] at this
  rw [e4]; omega
 refine⟨?_,hp.2.2,hp.2.1⟩
 rw [e1,e2,e3,bits_or_u64_nat _ _ (by omega) hp.1,Nat.or_comm,nat_join (7*k) _ _ (by rw [JM]; exact Nat.mul_mod_left _ _) (by rw [← JM]; exact ha),Nat.add_comm]
end
end Go.Proofs.YtbllgmociapjeaaGreatDoor
/- What reading a number gives: its bounds. -/
namespace Go.Proofs.YtbllgmociapjeaaGreatDoor
open Go.Lib (hid)
theorem yw (s:ByteArray):∀ (f k acc:Nat),f+k=10→k≤s.size→acc<128 ^ k→∀ a n e,rdB s f k acc=(a,n,e)→a<18446744073709551616∧n≤10∧e≤4∧(e=0→1≤n∧n≤s.size)
 | 0,k,acc,_,_,_,a,n,e,h=>by
  simp only [rdB,Prod.mk.injEq] at h
  omega
 | f+1,k,acc,hf,hk,ha,a,n,e,h=>by
  rw [rdB] at h
  by_cases hs:k<s.size
  · rw [dif_pos hs] at h
    have hc:s[k].toNat<256:=s[k].toNat_lt
    by_cases hb:(k=9∧1<s[k].toNat)∨(0<k∧s[k].toNat=0)
    · rw [if_pos hb] at h
      simp only [Prod.mk.injEq] at h
      omega
    · rw [if_neg hb] at h
      obtain⟨_,h2,h3⟩:=Dp (k:=k) (acc:=acc) (c:=s[k].toNat) (by omega) hc (by omega) ha
      by_cases h1:s[k].toNat<128
      · rw [if_pos h1] at h
        simp only [Prod.mk.injEq] at h
        obtain⟨rfl,rfl,rfl⟩:=h
        exact⟨h3,by omega,by omega,fun _=>⟨by omega,by omega⟩⟩
      · rw [if_neg h1] at h
        exact yw s f (k+1) _ (by omega) (by omega) h2 a n e h
  · rw [dif_neg hs] at h
    simp only [Prod.mk.injEq] at h
    omega
theorem jl {s:ByteArray} {a n e:Nat} (h:rdNum s=(a,n,e)):a<18446744073709551616∧n≤10∧e≤4∧(e=0→1≤n∧n≤s.size):=
 yw s 10 0 0 rfl (Nat.zero_le _) (by decide) a n e h
end Go.Proofs.YtbllgmociapjeaaGreatDoor
/- What ReadText gives: plain. -/
namespace Go.Proofs.YtbllgmociapjeaaGreatDoor
open Go.Lib (hid)
open Go.Lib (validD)
def lV (s:ByteArray):ByteArray × Nat × Nat:=
 match rdNum s with
 | (n,k,e)=>
  if e=0 then
   if 16<n then (⟨#[]⟩,0,2)
   else if s.size<k+n then (⟨#[]⟩,0,3)
   else if validD (s.extract k (k+n)).data.toList=true then (s.extract k (k+n),k+n,0)
   else (⟨#[]⟩,0,4)
  else (⟨#[]⟩,0,e)
variable {s:ByteArray} {n k e:Nat}
theorem AU (h:rdNum s=(n,k,e)) (he:e≠0):lV s=(⟨#[]⟩,0,e):=by unfold lV; rw [h]; simp only; rw [if_neg he]
theorem wC (h:rdNum s=(n,k,0)) (hn:16<n):lV s=(⟨#[]⟩,0,2):=by unfold lV; rw [h]; simp only; rw [if_pos trivial,if_pos hn]
theorem wD (h:rdNum s=(n,k,0)) (hn:¬ 16<n) (hl:s.size<k+n):lV s=(⟨#[]⟩,0,3):=by unfold lV; rw [h]; simp only; rw [if_pos trivial,if_neg hn,if_pos hl]
theorem zf (h:rdNum s=(n,k,0)) (hn:¬ 16<n) (hl:¬ s.size<k+n) (hv:validD (s.extract k (k+n)).data.toList=true):lV s=(s.extract k (k+n),k+n,0):=by unfold lV; rw [h]; simp only; rw [if_pos trivial,if_neg hn,if_neg hl,if_pos hv]
theorem yg (h:rdNum s=(n,k,0)) (hn:¬ 16<n) (hl:¬ s.size<k+n) (hv:validD (s.extract k (k+n)).data.toList=false):lV s=(⟨#[]⟩,0,4):=by unfold lV; rw [h]; simp only; rw [if_pos trivial,if_neg hn,if_neg hl,if_neg (by rw [hv]; simp)]
end Go.Proofs.YtbllgmociapjeaaGreatDoor
/- The contract of utf8.ValidString, laid at this program: numbers only. -/
namespace Go.Proofs.YtbllgmociapjeaaGreatDoor
open Go.Lib (hid)
open Go.RowKit Go.Shelf Go.Lib
def ren:Ren:={
 f:=fun x=>match x with
  | 196=>220
  | 259=>243
  | n=>n
 t:=fun x=>match x with
  | 0=>0
  | 3=>3
  | 4=>4
  | 5=>5
  | 9=>9
  | 12=>12
  | 46=>124
  | 53=>74
  | 119=>302
  | 138=>304
  | 139=>305
  | n=>n
 g:=fun x=>match x with
  | 3=>0
  | 4=>1
  | n=>n }
theorem Kq:Lays.n196 Tryz.prog ren:={
 mixed:=by kernel_rfl
 f196:=Tryz.func220.trans (congrArg some (by kernel_rfl))
 f259:=Tryz.func243.trans (congrArg some (by kernel_rfl))
 t0:=Tryz.underlying0
 a0:=Tryz.isAgg0
 z0:=Tryz.sizeOf0
 v0:=Tryz.zeroValue0
 t3:=Tryz.underlying3
 a3:=Tryz.isAgg3
 z3:=Tryz.sizeOf3
 v3:=Tryz.zeroValue3
 t4:=Tryz.underlying4
 a4:=Tryz.isAgg4
 z4:=Tryz.sizeOf4
 v4:=Tryz.zeroValue4
 t5:=Tryz.underlying5
 a5:=Tryz.isAgg5
 z5:=Tryz.sizeOf5
 v5:=Tryz.zeroValue5
 t9:=Tryz.underlying9
 a9:=Tryz.isAgg9
 z9:=Tryz.sizeOf9
 v9:=Tryz.zeroValue9
 t12:=Tryz.underlying12
 a12:=Tryz.isAgg12
 z12:=Tryz.sizeOf12
 v12:=Tryz.zeroValue12
 t46:=Tryz.underlying124
 a46:=Tryz.isAgg124
 z46:=Tryz.sizeOf124
 v46:=Tryz.zeroValue124
 t53:=Tryz.underlying74
 a53:=Tryz.isAgg74
 z53:=Tryz.sizeOf74
 v53:=Tryz.zeroValue74
 t119:=Tryz.underlying302
 a119:=Tryz.isAgg302
 z119:=Tryz.sizeOf302
 t138:=Tryz.underlying304
 a138:=Tryz.isAgg304
 z138:=Tryz.sizeOf304
 v138:=Tryz.zeroValue304
 t139:=Tryz.underlying305
 a139:=Tryz.isAgg305
 z139:=Tryz.sizeOf305
 v139:=Tryz.zeroValue305
 g3:=by kernel_rfl
 g4:=by kernel_rfl }
def Tabs (w:World):Prop:=Utf8Tabs (ren.g 3) (ren.g 4) w
theorem Tabs.below {w w':World} (h:Tabs w) (hb:Below w.heap.size w w'):Tabs w':=Utf8Tabs_below h hb
theorem Jk {w : World} {l : List (String × DataW Unit)} (hL : laidMet Tryz.prog l w) (h1 : ("unicode/utf8.first", firstData) ∈ l) (h2 : ("unicode/utf8.acceptRanges", acceptData) ∈ l) : Tabs w :=
 utf8Tabs_of_readsT (U8Types.of196 Kq) ⟨by kernel_rfl,by kernel_rfl,by kernel_rfl,by kernel_rfl,by kernel_rfl,by kernel_rfl,by kernel_rfl⟩ (laidMet.reads hL h1) (laidMet.reads hL h2)
theorem sX (s:ByteArray) (w:World) (hs:s.size≤9223372036854775807) (hT:Tabs w) :
 Calls Tryz.prog 220 #[.string s] w fun e w'=>e = .returned (.bool (validD s.data.toList))∧Below w.heap.size w w':=
 Any.utf8_ValidString Kq s w hs hT
end Go.Proofs.YtbllgmociapjeaaGreatDoor
/- The walks of Put and Number, in the program and in the reference. -/
namespace Go.Proofs.YtbllgmociapjeaaGreatDoor
open Go.Lib (hid)
open Go.RowKit
def JN (base:Nat) (A:Option Addr) (m c:Nat) (l:List UInt8) (w:World) (e:Ending) (w':World):Prop:=
 ∃ A' m' c',e = .returned (.slice A' m' c')∧w'.ownsRow base 5 1 (.slice A' m' c') m' (bf l)∧bZ w w' (.slice A m c) (.slice A' m' c')
def Ld (base:Nat) (A:Option Addr) (m c:Nat) (l:List UInt8) (w:World) (v i:Value) (wr:World):Prop:=
 ∃ (A':Option Addr) (m' c':Nat) (k:Int) (l':List UInt8),v = .slice A' m' c'∧i = .int .u64 k∧0≤k∧k<18446744073709551616∧l=l' ++ aO k.toNat∧wr.ownsRow base 5 1 (.slice A' m' c') m' (bf l')∧bZ w wr (.slice A m c) (.slice A' m' c')
theorem zw (base:Nat) (A:Option Addr) (m c:Nat) (l:List UInt8) (n:Int) (w:World) (h0:0≤n) (h1:n<18446744073709551616) (hown:w.ownsRow base 5 1 (.slice A m c) m (bf l)) (hm:m≤140737488355000) (hb:base≤w.heap.size) :
 Calls Tryz.prog 87 #[.slice A m c,.int .u64 n] w (JN base A m c (l ++ aO n.toNat) w):=by
 go_enter Tryz.func87,Tryz.ntmps87
 go_wp2
 go_loopw [0,1] (fun v i wr=>Ld base A m c (l ++ aO n.toNat) w v i wr) (fun _ i _=>(intOf i).toNat)
 case atStart=>exact⟨A,m,c,n,l,rfl,rfl,h0,h1,rfl,hown,bZ.refl _ _⟩
 case round=>
  obtain⟨A',m',c',k,l',rfl,rfl,hk0,hk,hl,ho,hg⟩:=hrel
  have hlen:m'≤m+11:=by
   have e1:=congrArg List.length hl
   have e2:l'.length=m':=by have:=ho.1; simpa [bf] using this
   have e3:l.length=m:=by have:=hown.1; simpa [bf] using this
   have:=cH n.toNat
   have:=cH k.toNat
   simp at e1; omega
  have Hl:=hid hl
  have Hm:=hid (show m'+1≤140737488355328 from by omega)
  have hbr:base≤wr.heap.size:=Nat.le_trans hb hg.grown.size
  clear hl hown hm hlen h0 h1
  by_cases hlt:128≤k
  · have hbt:=hid (GR k (by omega) (by omega))
    have hst:=hid (show aO k.toNat=UInt8.ofNat (k.toNat % 128+128) :: aO (k / 128).toNat from by
     rw [EA (by omega) (by omega),show k.toNat / 128=(k / 128).toNat from by omega])
    go_wp2_with (at_builtin; refine Dk rfl _ _ rfl base _ _ _ _ rfl ho _ (UInt8.ofNat (k.toNat % 128+128)) hbt.out rfl Hm.out hbr ?_; intro A2 c2 w2 ho2 hg2)
    go_roundw
    case rel=>exact⟨A2,m'+1,c2,k / 128,l' ++ [UInt8.ofNat (k.toNat % 128+128)],rfl,rfl,by omega,by omega,by rw [Hl.out,hst.out]; simp,ho2,hg.trans hg2⟩
    case measure=>simp [intOf]; omega
  · have hbt:=hid (show k=(((UInt8.ofNat k.toNat).toNat:Nat):Int) from by rw [UInt8.toNat_ofNat']; omega)
    have hst:=hid (show aO k.toNat=[UInt8.ofNat k.toNat] from qA (by omega))
    go_wp2_with (at_builtin; refine Dk rfl _ _ rfl base _ _ _ _ rfl ho _ (UInt8.ofNat k.toNat) hbt.out rfl Hm.out hbr ?_; intro A2 c2 w2 ho2 hg2)
    go_ret
    exact⟨A2,m'+1,c2,rfl,by rw [Hl.out,hst.out]; exact ho2,hg.trans hg2⟩
def JO (n:Nat) (w:World) (e:Ending) (w':World):Prop:=e = .returned (.string ⟨(aO n).toArray⟩)∧Below w.heap.size w w'
theorem vA (n:Int) (w:World) (h0:0≤n) (h1:n<18446744073709551616) :
 Calls Tryz.prog 57 #[.int .u64 n] w (JO n.toNat w):=by
 go_enter Tryz.func57,Tryz.ntmps57
 go_wp2_with fail
 refine Calls.mono (zw w.heap.size none 0 0 [] n w h0 h1 (World.ownsRow_nil _ _ _ _) (by omega) (Nat.le_refl _)) ?_
 rintro e w' ⟨A',m',c',rfl,ho,hg⟩
 have hb:Below w.heap.size w w':=hg.below (Nat.le_refl _) (fun g h=>by simp [Value.ownBlock] at h)
 have hrun:=eU Tryz.underlying84 Tryz.underlying5 Tryz.underlying9 ho
 clear ho hg
 go_wp2
 go_ret
 exact⟨rfl,hb⟩
end Go.Proofs.YtbllgmociapjeaaGreatDoor
/- The walks of ReadNumber, in the program and in the reference. -/
namespace Go.Proofs.YtbllgmociapjeaaGreatDoor
open Go.Lib (hid)
open Go.RowKit
theorem qW {s:ByteArray} {k c:Nat} (h:k<s.size) (hc:s[k].toNat=c) (W:World):(Instr.index 9 (.string s) (.int .i64 (k:Int))).run Tryz.prog W = .ok (.int .u8 (c:Int)) W:=by
 rw [run_index_string W 9 s .i64 (k:Int) Tryz.underlying9,dif_pos ⟨by omega,by omega⟩]
 subst hc
 simp only [Int.toNat_natCast]
def tu (s:ByteArray) (w:World) (e:Ending) (w':World):Prop:=e = .returned (rdV s)∧w=w'
theorem tu.mk' {s:ByteArray} {w:World} {a k e:Nat} (h:rdNum s=(a,k,e)):tu s w (.returned (.tuple #[.int .u64 (a:Int),.int .i64 (k:Int),.int .i64 (e:Int)])) w:=⟨by rw [Ic h],rfl⟩
def LR (s:ByteArray) (n i:Value):Prop:=∃ (k acc:Nat),k≤9∧k≤s.size∧acc<128 ^ k∧i = .int .i64 k∧n = .int .u64 acc∧rdNum s=rdB s (10 - k) k acc
theorem Ig (s:ByteArray) (w:World) (hs:s.size≤9223372036854775807) :
 Calls Tryz.prog 24 #[.string s] w (tu s w):=by
 go_enter Tryz.func24,Tryz.ntmps24
 go_wp2
 go_loop [2,3,4,5,6,7,8,10] (fun _ _ _ n _ _ i _=>LR s n i) (fun _ _ _ _ _ _ i _=>10 - (intOf i).toNat)
 case atStart=>exact⟨0,0,by omega,by omega,by decide,rfl,rfl,rfl⟩
 case round=>
  obtain⟨k,acc,hk,hks,ha,rfl,rfl,hr⟩:=hrel
  have Hr:=hid hr
  have Ha:=hid ha
  clear hr ha
  by_cases hsz:k<s.size
  · have e3:((k:Int) == s.size)=false:=by simp; omega
    obtain⟨c,hc⟩:∃ c:Nat,s[k].toNat=c:=⟨_,rfl⟩
    have hc2:c<256:=by rw [← hc]; exact s[k].toNat_lt
    have Hi:=qW hsz hc
    have Hc:=hid hc
    clear hc
    have form:=fun (hb:(k=9∧1<c)∨(0<k∧c=0))=>tu.mk' (w:=w) (Hr.out.trans (Id (by omega) hsz Hc.out hb))
    have last:=fun (hb:¬ ((k=9∧1<c)∨(0<k∧c=0))) (h1:c<128)=>tu.mk' (w:=w) (Hr.out.trans (Ie (by omega) hsz Hc.out hb h1))
    have more:=fun (hb:¬ ((k=9∧1<c)∨(0<k∧c=0))) (h1:¬ c<128)=>Hr.out.trans (If (by omega) hsz Hc.out hb h1)
    have step:=fun (h9:k=9→c≤1)=>Dp (k:=k) (by omega) hc2 h9 Ha.out
    have Form:=hid form
    have Last:=hid last
    have More:=hid more
    have Step:=hid step
    clear form last more step
    by_cases b9:9≤k <;> by_cases b0:1≤c
    all_goals first | (have e1:((k:Int) == 9)=true:=by simp; omega) | (have e1:((k:Int) == 9)=false:=by simp; omega)
    all_goals first | (have e2:((c:Int) == 0)=true:=by simp; omega) | (have e2:((c:Int) == 0)=false:=by simp; omega)
    all_goals go_wp2
    all_goals first
     | (go_ret3; exact Form.out (by omega))
     | (have st:=(Step.out (by omega)).1; go_ret3; rw [st]; exact Last.out (by omega) (by omega))
     | (have st:=Step.out (by omega); exact⟨⟨k+1,_,by omega,by omega,st.2.1,by go_num,by rw [st.1],More.out (by omega) (by omega)⟩,by simp only [intOf]; omega⟩)
  · have e3:((k:Int) == s.size)=true:=by simp; omega
    have fin:=hid (tu.mk' (w:=w) (Hr.out.trans (EG (by omega) (by omega))))
    go_wp2
    go_ret3
    exact fin.out
end Go.Proofs.YtbllgmociapjeaaGreatDoor
/- The law PrimReads. -/
namespace Go.Proofs.YtbllgmociapjeaaGreatDoor
open Go.Lib (hid)
open Go.RowKit
theorem sU {s:ByteArray} {k:Nat} (h:k<s.size):s.data.toList.take (k+1)=s.data.toList.take k ++ [s[k]]:=by
 rw [List.take_succ_eq_append_getElem (by simpa using h)]; rfl
theorem o8 {s:ByteArray} {a k e:Nat} (h:rdNum s=(a,k,e)) (w:World) (hs:s.size≤9223372036854775807) :
 Calls Tryz.prog 24 #[.string s] w fun x w'=>x = .returned (.tuple #[.int .u64 (a:Int),.int .i64 (k:Int),.int .i64 (e:Int)])∧w=w':=
 (Ig s w hs).mono fun _ _ ⟨h1,h2⟩=>⟨by rw [h1,Ic h],h2⟩
end Go.Proofs.YtbllgmociapjeaaGreatDoor
/- The walks of ReadText and TextRead. -/
namespace Go.Proofs.YtbllgmociapjeaaGreatDoor
open Go.Lib (hid)
open Go.RowKit
open Go.Lib (validD)
def kU (s:ByteArray) (w:World) (e:Ending) (w':World):Prop:=e = .returned (.tuple #[.string (lV s).1,.int .i64 ((lV s).2.1:Int),.int .i64 ((lV s).2.2:Int)])∧Below w.heap.size w w'
theorem kU.mk' {s a:ByteArray} {n e:Nat} {w w':World} (h:lV s=(a,n,e)) (hb:Below w.heap.size w w'):kU s w (.returned (.tuple #[.string a,.int .i64 (n:Int),.int .i64 (e:Int)])) w':=⟨by rw [h],hb⟩
theorem zo (s:ByteArray) (w:World) (hs:s.size≤9223372036854775807) (hT:Tabs w):Calls Tryz.prog 277 #[.string s] w (kU s w):=by
 obtain⟨n,k,e,hr⟩:∃ n k e,rdNum s=(n,k,e):=⟨_,_,_,rfl⟩
 have h1:=hid (o8 hr w hs)
 obtain⟨f1,f2,f3,f4⟩:=jl hr
 have HR:=hid hr
 clear hr
 by_cases he:e=0
 · subst he
   have f5:=f4 rfl
   clear f4 f3
   by_cases hn:16<n
   · have fin:=hid (kU.mk' (w:=w) (w':=w) (wC HR.out hn) (Below.refl _ _))
     go_enter Tryz.func277,Tryz.ntmps277
     go_wp2_with fail
     refine Calls.mono h1.out ?_
     rintro x w' ⟨rfl,rfl⟩
     go_wp2
     refine bodyPost_ret (v:=.tuple #[.string ⟨#[]⟩,.int .i64 0,.int .i64 2]) (by simp [results,Tryz.results277,go_sem]) rfl fin.out
   · by_cases hl:s.size<k+n
     · have fin:=hid (kU.mk' (w:=w) (w':=w) (wD HR.out hn hl) (Below.refl _ _))
       clear f1
       go_enter Tryz.func277,Tryz.ntmps277
       go_wp2_with fail
       refine Calls.mono h1.out ?_
       rintro x w' ⟨rfl,rfl⟩
       go_wp2
       refine bodyPost_ret (v:=.tuple #[.string ⟨#[]⟩,.int .i64 0,.int .i64 3]) (by simp [results,Tryz.results277,go_sem]) rfl fin.out
     · clear f1
       have hV:=hid (sX (s.extract k (k+n)) w (by rw [ByteArray.size_extract]; omega) hT)
       cases hv:validD (s.extract k (k+n)).data.toList
       · have fin:=hid (fun w'=>kU.mk' (w:=w) (w':=w') (yg HR.out hn hl hv))
         rw [hv] at hV
         go_enter Tryz.func277,Tryz.ntmps277
         go_wp2_with fail
         refine Calls.mono h1.out ?_
         rintro x w' ⟨rfl,rfl⟩
         go_wp2_with fail
         refine Calls.mono hV.out ?_
         rintro x w1 ⟨rfl,hb⟩
         go_wp2
         refine bodyPost_ret (v:=.tuple #[.string ⟨#[]⟩,.int .i64 0,.int .i64 4]) (by simp [results,Tryz.results277,go_sem]) rfl (fin.out _ hb)
       · have fin:=hid (fun w'=>kU.mk' (w:=w) (w':=w') (zf HR.out hn hl hv))
         rw [hv] at hV
         go_enter Tryz.func277,Tryz.ntmps277
         go_wp2_with fail
         refine Calls.mono h1.out ?_
         rintro x w' ⟨rfl,rfl⟩
         go_wp2_with fail
         refine Calls.mono hV.out ?_
         rintro x w1 ⟨rfl,hb⟩
         go_wp2
         refine bodyPost_ret (v:=.tuple #[.string (s.extract k (k+n)),.int .i64 ((k:Int)+n),.int .i64 0]) (by simp [results,Tryz.results277,go_sem]) rfl ?_
         have:=fin.out _ hb
         rw [Int.natCast_add] at this
         exact this
 · have fin:=hid (kU.mk' (w:=w) (w':=w) (AU HR.out he) (Below.refl _ _))
   clear f4 f1
   go_enter Tryz.func277,Tryz.ntmps277
   go_wp2_with fail
   refine Calls.mono h1.out ?_
   rintro x w' ⟨rfl,rfl⟩
   go_wp2
   refine bodyPost_ret (v:=.tuple #[.string ⟨#[]⟩,.int .i64 0,.int .i64 (e:Int)]) (by simp [results,Tryz.results277,go_sem]) rfl fin.out
end Go.Proofs.YtbllgmociapjeaaGreatDoor
