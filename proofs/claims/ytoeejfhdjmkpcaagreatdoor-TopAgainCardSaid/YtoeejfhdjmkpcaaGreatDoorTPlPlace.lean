/- Of the proof of a statement: PlPlace, Cmp, PlSum. -/
import Derived.WalkLawsBesides
import Derived.Test.YtoeejfhdjmkpcaaGreatDoorTRdr
set_option linter.unusedVariables false
set_option linter.unusedSimpArgs false
set_option maxRecDepth 100000
set_option maxHeartbeats 8000000
/- The place of a name in a table that is in order: plain. -/
namespace Go.Proofs.YtoeejfhdjmkpcaaGreatDoor
open Go.Lib (hid)
section
variable {α:Type} (key:α→ByteArray)
def cZ (l:List α) (s:ByteArray):Nat:=(l.takeWhile fun a=>dG (key a) s).length
def isL (l:List α) (s:ByteArray):Bool:=match l[cZ key l s]? with
 | some a=>decide (key a=s)
 | none=>false
def gq (l:List α) (s:ByteArray) (i j:Nat):Prop:=i≤j∧j≤l.length∧(∀ a ∈ l.take i,dG (key a) s=true)∧∀ a ∈ l.drop j,dG (key a) s=false
variable {key}
theorem gq.start (l:List α) (s:ByteArray):gq key l s 0 l.length:=⟨Nat.zero_le _,Nat.le_refl _,by simp,by simp⟩
theorem gq.low {l:List α} {s:ByteArray} {i j h:Nat} (H:gq key l s i j) (hs:bE key l) (h2:h<j) {x:α} (hx:l[h]? = some x) (hk:dG (key x) s=true):gq key l s (h+1) j:=by
 refine⟨h2,H.2.1,fun a ha=>?_,H.2.2.2⟩
 obtain⟨hlt,rfl⟩:=List.getElem?_eq_some_iff.1 hx
 obtain⟨k,hkl,rfl⟩:=List.mem_iff_getElem.1 ha
 rw [List.length_take] at hkl
 rw [List.getElem_take]
 by_cases e:k=h
 · subst e; exact hk
 · exact jE (List.pairwise_iff_getElem.1 hs k h (by omega) hlt (by omega)) hk
theorem gq.high {l:List α} {s:ByteArray} {i j h:Nat} (H:gq key l s i j) (hs:bE key l) (h1:i≤h) {x:α} (hx:l[h]? = some x) (hk:dG (key x) s=false):gq key l s i h:=by
 obtain⟨hlt,rfl⟩:=List.getElem?_eq_some_iff.1 hx
 refine⟨h1,by omega,H.2.2.1,fun a ha=>?_⟩
 obtain⟨k,hkl,rfl⟩:=List.mem_iff_getElem.1 ha
 rw [List.length_drop] at hkl
 rw [List.getElem_drop]
 cases hc:dG (key l[h+k]) s with
 | false=>rfl
 | true=>
  by_cases e:k=0
  · subst e; simp only [Nat.add_zero] at hc; rw [hc] at hk; cases hk
  · have:=jE (List.pairwise_iff_getElem.1 hs h (h+k) hlt (by omega) (by omega)) hc
    rw [hk] at this; cases this
theorem mK {p:α→Bool}:∀ (l:List α) (i:Nat),i≤l.length→(∀ a ∈ l.take i,p a=true)→(∀ a ∈ l.drop i,p a=false)→l.takeWhile p=l.take i
 | [],i,hi,_,_=>by simp
 | a :: l,0,_,_,h=>by
  have:=h a (by simp)
  simp [List.takeWhile_cons,this]
 | a :: l,i+1,hi,h1,h2=>by
  have ha:=h1 a (by simp)
  rw [List.takeWhile_cons,ha,List.take_succ_cons]
  simp only [if_true]
  rw [mK l i (by simpa using hi) (fun b hb=>h1 b (by simp [hb])) (fun b hb=>h2 b (by simpa using hb))]
theorem gq.pos {l:List α} {s:ByteArray} {i:Nat} (H:gq key l s i i):cZ key l s=i:=by
 unfold cZ
 rw [mK l i H.2.1 H.2.2.1 H.2.2.2,List.length_take]
 have:=H.2.1
 omega
theorem pV (l:List α) (s:ByteArray):cZ key l s≤l.length:=by
 unfold cZ
 exact (List.takeWhile_prefix _).length_le
theorem takeWhile_take (p:α→Bool):∀ l:List α,l.takeWhile p=l.take (l.takeWhile p).length
 | []=>rfl
 | a :: l=>by
  rw [List.takeWhile_cons]
  split
  · rw [List.length_cons,List.take_succ_cons,← takeWhile_take p l]
  · rfl
theorem nI {l:List α} {s:ByteArray}:∀ a ∈ l.take (cZ key l s),dG (key a) s=true:=by
 intro a ha
 unfold cZ at ha
 rw [← takeWhile_take] at ha
 have:=List.all_takeWhile (l:=l) (p:=fun a=>dG (key a) s)
 rw [List.all_eq_true] at this
 exact this a ha
theorem nJ (p:α→Bool):∀ (l:List α) (x:α),l[(l.takeWhile p).length]? = some x→p x=false
 | [],x,h=>by simp at h
 | a :: l,x,h=>by
  rw [List.takeWhile_cons] at h
  split at h
  · rw [List.length_cons,List.getElem?_cons_succ] at h
    exact nJ p l x h
  · rename_i hp
    rw [List.length_nil,List.getElem?_cons_zero] at h
    injection h with h
    subst h
    simpa using hp
theorem wh {l:List α} {s:ByteArray} {x:α} (h:l[cZ key l s]? = some x):dG (key x) s=false:=nJ _ l x h
theorem AX {l:List α} {s:ByteArray} (hs:bE key l):∀ a ∈ l.drop (cZ key l s),dG (key a) s=false:=by
 intro a ha
 obtain⟨k,hkl,rfl⟩:=List.mem_iff_getElem.1 ha
 rw [List.length_drop] at hkl
 have hp:cZ key l s<l.length:=by omega
 have h0:=wh (List.getElem?_eq_getElem hp)
 have H:gq key l s (cZ key l s) l.length:=⟨pV _ _,Nat.le_refl _,nI,by simp⟩
 have H2:=H.high hs (Nat.le_refl _) (List.getElem?_eq_getElem hp) h0
 exact H2.2.2.2 _ ha
theorem oo {l:List α} {s:ByteArray} (hs:bE key l) (his:isL key l s=false):∀ a ∈ l.drop (cZ key l s),key a≠s:=by
 intro a ha e
 obtain⟨k,hkl,rfl⟩:=List.mem_iff_getElem.1 ha
 rw [List.length_drop] at hkl
 have hp:cZ key l s<l.length:=by omega
 rw [List.getElem_drop] at e
 unfold isL at his
 rw [List.getElem?_eq_getElem hp] at his
 have hne:key l[cZ key l s]≠s:=by simpa using his
 by_cases h0:k=0
 · subst h0; exact hne e
 · have h1:=List.pairwise_iff_getElem.1 hs (cZ key l s) (cZ key l s+k) hp (by omega) (by omega)
   have h2:=wh (List.getElem?_eq_getElem hp)
   rw [e,h2] at h1; cases h1
theorem kT {l:List α} {s:ByteArray}:∀ a ∈ l.take (cZ key l s),key a≠s:=fun a ha e=>by
 have:=nI a ha
 rw [e,dP] at this; cases this
theorem kJ {l:List α} {s:ByteArray} (h:isL key l s=true):∃ x,l[cZ key l s]? = some x∧key x=s:=by
 unfold isL at h
 cases hx:l[cZ key l s]? with
 | none=>rw [hx] at h; cases h
 | some x=>rw [hx] at h; exact⟨x,rfl,by simpa using h⟩
theorem nK {l:List α} {s:ByteArray} (hs:bE key l) (his:isL key l s=true):∀ a ∈ l.drop (cZ key l s+1),dG s (key a)=true:=by
 intro a ha
 obtain⟨x,hx,hk⟩:=kJ his
 obtain⟨hlt,rfl⟩:=List.getElem?_eq_some_iff.1 hx
 obtain⟨k,hkl,rfl⟩:=List.mem_iff_getElem.1 ha
 rw [List.length_drop] at hkl
 rw [List.getElem_drop]
 have:=List.pairwise_iff_getElem.1 hs (cZ key l s) (cZ key l s+1+k) hlt (by omega) (by omega)
 rwa [hk] at this
theorem lS {l:List α} {s:ByteArray} (hs:bE key l):isL key l s=(l.find? fun a=>decide (key a=s)).isSome:=by
 cases h:isL key l s with
 | true=>
  obtain⟨x,hx,hk⟩:=kJ h
  symm
  rw [List.find?_isSome]
  exact⟨x,List.mem_of_getElem? hx,by simpa using hk⟩
 | false=>
  symm
  rw [← Bool.not_eq_true,List.find?_isSome]
  rintro⟨a,ha,hk⟩
  have hk':key a=s:=by simpa using hk
  rw [← List.take_append_drop (cZ key l s) l] at ha
  rcases List.mem_append.1 ha with h1 | h1
  · exact kT a h1 hk'
  · exact oo hs h a h1 hk'
theorem FY {l:List α} {s:ByteArray} (hs:bE key l) {x:α} (hx:l[cZ key l s]? = some x) (hk:key x=s):(l.find? fun a=>decide (key a=s))=some x:=by
 have:=CC (vA hs) (List.mem_of_getElem? hx)
 rwa [hk] at this
theorem mY {l:List α} {x:α} (hs:bE key l):hM key l x=if isL key l (key x)=true then l.take (cZ key l (key x)) ++ x :: l.drop (cZ key l (key x)+1) else l.take (cZ key l (key x)) ++ x :: l.drop (cZ key l (key x)):=by
 refine kH (sorted_put x l hs) ?_ fun z=>?_
 · have hp:∀ r:List α,bE key r→(∀ a ∈ r,dG (key x) (key a)=true)→bE key (l.take (cZ key l (key x)) ++ x :: r):=by
    intro r hr hx
    refine List.pairwise_append.2 ⟨hs.sublist (List.take_sublist _ _),List.pairwise_cons.2 ⟨hx,hr⟩,fun a ha b hb=>?_⟩
    have h1:=nI a ha
    rcases List.mem_cons.1 hb with rfl | hb
    · exact h1
    · exact jE h1 (hx b hb)
   split
   · rename_i h
     exact hp _ (hs.sublist (List.drop_sublist _ _)) (nK hs h)
   · rename_i h
     rw [Bool.not_eq_true] at h
     exact hp _ (hs.sublist (List.drop_sublist _ _)) fun a ha=>jW (AX hs a ha) (oo hs h a ha)
 · show z ∈ gF key x false l↔_
   rw [gM]
   have hl:z ∈ l↔z ∈ l.take (cZ key l (key x))∨z ∈ l.drop (cZ key l (key x)):=by
    conv=>lhs; rw [← List.take_append_drop (cZ key l (key x)) l]
    exact List.mem_append
   split
   · rename_i h
     obtain⟨y,hy,hk⟩:=kJ h
     have hd:l.drop (cZ key l (key x))=y :: l.drop (cZ key l (key x)+1):=drop_cons hy
     rw [hl,hd]
     simp only [List.mem_append,List.mem_cons,true_and]
     constructor
     · rintro (h1 | ⟨h1 | h1 | h1,h2⟩)
       · exact .inr (.inl h1)
       · exact .inl h1
       · subst h1; exact absurd hk h2
       · exact .inr (.inr h1)
     · rintro (h1 | h1 | h1)
       · exact .inr ⟨.inl h1,kT z h1⟩
       · exact .inl h1
       · exact .inr ⟨.inr (.inr h1),fun e=>by have:=nK hs h z h1; rw [e,dP] at this; cases this⟩
   · rename_i h
     rw [Bool.not_eq_true] at h
     rw [hl]
     simp only [List.mem_append,List.mem_cons,true_and]
     constructor
     · rintro (h1 | ⟨h1 | h1,h2⟩)
       · exact .inr (.inl h1)
       · exact .inl h1
       · exact .inr (.inr h1)
     · rintro (h1 | h1 | h1)
       · exact .inr ⟨.inl h1,kT z h1⟩
       · exact .inl h1
       · exact .inr ⟨.inr h1,oo hs h z h1⟩
theorem tM {l:List α} {s:ByteArray} (hs:bE key l):l.filter (fun a=>!decide (key a=s))=if isL key l s=true then l.take (cZ key l s) ++ l.drop (cZ key l s+1) else l:=by
 have hf:∀ r:List α,(∀ a ∈ r,key a≠s)→r.filter (fun a=>!decide (key a=s))=r:=fun r hr=>List.filter_eq_self.2 fun a ha=>by simpa using hr a ha
 split
 · rename_i h
   obtain⟨x,hx,hk⟩:=kJ h
   have hd:l.drop (cZ key l s)=x :: l.drop (cZ key l s+1):=drop_cons hx
   conv=>lhs; rw [← List.take_append_drop (cZ key l s) l,hd]
   rw [List.filter_append,List.filter_cons,hf _ kT,hf _ (fun a ha e=>by have:=nK hs h a ha; rw [e,dP] at this; cases this)]
   simp [hk]
 · rename_i h
   rw [Bool.not_eq_true] at h
   refine hf _ fun a ha=>?_
   rw [← List.take_append_drop (cZ key l s) l] at ha
   rcases List.mem_append.1 ha with h1 | h1
   · exact kT a h1
   · exact oo hs h a h1
theorem mZ {l:List α} {x:α} (hs:bE key l):(hM key l x).length≤l.length+1:=by
 rw [mY hs]
 have:=pV (key:=key) l (key x)
 split <;> simp <;> omega
end
end Go.Proofs.YtoeejfhdjmkpcaaGreatDoor
/- cmp.Compare at texts. -/
namespace Go.Proofs.YtoeejfhdjmkpcaaGreatDoor
open Go.Lib (hid)
open Go.RowKit
open Go.Op (bytesLess)
def lA (a b:ByteArray):Int:=if dG a b=true then -1 else if dG b a=true then 1 else 0
theorem CD {a b:ByteArray} (h:dG a b=true):lA a b = -1:=by unfold lA; rw [if_pos h]
theorem CF {a b:ByteArray} (h:dG a b=false) (h2:dG b a=true):lA a b=1:=by unfold lA; rw [if_neg (by simp [h]),if_pos h2]
theorem CG {a b:ByteArray} (h:dG a b=false) (h2:dG b a=false):lA a b=0:=by unfold lA; rw [if_neg (by simp [h]),if_neg (by simp [h2])]
theorem sU {a b:ByteArray}:lA a b<0↔dG a b=true:=by
 unfold lA
 by_cases h:dG a b=true
 · simp [h]
 · by_cases h2:dG b a=true <;> simp [h,h2]
theorem qL {a b:ByteArray}:lA a b=0↔a=b:=by
 unfold lA
 by_cases h:dG a b=true
 · rw [if_pos h]
   exact⟨fun h'=>by omega,fun e=>by rw [e,dP] at h; cases h⟩
 · rw [if_neg h]
   by_cases h2:dG b a=true
   · rw [if_pos h2]
     exact⟨fun h'=>by omega,fun e=>by rw [e,dP] at h2; cases h2⟩
   · rw [if_neg h2]
     refine⟨fun _=>?_,fun _=>rfl⟩
     by_cases e:a=b
     · exact e
     · exact absurd (jW (by simpa using h) e) h2
theorem rE (a:ByteArray) (w:World):Calls Tryz.prog 267 #[.string a] w fun e w'=>e = .returned (.bool false)∧w=w':=by
 have h0:(a.toList == a.toList)=true:=beq_self_eq_true _
 have h1:(a.toList != a.toList)=false:=by simp
 go_enter Tryz.func267,Tryz.ntmps267
 go_wp2
 go_ret
 exact⟨rfl,rfl⟩
theorem mM (a b:ByteArray) (w:World):Calls Tryz.prog 174 #[.string a,.string b] w fun e w'=>e = .returned (.int .i64 (lA a b))∧w=w':=by
 cases h:dG a b with
 | true=>
  rw [CD h]
  have h':bytesLess a.toList b.toList=true:=h
  clear h
  go_enter Tryz.func174,Tryz.ntmps174
  go_wp2_with (go_at_call 267; refine (rE _ _).mono ?_; rintro e w' ⟨rfl,rfl⟩)
  go_ret
  exact⟨rfl,rfl⟩
 | false=>
  cases h2:dG b a with
  | true=>
   rw [CF h h2]
   have h':bytesLess a.toList b.toList=false:=h
   have h2':bytesLess b.toList a.toList=true:=h2
   have hq:(a.toList == b.toList)=false:=beq_eq_false_iff_ne.2 fun e=>by rw [e,lu] at h2'; cases h2'
   clear h h2
   go_enter Tryz.func174,Tryz.ntmps174
   go_wp2_with (go_at_call 267; refine (rE _ _).mono ?_; rintro e w' ⟨rfl,rfl⟩)
   go_ret
   exact⟨rfl,rfl⟩
  | false=>
   rw [CG h h2]
   have h':bytesLess a.toList b.toList=false:=h
   have h2':bytesLess b.toList a.toList=false:=h2
   have hq:(a.toList == b.toList)=true:=by
    have:=dL a.toList b.toList
    rw [h',h2'] at this
    rw [beq_iff_eq]
    exact (beq_iff_eq.1 (by simpa using this)).symm
   clear h h2
   go_enter Tryz.func174,Tryz.ntmps174
   go_wp2_with (go_at_call 267; refine (rE _ _).mono ?_; rintro e w' ⟨rfl,rfl⟩)
   go_ret
   exact⟨rfl,rfl⟩
end Go.Proofs.YtoeejfhdjmkpcaaGreatDoor
/- The sum of bytes: plain. -/
namespace Go.Proofs.YtoeejfhdjmkpcaaGreatDoor
open Go.Lib (hid)
def xC (x:Nat):Nat:=(x / 2) ^^^ (x % 2*3988292384)
def lF:Nat→Nat→Nat
 | 0,x=>x
 | n+1,x=>xC (lF n x)
theorem Gm {x:Nat} (h:x<4294967296):xC x<4294967296:=by
 unfold xC
 exact Nat.xor_lt_two_pow (n:=32) (by omega) (by have:x % 2<2:=Nat.mod_lt _ (by omega); omega)
theorem sN {x:Nat} (h:x<4294967296):∀ n,lF n x<4294967296
 | 0=>h
 | n+1=>Gm (sN h n)
theorem Ez (a b:Nat):(a ^^^ b) / 2=(a / 2) ^^^ (b / 2):=by
 have:=Nat.shiftRight_xor_distrib (a:=a) (b:=b) (i:=1)
 simpa [Nat.shiftRight_eq_div_pow] using this
theorem EA (a b:Nat):(a ^^^ b) % 2=(a % 2) ^^^ (b % 2):=by
 have:=Nat.xor_mod_two_pow (a:=a) (b:=b) (n:=1)
 simpa using this
theorem EB (a b:Nat):xC (a ^^^ b)=xC a ^^^ xC b:=by
 unfold xC
 rw [Ez,EA]
 have ha:a % 2=0∨a % 2=1:=by omega
 have hb:b % 2=0∨b % 2=1:=by omega
 rcases ha with ha | ha <;> rcases hb with hb | hb <;> rw [ha,hb]
 · simp
 · simp [Nat.xor_assoc]
 · simp only [Nat.zero_xor,Nat.xor_zero,Nat.one_mul,Nat.zero_mul]
   rw [Nat.xor_assoc,Nat.xor_assoc,Nat.xor_comm (b / 2)]
 · simp only [Nat.xor_self,Nat.one_mul,Nat.zero_mul,Nat.xor_zero]
   rw [show a / 2 ^^^ 3988292384 ^^^ (b / 2 ^^^ 3988292384)=a / 2 ^^^ b / 2 ^^^ (3988292384 ^^^ 3988292384) from by ac_rfl]
   simp
theorem zy (a b:Nat):∀ n,lF n (a ^^^ b)=lF n a ^^^ lF n b
 | 0=>rfl
 | n+1=>by rw [lF,zy a b n,EB]; rfl
theorem wm:∀ n h,lF n (2 ^ n*h)=h
 | 0,h=>by simp [lF]
 | n+1,h=>by
  have e:2 ^ (n+1)*h=2 ^ n*(2*h):=by rw [Nat.pow_succ,Nat.mul_assoc]
  rw [lF,e,wm n (2*h)]
  unfold xC
  simp
theorem CI (y:Nat):lF 8 y=(y / 256) ^^^ lF 8 (y % 256):=by
 have e:y=(256*(y / 256)) ^^^ (y % 256):=by
  have h:=Nat.two_pow_add_eq_or_of_lt (i:=8) (b:=y % 256) (by omega) (y / 256)
  have h2:2 ^ 8*(y / 256) &&& y % 256=0:=by
   apply Nat.eq_of_testBit_eq
   intro i
   rw [Nat.testBit_and,Nat.zero_testBit,Nat.testBit_two_pow_mul]
   by_cases hi:8≤i
   · have:(y % 256).testBit i=false:=Nat.testBit_lt_two_pow (Nat.lt_of_lt_of_le (show y % 256<2 ^ 8 by omega) (Nat.pow_le_pow_right (by omega) hi))
     simp [this]
   · simp [hi]
  have h3:(256*(y / 256)) ^^^ (y % 256)=256*(y / 256) ||| y % 256:=by
   apply Nat.eq_of_testBit_eq
   intro i
   have h4:=congrArg (fun z=>z.testBit i) h2
   simp only [Nat.testBit_and,Nat.zero_testBit] at h4
   rw [Nat.testBit_xor,Nat.testBit_or]
   have h5:(256*(y / 256))=2 ^ 8*(y / 256):=rfl
   rw [h5]
   revert h4
   cases (2 ^ 8*(y / 256)).testBit i <;> cases (y % 256).testBit i <;> simp
  rw [h3]
  have h5:(256*(y / 256))=2 ^ 8*(y / 256):=rfl
  rw [h5,← h]
  omega
 have h1:lF 8 (256*(y / 256))=y / 256:=wm 8 (y / 256)
 conv=>lhs; rw [e,zy,h1]
def EC (x c:Nat):Nat:=(x / 256) ^^^ lF 8 ((x % 256) ^^^ c)
theorem Gn {x c:Nat} (hc:c<256):EC x c=lF 8 (x ^^^ c):=by
 rw [CI (x ^^^ c)]
 have e1:(x ^^^ c) / 256=x / 256:=by
  have:=Nat.shiftRight_xor_distrib (a:=x) (b:=c) (i:=8)
  simp only [Nat.shiftRight_eq_div_pow] at this
  rw [show (256:Nat)=2 ^ 8 from rfl,this,show c / 2 ^ 8=0 from by omega,Nat.xor_zero]
 have e2:(x ^^^ c) % 256=(x % 256) ^^^ c:=by
  have:=Nat.xor_mod_two_pow (a:=x) (b:=c) (n:=8)
  rw [show (256:Nat)=2 ^ 8 from rfl,this,show c % 2 ^ 8=c from by omega]
 rw [e1,e2]; rfl
theorem Gp {x c:Nat} (hx:x<4294967296) (hc:c<256):EC x c<4294967296:=by
 rw [Gn hc]
 exact sN (Nat.xor_lt_two_pow (n:=32) hx (by omega)) 8
def ze (l:List UInt8):Nat:=l.foldl (fun x c=>EC x c.toNat) 4294967295
theorem F6 (l:List UInt8):ze l<4294967296:=by
 unfold ze
 have:∀ (l:List UInt8) (x:Nat),x<4294967296→l.foldl (fun x c=>EC x c.toNat) x<4294967296:=by
  intro l
  induction l with
  | nil=>intro x h; exact h
  | cons c l ih=>intro x h; exact ih _ (Gp h c.toNat_lt)
 exact this l _ (by omega)
def iW (l:List UInt8):Nat:=4294967295 - ze l
theorem vv (x:Nat) (hx:x<4294967296):bits .xor .u32 ((x:Int) / 2) (bits .and .u32 (x:Int) 1*3988292384)=((xC x:Nat):Int)∧0≤bits .and .u32 (x:Int) 1∧bits .and .u32 (x:Int) 1≤1:=by
 have e1:bits .and .u32 (x:Int) 1=((x % 2:Nat):Int):=by
  rw [show (1:Int)=((1:Nat):Int) from rfl,u32_and_nat x 1 hx (by omega),nat_mask1]
 rw [e1]
 refine⟨?_,by omega,by omega⟩
 have e2:((x % 2:Nat):Int)*3988292384=((x % 2*3988292384:Nat):Int):=by rw [Int.natCast_mul]; rfl
 have e3:(x:Int) / 2=((x / 2:Nat):Int):=by omega
 rw [e2,e3,u32_xor_nat _ _ (by omega) (by have:x % 2<2:=Nat.mod_lt _ (by omega); omega)]
 rfl
theorem F7 (x c:Nat) (hc:c<256):bits .xor .u8 ((x:Int) % 256) (c:Int)=(((x % 256) ^^^ c:Nat):Int)∧(x % 256) ^^^ c<256:=by
 have e:(x:Int) % 256=((x % 256:Nat):Int):=by omega
 rw [e,u8_xor_nat _ _ (by omega) hc]
 exact⟨rfl,Nat.xor_lt_two_pow (n:=8) (by omega) (by omega)⟩
theorem xg (x y:Nat) (hx:x<4294967296) (hy:y<256):bits .xor .u32 ((x:Int) / 256) ((lF 8 y:Nat):Int)=((x / 256 ^^^ lF 8 y:Nat):Int):=by
 have e:(x:Int) / 256=((x / 256:Nat):Int):=by omega
 rw [e,u32_xor_nat _ _ (by omega) (sN (by omega) 8)]
theorem Cn (l:List UInt8) (c:UInt8):ze (l ++ [c])=EC (ze l) c.toNat:=by simp [ze]
theorem uD (a:Nat) (h:a<4294967296):a ^^^ 4294967295=4294967295 - a:=by
 have e:BitVec.ofNat 32 a ^^^ BitVec.allOnes 32 = ~~~ BitVec.ofNat 32 a:=BitVec.xor_allOnes
 have e2:=congrArg BitVec.toNat e
 simp only [BitVec.toNat_xor,BitVec.toNat_not,BitVec.toNat_ofNat,BitVec.toNat_allOnes] at e2
 rw [Nat.mod_eq_of_lt (by omega)] at e2
 simpa using e2
theorem F8 (x:Nat) (hx:x<4294967296):bits .xor .u32 IntKind.u32.max (x:Int)=((4294967295 - x:Nat):Int):=by
 have e:IntKind.u32.max=((4294967295:Nat):Int):=rfl
 rw [e,u32_xor_nat _ _ (by omega) hx,Nat.xor_comm,uD x hx]
end Go.Proofs.YtoeejfhdjmkpcaaGreatDoor
