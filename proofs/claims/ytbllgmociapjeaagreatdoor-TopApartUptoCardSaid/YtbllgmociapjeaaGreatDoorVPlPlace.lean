/- Of the proof of a statement: PlApply, PlPlace, Cmp, PlNext, Sum. -/
import Derived.WalkLawsBesides
import Derived.Test.YtbllgmociapjeaaGreatDoorVRTab
set_option linter.unusedVariables false
set_option linter.unusedSimpArgs false
set_option maxRecDepth 100000
set_option maxHeartbeats 8000000
/- What Apply says: plain. -/
namespace Go.Proofs.YtbllgmociapjeaaGreatDoor
open Go.Lib (hid)
open Go.Op (bytesLess)
def dK (a b:ByteArray):Bool:=bytesLess a.toList b.toList
theorem eE (a:ByteArray):dK a a=false:=mg _
theorem kA {a b c:ByteArray} (h:dK a b=true) (h2:dK b c=true):dK a c=true:=qw _ _ _ h h2
theorem uo {a b:ByteArray} (h:a.toList=b.toList):a=b:=by rw [ByteArray.toList_eq,ByteArray.toList_eq] at h; exact ByteArray.ext (Array.toList_inj.1 h)
theorem kT {a b:ByteArray} (h:dK a b=false) (hne:a≠b):dK b a=true:=by
 have ht:=dW a.toList b.toList
 unfold dK at h ⊢
 rw [h] at ht
 rcases Bool.or_eq_true_iff.1 ht.symm with h1 | h1
 · exact h1
 · exact absurd (uo (beq_iff_eq.1 h1)).symm hne
section
variable {α:Type} (key:α→ByteArray)
def bG (l:List α):Prop:=l.Pairwise fun a b=>dK (key a) (key b)=true
variable {key}
theorem oz:∀ {l r:List α},bG key l→bG key r→(∀ x,x ∈ l↔x ∈ r)→l=r
 | [],[],_,_,_=>rfl
 | [],b :: r,_,_,h=>absurd ((h b).2 List.mem_cons_self) List.not_mem_nil
 | a :: l,[],_,_,h=>absurd ((h a).1 List.mem_cons_self) List.not_mem_nil
 | a :: l,b :: r,hl,hr,h=>by
  obtain⟨hl1,hl2⟩:=List.pairwise_cons.1 hl
  obtain⟨hr1,hr2⟩:=List.pairwise_cons.1 hr
  have hab:a=b:=by
   rcases List.mem_cons.1 ((h a).1 List.mem_cons_self) with h1 | h1
   · exact h1
   · rcases List.mem_cons.1 ((h b).2 List.mem_cons_self) with h2 | h2
     · exact h2.symm
     · have:=kA (hr1 a h1) (hl1 b h2)
       rw [eE] at this; cases this
  subst hab
  refine congrArg (a :: ·) (oz hl2 hr2 fun x=>⟨fun hx=>?_,fun hx=>?_⟩)
  · rcases List.mem_cons.1 ((h x).1 (List.mem_cons_of_mem _ hx)) with h1 | h1
    · subst h1
      have:=hl1 x hx
      rw [eE] at this; cases this
    · exact h1
  · rcases List.mem_cons.1 ((h x).2 (List.mem_cons_of_mem _ hx)) with h1 | h1
    · subst h1
      have:=hr1 x hx
      rw [eE] at this; cases this
    · exact h1
theorem xw {l:List α} (h:bG key l):l.Pairwise fun a b=>key a≠key b:=
 h.imp fun {a b} hlt e=>by rw [e,eE] at hlt; cases hlt
variable (key)
def gO (x:α):Bool→List α→List α
 | d,[]=>if d then [] else [x]
 | d,y :: l=>(if !d && !dK (key y) (key x) then [x] else []) ++ (if key y≠key x then [y] else []) ++ gO x (d || !dK (key y) (key x)) l
def j6 (l:List α) (x:α):List α:=gO key x false l
variable {key}
theorem jk (x z:α):∀ (l:List α) (d:Bool),z ∈ gO key x d l↔(d=false∧z=x)∨(z ∈ l∧key z≠key x)
 | [],d=>by cases d <;> simp [gO]
 | y :: l,d=>by
  rw [gO,List.mem_append,List.mem_append,jk x z l]
  have h2:(z ∈ if key y≠key x then [y] else [])↔(z=y∧key z≠key x):=by
   by_cases h:key y=key x
   · rw [if_neg (by simp [h])]
     exact⟨fun h'=>absurd h' List.not_mem_nil,fun ⟨h1,h2⟩=>absurd (by rw [h1,h]) h2⟩
   · rw [if_pos h,List.mem_singleton]
     exact⟨fun h'=>⟨h',by rw [h']; exact h⟩,fun h'=>h'.1⟩
  rw [h2,List.mem_cons]
  cases d <;> cases hk:dK (key y) (key x) <;> simp <;> grind
theorem tQ (x:α):∀ (l:List α),bG key l→bG key (gO key x true l)
 | [],_=>List.Pairwise.nil
 | y :: l,h=>by
  obtain⟨h1,h2⟩:=List.pairwise_cons.1 h
  have ih:=tQ x l h2
  rw [gO]
  simp only [Bool.not_true,Bool.false_and,Bool.false_eq_true,if_false,List.nil_append,Bool.true_or]
  by_cases hk:key y=key x
  · rw [if_neg (by simp [hk])]; exact ih
  · rw [if_pos hk]
    refine List.pairwise_cons.2 ⟨fun z hz=>?_,ih⟩
    rcases (jk x z l true).1 hz with hc | hc
    · cases hc.1
    · exact h1 z hc.1
theorem sorted_put (x:α):∀ (l:List α),bG key l→bG key (gO key x false l)
 | [],_=>List.pairwise_singleton _ _
 | y :: l,h=>by
  obtain⟨h1,h2⟩:=List.pairwise_cons.1 h
  cases hk:dK (key y) (key x) with
  | true=>
   have hne:key y≠key x:=fun e=>by rw [e,eE] at hk; cases hk
   have ih:=sorted_put x l h2
   rw [gO,hk]
   simp only [Bool.not_true,Bool.and_false,Bool.false_eq_true,if_false,List.nil_append,Bool.or_false,if_pos hne]
   refine List.pairwise_cons.2 ⟨fun z hz=>?_,ih⟩
   rcases (jk x z l false).1 hz with hc | hc
   · rw [hc.2]; exact hk
   · exact h1 z hc.1
  | false=>
   have ih:=tQ x (y :: l) h
   have e:gO key x false (y :: l)=x :: gO key x true (y :: l):=by
    rw [gO,gO,hk]
    simp
   rw [e]
   refine List.pairwise_cons.2 ⟨fun z hz=>?_,ih⟩
   rcases (jk x z (y :: l) true).1 hz with hc | hc
   · cases hc.1
   · rcases List.mem_cons.1 hc.1 with e | hz
     · subst e
       exact kT hk hc.2
     · have hyz:=h1 z hz
       by_cases hxy:key y=key x
       · rw [hxy] at hyz; exact hyz
       · exact kA (kT hk hxy) hyz
variable (key)
variable {key}
theorem Eu {l:List α} (h:l.Pairwise fun a b=>key a≠key b) {x:α} (hx:x ∈ l):l.find? (fun y=>decide (key y=key x))=some x:=by
 induction l with
 | nil=>cases hx
 | cons a l ih=>
  obtain⟨h1,h2⟩:=List.pairwise_cons.1 h
  rw [List.find?_cons]
  by_cases e:key a=key x
  · rcases List.mem_cons.1 hx with rfl | hx
    · simp
    · exact absurd e (h1 x hx)
  · rw [decide_eq_false e]
    rcases List.mem_cons.1 hx with rfl | hx
    · exact absurd rfl e
    · exact ih h2 hx
end
end Go.Proofs.YtbllgmociapjeaaGreatDoor
/- The place of a name in a table that is in order: plain. -/
namespace Go.Proofs.YtbllgmociapjeaaGreatDoor
open Go.Lib (hid)
section
variable {α:Type} (key:α→ByteArray)
def dF (l:List α) (s:ByteArray):Nat:=(l.takeWhile fun a=>dK (key a) s).length
def isL (l:List α) (s:ByteArray):Bool:=match l[dF key l s]? with
 | some a=>decide (key a=s)
 | none=>false
def gL (l:List α) (s:ByteArray) (i j:Nat):Prop:=i≤j∧j≤l.length∧(∀ a ∈ l.take i,dK (key a) s=true)∧∀ a ∈ l.drop j,dK (key a) s=false
variable {key}
theorem gL.start (l:List α) (s:ByteArray):gL key l s 0 l.length:=⟨Nat.zero_le _,Nat.le_refl _,by simp,by simp⟩
theorem gL.low {l:List α} {s:ByteArray} {i j h:Nat} (H:gL key l s i j) (hs:bG key l) (h2:h<j) {x:α} (hx:l[h]? = some x) (hk:dK (key x) s=true):gL key l s (h+1) j:=by
 refine⟨h2,H.2.1,fun a ha=>?_,H.2.2.2⟩
 obtain⟨hlt,rfl⟩:=List.getElem?_eq_some_iff.1 hx
 obtain⟨k,hkl,rfl⟩:=List.mem_iff_getElem.1 ha
 rw [List.length_take] at hkl
 rw [List.getElem_take]
 by_cases e:k=h
 · subst e; exact hk
 · exact kA (List.pairwise_iff_getElem.1 hs k h (by omega) hlt (by omega)) hk
theorem gL.high {l:List α} {s:ByteArray} {i j h:Nat} (H:gL key l s i j) (hs:bG key l) (h1:i≤h) {x:α} (hx:l[h]? = some x) (hk:dK (key x) s=false):gL key l s i h:=by
 obtain⟨hlt,rfl⟩:=List.getElem?_eq_some_iff.1 hx
 refine⟨h1,by omega,H.2.2.1,fun a ha=>?_⟩
 obtain⟨k,hkl,rfl⟩:=List.mem_iff_getElem.1 ha
 rw [List.length_drop] at hkl
 rw [List.getElem_drop]
 cases hc:dK (key l[h+k]) s with
 | false=>rfl
 | true=>
  by_cases e:k=0
  · subst e; simp only [Nat.add_zero] at hc; rw [hc] at hk; cases hk
  · have:=kA (List.pairwise_iff_getElem.1 hs h (h+k) hlt (by omega) (by omega)) hc
    rw [hk] at this; cases this
theorem nL {p:α→Bool}:∀ (l:List α) (i:Nat),i≤l.length→(∀ a ∈ l.take i,p a=true)→(∀ a ∈ l.drop i,p a=false)→l.takeWhile p=l.take i
 | [],i,hi,_,_=>by simp
 | a :: l,0,_,_,h=>by
  have:=h a (by simp)
  simp [List.takeWhile_cons,this]
 | a :: l,i+1,hi,h1,h2=>by
  have ha:=h1 a (by simp)
  rw [List.takeWhile_cons,ha,List.take_succ_cons]
  simp only [if_true]
  rw [nL l i (by simpa using hi) (fun b hb=>h1 b (by simp [hb])) (fun b hb=>h2 b (by simpa using hb))]
theorem gL.pos {l:List α} {s:ByteArray} {i:Nat} (H:gL key l s i i):dF key l s=i:=by
 unfold dF
 rw [nL l i H.2.1 H.2.2.1 H.2.2.2,List.length_take]
 have:=H.2.1
 omega
theorem qS (l:List α) (s:ByteArray):dF key l s≤l.length:=by
 unfold dF
 exact (List.takeWhile_prefix _).length_le
theorem takeWhile_take (p:α→Bool):∀ l:List α,l.takeWhile p=l.take (l.takeWhile p).length
 | []=>rfl
 | a :: l=>by
  rw [List.takeWhile_cons]
  split
  · rw [List.length_cons,List.take_succ_cons,← takeWhile_take p l]
  · rfl
theorem oA {l:List α} {s:ByteArray}:∀ a ∈ l.take (dF key l s),dK (key a) s=true:=by
 intro a ha
 unfold dF at ha
 rw [← takeWhile_take] at ha
 have:=List.all_takeWhile (l:=l) (p:=fun a=>dK (key a) s)
 rw [List.all_eq_true] at this
 exact this a ha
theorem oB (p:α→Bool):∀ (l:List α) (x:α),l[(l.takeWhile p).length]? = some x→p x=false
 | [],x,h=>by simp at h
 | a :: l,x,h=>by
  rw [List.takeWhile_cons] at h
  split at h
  · rw [List.length_cons,List.getElem?_cons_succ] at h
    exact oB p l x h
  · rename_i hp
    rw [List.length_nil,List.getElem?_cons_zero] at h
    injection h with h
    subst h
    simpa using hp
theorem xV {l:List α} {s:ByteArray} {x:α} (h:l[dF key l s]? = some x):dK (key x) s=false:=oB _ l x h
theorem Cj {l:List α} {s:ByteArray} (hs:bG key l):∀ a ∈ l.drop (dF key l s),dK (key a) s=false:=by
 intro a ha
 obtain⟨k,hkl,rfl⟩:=List.mem_iff_getElem.1 ha
 rw [List.length_drop] at hkl
 have hp:dF key l s<l.length:=by omega
 have h0:=xV (List.getElem?_eq_getElem hp)
 have H:gL key l s (dF key l s) l.length:=⟨qS _ _,Nat.le_refl _,oA,by simp⟩
 have H2:=H.high hs (Nat.le_refl _) (List.getElem?_eq_getElem hp) h0
 exact H2.2.2.2 _ ha
theorem pE {l:List α} {s:ByteArray} (hs:bG key l) (his:isL key l s=false):∀ a ∈ l.drop (dF key l s),key a≠s:=by
 intro a ha e
 obtain⟨k,hkl,rfl⟩:=List.mem_iff_getElem.1 ha
 rw [List.length_drop] at hkl
 have hp:dF key l s<l.length:=by omega
 rw [List.getElem_drop] at e
 unfold isL at his
 rw [List.getElem?_eq_getElem hp] at his
 have hne:key l[dF key l s]≠s:=by simpa using his
 by_cases h0:k=0
 · subst h0; exact hne e
 · have h1:=List.pairwise_iff_getElem.1 hs (dF key l s) (dF key l s+k) hp (by omega) (by omega)
   have h2:=xV (List.getElem?_eq_getElem hp)
   rw [e,h2] at h1; cases h1
theorem lT {l:List α} {s:ByteArray}:∀ a ∈ l.take (dF key l s),key a≠s:=fun a ha e=>by
 have:=oA a ha
 rw [e,eE] at this; cases this
theorem lJ {l:List α} {s:ByteArray} (h:isL key l s=true):∃ x,l[dF key l s]? = some x∧key x=s:=by
 unfold isL at h
 cases hx:l[dF key l s]? with
 | none=>rw [hx] at h; cases h
 | some x=>rw [hx] at h; exact⟨x,rfl,by simpa using h⟩
theorem oC {l:List α} {s:ByteArray} (hs:bG key l) (his:isL key l s=true):∀ a ∈ l.drop (dF key l s+1),dK s (key a)=true:=by
 intro a ha
 obtain⟨x,hx,hk⟩:=lJ his
 obtain⟨hlt,rfl⟩:=List.getElem?_eq_some_iff.1 hx
 obtain⟨k,hkl,rfl⟩:=List.mem_iff_getElem.1 ha
 rw [List.length_drop] at hkl
 rw [List.getElem_drop]
 have:=List.pairwise_iff_getElem.1 hs (dF key l s) (dF key l s+1+k) hlt (by omega) (by omega)
 rwa [hk] at this
theorem mP {l:List α} {s:ByteArray} (hs:bG key l):isL key l s=(l.find? fun a=>decide (key a=s)).isSome:=by
 cases h:isL key l s with
 | true=>
  obtain⟨x,hx,hk⟩:=lJ h
  symm
  rw [List.find?_isSome]
  exact⟨x,List.mem_of_getElem? hx,by simpa using hk⟩
 | false=>
  symm
  rw [← Bool.not_eq_true,List.find?_isSome]
  rintro⟨a,ha,hk⟩
  have hk':key a=s:=by simpa using hk
  rw [← List.take_append_drop (dF key l s) l] at ha
  rcases List.mem_append.1 ha with h1 | h1
  · exact lT a h1 hk'
  · exact pE hs h a h1 hk'
theorem I3 {l:List α} {s:ByteArray} (hs:bG key l) {x:α} (hx:l[dF key l s]? = some x) (hk:key x=s):(l.find? fun a=>decide (key a=s))=some x:=by
 have:=Eu (xw hs) (List.mem_of_getElem? hx)
 rwa [hk] at this
theorem nZ {l:List α} {x:α} (hs:bG key l):j6 key l x=if isL key l (key x)=true then l.take (dF key l (key x)) ++ x :: l.drop (dF key l (key x)+1) else l.take (dF key l (key x)) ++ x :: l.drop (dF key l (key x)):=by
 refine oz (sorted_put x l hs) ?_ fun z=>?_
 · have hp:∀ r:List α,bG key r→(∀ a ∈ r,dK (key x) (key a)=true)→bG key (l.take (dF key l (key x)) ++ x :: r):=by
    intro r hr hx
    refine List.pairwise_append.2 ⟨hs.sublist (List.take_sublist _ _),List.pairwise_cons.2 ⟨hx,hr⟩,fun a ha b hb=>?_⟩
    have h1:=oA a ha
    rcases List.mem_cons.1 hb with rfl | hb
    · exact h1
    · exact kA h1 (hx b hb)
   split
   · rename_i h
     exact hp _ (hs.sublist (List.drop_sublist _ _)) (oC hs h)
   · rename_i h
     rw [Bool.not_eq_true] at h
     exact hp _ (hs.sublist (List.drop_sublist _ _)) fun a ha=>kT (Cj hs a ha) (pE hs h a ha)
 · show z ∈ gO key x false l↔_
   rw [jk]
   have hl:z ∈ l↔z ∈ l.take (dF key l (key x))∨z ∈ l.drop (dF key l (key x)):=by
    conv=>lhs; rw [← List.take_append_drop (dF key l (key x)) l]
    exact List.mem_append
   split
   · rename_i h
     obtain⟨y,hy,hk⟩:=lJ h
     have hd:l.drop (dF key l (key x))=y :: l.drop (dF key l (key x)+1):=drop_cons hy
     rw [hl,hd]
     simp only [List.mem_append,List.mem_cons,true_and]
     constructor
     · rintro (h1 | ⟨h1 | h1 | h1,h2⟩)
       · exact .inr (.inl h1)
       · exact .inl h1
       · subst h1; exact absurd hk h2
       · exact .inr (.inr h1)
     · rintro (h1 | h1 | h1)
       · exact .inr ⟨.inl h1,lT z h1⟩
       · exact .inl h1
       · exact .inr ⟨.inr (.inr h1),fun e=>by have:=oC hs h z h1; rw [e,eE] at this; cases this⟩
   · rename_i h
     rw [Bool.not_eq_true] at h
     rw [hl]
     simp only [List.mem_append,List.mem_cons,true_and]
     constructor
     · rintro (h1 | ⟨h1 | h1,h2⟩)
       · exact .inr (.inl h1)
       · exact .inl h1
       · exact .inr (.inr h1)
     · rintro (h1 | h1 | h1)
       · exact .inr ⟨.inl h1,lT z h1⟩
       · exact .inl h1
       · exact .inr ⟨.inr h1,pE hs h z h1⟩
theorem uV {l:List α} {s:ByteArray} (hs:bG key l):l.filter (fun a=>!decide (key a=s))=if isL key l s=true then l.take (dF key l s) ++ l.drop (dF key l s+1) else l:=by
 have hf:∀ r:List α,(∀ a ∈ r,key a≠s)→r.filter (fun a=>!decide (key a=s))=r:=fun r hr=>List.filter_eq_self.2 fun a ha=>by simpa using hr a ha
 split
 · rename_i h
   obtain⟨x,hx,hk⟩:=lJ h
   have hd:l.drop (dF key l s)=x :: l.drop (dF key l s+1):=drop_cons hx
   conv=>lhs; rw [← List.take_append_drop (dF key l s) l,hd]
   rw [List.filter_append,List.filter_cons,hf _ lT,hf _ (fun a ha e=>by have:=oC hs h a ha; rw [e,eE] at this; cases this)]
   simp [hk]
 · rename_i h
   rw [Bool.not_eq_true] at h
   refine hf _ fun a ha=>?_
   rw [← List.take_append_drop (dF key l s) l] at ha
   rcases List.mem_append.1 ha with h1 | h1
   · exact lT a h1
   · exact pE hs h a h1
theorem og {l:List α} {x:α} (hs:bG key l):(j6 key l x).length≤l.length+1:=by
 rw [nZ hs]
 have:=qS (key:=key) l (key x)
 split <;> simp <;> omega
end
end Go.Proofs.YtbllgmociapjeaaGreatDoor
/- cmp.Compare at texts. -/
namespace Go.Proofs.YtbllgmociapjeaaGreatDoor
open Go.Lib (hid)
open Go.RowKit
open Go.Op (bytesLess)
def mC (a b:ByteArray):Int:=if dK a b=true then -1 else if dK b a=true then 1 else 0
theorem Ev {a b:ByteArray} (h:dK a b=true):mC a b = -1:=by unfold mC; rw [if_pos h]
theorem Ew {a b:ByteArray} (h:dK a b=false) (h2:dK b a=true):mC a b=1:=by unfold mC; rw [if_neg (by simp [h]),if_pos h2]
theorem Ex {a b:ByteArray} (h:dK a b=false) (h2:dK b a=false):mC a b=0:=by unfold mC; rw [if_neg (by simp [h]),if_neg (by simp [h2])]
theorem uO {a b:ByteArray}:mC a b<0↔dK a b=true:=by
 unfold mC
 by_cases h:dK a b=true
 · simp [h]
 · by_cases h2:dK b a=true <;> simp [h,h2]
theorem su {a b:ByteArray}:mC a b=0↔a=b:=by
 unfold mC
 by_cases h:dK a b=true
 · rw [if_pos h]
   exact⟨fun h'=>by omega,fun e=>by rw [e,eE] at h; cases h⟩
 · rw [if_neg h]
   by_cases h2:dK b a=true
   · rw [if_pos h2]
     exact⟨fun h'=>by omega,fun e=>by rw [e,eE] at h2; cases h2⟩
   · rw [if_neg h2]
     refine⟨fun _=>?_,fun _=>rfl⟩
     by_cases e:a=b
     · exact e
     · exact absurd (kT (by simpa using h) e) h2
theorem sS (a:ByteArray) (w:World):Calls Tryz.prog 244 #[.string a] w fun e w'=>e = .returned (.bool false)∧w=w':=by
 have h0:(a.toList == a.toList)=true:=beq_self_eq_true _
 have h1:(a.toList != a.toList)=false:=by simp
 go_enter Tryz.func244,Tryz.ntmps244
 go_wp2
 go_ret
 exact⟨rfl,rfl⟩
theorem nT (a b:ByteArray) (w:World):Calls Tryz.prog 223 #[.string a,.string b] w fun e w'=>e = .returned (.int .i64 (mC a b))∧w=w':=by
 cases h:dK a b with
 | true=>
  rw [Ev h]
  have h':bytesLess a.toList b.toList=true:=h
  clear h
  go_enter Tryz.func223,Tryz.ntmps223
  go_wp2_with (go_at_call 244; refine (sS _ _).mono ?_; rintro e w' ⟨rfl,rfl⟩)
  go_ret
  exact⟨rfl,rfl⟩
 | false=>
  cases h2:dK b a with
  | true=>
   rw [Ew h h2]
   have h':bytesLess a.toList b.toList=false:=h
   have h2':bytesLess b.toList a.toList=true:=h2
   have hq:(a.toList == b.toList)=false:=beq_eq_false_iff_ne.2 fun e=>by rw [e,mg] at h2'; cases h2'
   clear h h2
   go_enter Tryz.func223,Tryz.ntmps223
   go_wp2_with (go_at_call 244; refine (sS _ _).mono ?_; rintro e w' ⟨rfl,rfl⟩)
   go_ret
   exact⟨rfl,rfl⟩
  | false=>
   rw [Ex h h2]
   have h':bytesLess a.toList b.toList=false:=h
   have h2':bytesLess b.toList a.toList=false:=h2
   have hq:(a.toList == b.toList)=true:=by
    have:=dW a.toList b.toList
    rw [h',h2'] at this
    rw [beq_iff_eq]
    exact (beq_iff_eq.1 (by simpa using this)).symm
   clear h h2
   go_enter Tryz.func223,Tryz.ntmps223
   go_wp2_with (go_at_call 244; refine (sS _ _).mono ?_; rintro e w' ⟨rfl,rfl⟩)
   go_ret
   exact⟨rfl,rfl⟩
end Go.Proofs.YtbllgmociapjeaaGreatDoor
/- What a request does to a state: plain. -/
namespace Go.Proofs.YtbllgmociapjeaaGreatDoor
open Go.Lib (hid)
structure aF where
 kind:Int
 job:aC
 node:aA
 lease:ak
 name:ByteArray
 n:Int
def kH (st:ah) (x:aC):ah:=⟨st.rev,j6 aC.name st.jobs x,st.nodes,st.leases⟩
def lL (st:ah) (x:aA):ah:=⟨st.rev,st.jobs,j6 aA.name st.nodes x,st.leases⟩
def sD (st:ah) (s:ByteArray):ah:=⟨st.rev,st.jobs.filter fun a=>!decide (a.name=s),st.nodes,st.leases.filter fun l=>!decide (l.job=s)⟩
def sE (st:ah) (s:ByteArray):ah:=⟨st.rev,st.jobs,st.nodes.filter fun a=>!decide (a.name=s),st.leases.filter fun l=>!decide (l.node=s)⟩
def qd (st:ah) (s:ByteArray):ah:=⟨st.rev,st.jobs,st.nodes,st.leases.filter fun l=>!decide (l.job=s)⟩
def sJ (st:ah) (t:Int):ah:=⟨st.rev,st.jobs,st.nodes,st.leases.filter fun l=>!decide (l.till≤t)⟩
def Ar (j:aC):aC:=⟨j.name,j.prio,j.need,j.tries+1,j.tag⟩
def ny (st:ah) (j:aC) (l:ak):ah:=⟨st.rev,j6 aC.name st.jobs (Ar j),st.nodes,j6 ak.job st.leases l⟩
def kI (st:ah) (now:Int) (l:ak):Int × ah × Int:=
 match dA st.jobs l.job with
 | none=>(6,st,now)
 | some j=>if (dh st.nodes l.node).isSome=false then (6,st,now)
  else if (eB st.leases l.job).isSome=true then (7,st,now)
  else if l.till≤now then (1,st,now)
  else if j.tries=100 then (2,st,now)
  else (aE (ny st j l),ny st j l,now)
def doR (st:ah) (now:Int) (q:aF):Int × ah × Int:=
 if q.kind=1 then (aE (kH st q.job),kH st q.job,now)
 else if q.kind=2 then (aE (lL st q.node),lL st q.node,now)
 else if q.kind=3 then (if (dA st.jobs q.name).isSome=true then 0 else 6,sD st q.name,now)
 else if q.kind=4 then (if (dh st.nodes q.name).isSome=true then 0 else 6,sE st q.name,now)
 else if q.kind=5 then kI st now q.lease
 else if q.kind=6 then (if (eB st.leases q.name).isSome=true then 0 else 6,qd st q.name,now)
 else if q.kind=7 then (if 1099511627776 - now<q.n then (1,st,now) else (0,sJ st (now+q.n),now+q.n))
 else (0,st,now)
def bR (q:aF):Int:=
 if q.kind=1 then fB q.job else if q.kind=2 then dO q.node
 else if q.kind=3∨q.kind=4∨q.kind=6 then (if bF q.name then 0 else 4)
 else if q.kind=5 then lsE q.lease
 else if q.kind=7 then (if ranged q.n 0 1099511627776 then 0 else 1) else 0
def gV:aC:=⟨⟨#[]⟩,0,0,0,⟨#[]⟩⟩
def dw:aA:=⟨⟨#[]⟩,0,⟨#[]⟩⟩
def cC:ak:=⟨⟨#[]⟩,⟨#[]⟩,0⟩
def iK (q:aF):aF:=
 ⟨q.kind,if q.kind=1 then q.job else gV,if q.kind=2 then q.node else dw,if q.kind=5 then q.lease else cC,if q.kind=3∨q.kind=4∨q.kind=6 then q.name else ⟨#[]⟩,if q.kind=7 then q.n else 0⟩
open Classical in
noncomputable def cu (q:aF):Int:=if ranged q.kind 1 9=false then 1 else if iK q≠q then 4 else bR q
theorem cZ {α:Type} {E:α→Int} {key:α→ByteArray} {l:List α} (h:bT E key l=0):bG key l:=(lM none l h).2
end Go.Proofs.YtbllgmociapjeaaGreatDoor
/- The walks of Sum, in the program and in the reference. -/
namespace Go.Proofs.YtbllgmociapjeaaGreatDoor
open Go.Lib (hid)
open Go.RowKit
def Ck:Array Value:=Array.replicate 256 (.int .u32 0)
theorem Dj (w:World):(zeroValue 164).run Tryz.prog w = .ok (.agg Ck) w:=by kernel_rfl
def tR (cs:Array Value) (k:Nat):Prop:=cs.size=256∧(∀ j,j<k→cs[j]? = some (.int .u32 ((mG 8 j:Nat):Int)))∧cs.all (·.oneCell')=true
theorem tR.zero:tR Ck 0:=⟨by simp [Ck],fun j h=>absurd h (by omega),by decide +kernel⟩
theorem tR.step {cs:Array Value} {k:Nat} (h:tR cs k) (hk:k<256):tR (cs.setIfInBounds k (.int .u32 ((mG 8 k:Nat):Int))) (k+1):=by
 refine⟨by simpa using h.1,fun j hj=>?_,?_⟩
 · rw [Array.getElem?_setIfInBounds]
   have:=h.1
   by_cases e:k=j
   · subst e; rw [if_pos rfl,if_pos (by omega)]
   · rw [if_neg e]; exact h.2.1 j (by omega)
 · have:=h.2.2
   rw [Array.all_eq_true_iff_forall_mem] at this ⊢
   intro x hx
   rcases Array.mem_or_eq_of_mem_setIfInBounds hx with h' | h'
   · exact this x h'
   · subst h'; rfl
def Jx (w:World) (i:Value) (wr:World):Prop:=∃ (k:Nat) (cs:Array Value),k≤256∧i = .int .i64 k∧tR cs k∧wr=w.alloc (.cells cs 164)
theorem below_setRow (w:World) (g:Nat) (cs:Array Value):Below g w (w.setRow g cs):=by
 refine⟨rfl,rfl,rfl,by simp [World.setRow],fun k hk=>?_⟩
 simp only [World.setRow,Array.getElem?_modify]
 rw [if_neg (by omega)]
theorem GK (w:World):Calls Tryz.prog 85 #[] w fun e w'=>∃ cs,tR cs 256∧e = .returned (.agg cs)∧Below w.heap.size w w':=by
 have hz:=Dj
 go_enter Tryz.func85,Tryz.ntmps85
 go_wp2
 go_loopw [1,2,3,4,9] (fun _ _ _ i _ wr=>Jx w i wr) (fun _ _ _ i _ _=>256 - (intOf i).toNat)
 case atStart=>exact⟨0,Ck,by omega,rfl,tR.zero,rfl⟩
 case round=>
  obtain⟨k,cs,hk,rfl,ht,rfl⟩:=hrel
  have Ht:=hid ht
  clear ht
  by_cases hlt:k<256
  · go_wp2
    go_loop [2,3,9] (fun x _ i=>∃ (m:Nat),m≤8∧i = .int .i64 m∧x = .int .u32 ((mG m k:Nat):Int)) (fun _ _ i=>8 - (intOf i).toNat)
    case atStart=>exact⟨0,by omega,rfl,rfl⟩
    case round=>
     obtain⟨m,hm,rfl,rfl⟩:=hrel
     have hlt2:=uG (x:=k) (by omega) m
     have hst:=xA (mG m k) hlt2
     have hb1:=hst.2.1
     have hb2:=hst.2.2
     have Hst:=hid hst.1
     clear hst
     by_cases hm8:m<8
     · go_wp2
       go_round
       case rel=>exact⟨m+1,by omega,by go_num,by rw [Hst.out]; rfl⟩
       case measure=>simp [intOf]; omega
     · obtain rfl:m=8:=by omega
       obtain⟨cv,hcv⟩:∃ v,cs[k]? = some v:=⟨_,Array.getElem?_eq_getElem (by rw [Ht.out.1]; exact hlt)⟩
       go_wp2
       go_roundw
       case rel=>exact⟨k+1,_,by omega,by go_num,Ht.out.step hlt,rfl⟩
       case measure=>simp [intOf]; omega
  · obtain rfl:k=256:=by omega
    have hg:=heap_alloc_new w (.cells cs 164)
    have hi:(Tryz.prog.info? 164).map (·.size)=some cs.size:=by rw [Ht.out.1]; kernel_rfl
    have HG:=hid hg
    have HI:=hid hi
    clear hg hi
    go_wp2_with (first | (refine wpList_load_row rfl _ _ rfl w.heap.size rfl 164 cs (0,0) _ HG.out Tryz.underlying164 rfl HI.out ?_) | (refine wpList_store_row rfl _ _ _ rfl w.heap.size cs rfl rfl 164 cs HG.out HI.out rfl Ht.out.2.2 ?_))
    have e1:((w.alloc (.cells cs 164)).setRow w.heap.size cs).heap[w.heap.size]? = some (.cells cs 164 (0,0)):=setRow_heap _ _ _ _ _ _ HG.out
    refine bodyPost_ret (results_cell_row rfl _ _ w.heap.size _ cs (0,0) _ rfl e1 Tryz.underlying164 rfl HI.out) rfl ⟨cs,Ht.out,rfl,?_⟩
    exact (Below.refl _ _).alloc (Nat.le_refl _) _ |>.trans (below_setRow _ _ _)
theorem Cl (w:World) (c c':Array Value) (t:TypeId):(w.alloc (.cells c t)).setRow w.heap.size c'=w.alloc (.cells c' t):=by
 have hm:∀ (a:Array Obj) (x:Obj) (f:Obj→Obj),(a.push x).modify a.size f=a.push (f x):=by
  intro a x f
  apply Array.ext
  · simp
  · intro i h1 h2
    simp only [Array.getElem_modify,Array.getElem_push]
    by_cases h:a.size=i
    · subst h
      simp
    · have hi:i<a.size:=by simp at h1; omega
      simp [h,hi]
 unfold World.setRow
 show ({ w.alloc (.cells c t) with heap:=(w.heap.push (.cells c t)).modify w.heap.size _ }:World)=_
 rw [hm]
 rfl
def K8 (s:ByteArray) (x i:Value):Prop:=∃ (k n:Nat),k≤s.size∧i = .int .i64 k∧x = .int .u32 n∧n=AP (s.data.toList.take k)
theorem I0 (s:ByteArray) (w:World) (hs:s.size≤9223372036854775807):Calls Tryz.prog 53 #[.string s] w fun e w'=>e = .returned (.int .u32 ((jA s.data.toList:Nat):Int))∧Below w.heap.size w w':=by
 have hz:=Dj
 go_enter Tryz.func53,Tryz.ntmps53
 go_wp2_with fail
 refine Calls.mono (GK w) ?_
 rintro e w1 ⟨cs,ht,rfl,hb⟩
 have Ht:=hid ht
 have hg:=heap_alloc_new w1 (.cells Ck 164)
 have hi:(Tryz.prog.info? 164).map (·.size)=some cs.size:=by rw [Ht.out.1]; kernel_rfl
 have HG:=hid hg
 have HI:=hid hi
 have hb2:Below w.heap.size w (w1.alloc (.cells cs 164)):=hb.alloc hb.size _
 have Hb:=hid hb2
 clear hg hi ht hb2 hb
 go_wp2_with (refine wpList_store_row rfl _ _ _ rfl w1.heap.size cs rfl rfl 164 Ck HG.out HI.out (by rw [Ht.out.1]; simp [Ck]) Ht.out.2.2 ?_; rw [Cl])
 go_loop [4,5,9] (fun x _ i=>K8 s x i) (fun _ _ i=>s.size - (intOf i).toNat)
 case atStart=>exact⟨0,_,by omega,rfl,rfl,rfl⟩
 case round=>
  obtain⟨k,x,hk,rfl,rfl,hx⟩:=hrel
  have hlt:x<4294967296:=by rw [hx]; exact Jy _
  have Hx:=hid hx
  clear hx
  by_cases hsz:k<s.size
  · obtain⟨c,hc⟩:∃ c:Nat,s[k].toNat=c:=⟨_,rfl⟩
    have hc2:c<256:=by rw [← hc]; exact s[k].toNat_lt
    have Hi:=qW hsz hc
    have hix:=Jz x c hc2
    have bI:=hid (show x / 256 ^^^ mG 8 (x % 256 ^^^ c)=AP (s.data.toList.take (k+1)) from by rw [sU hsz,Ey,← Hx.out,hc]; rfl)
    clear hc
    generalize hy:(x % 256) ^^^ c=y at hix bI
    clear hy
    have hcs:=Ht.out.2.1 y hix.2
    have hy2:=hix.2
    have hix1:=hix.1
    have hst:=yW x y hlt hy2
    clear hix
    go_wp2
    go_round
    case rel=>exact⟨k+1,_,by omega,by go_num,rfl,bI.out⟩
    case measure=>simp [intOf]; omega
  · have hn:=hid (JA x hlt)
    have hfin:=hid (show 4294967295 - x=jA s.data.toList from by
     unfold jA; rw [Hx.out,List.take_of_length_le (by simp; omega)])
    go_wp2
    go_ret
    exact⟨bg (by rw [hn.out,hfin.out]),Hb.out⟩
end Go.Proofs.YtbllgmociapjeaaGreatDoor
