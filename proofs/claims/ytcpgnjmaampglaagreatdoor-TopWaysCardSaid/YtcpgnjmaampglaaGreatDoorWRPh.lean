/- Of the proof of a statement: PlPlace, Cmp, RPh, SortK. -/
import Derived.WalkLawsBesides
import Derived.Shelf.SlSortCmp.WholeK
import Derived.Test.YtcpgnjmaampglaaGreatDoorWCopyK
set_option linter.unusedVariables false
set_option linter.unusedSimpArgs false
set_option maxRecDepth 100000
set_option maxHeartbeats 8000000
/- The place of a name in a table that is in order: plain. -/
namespace Go.Proofs.YtcpgnjmaampglaaGreatDoor
open Go.Lib (hid)
open Go.RowKit
open Go.Op (bytesLess)
open Go.RowKit Go.Sort
section
variable {α:Type} (key:α→ByteArray)
def iw (l:List α) (s:ByteArray):Nat:=(l.takeWhile fun a=>cY (key a) s).length
def isL (l:List α) (s:ByteArray):Bool:=match l[iw key l s]? with
 | some a=>decide (key a=s)
 | none=>false
def ku (l:List α) (s:ByteArray) (i j:Nat):Prop:=i≤j∧j≤l.length∧(∀ a ∈ l.take i,cY (key a) s=true)∧∀ a ∈ l.drop j,cY (key a) s=false
variable {key}
theorem ku.start (l:List α) (s:ByteArray):ku key l s 0 l.length:=⟨Nat.zero_le _,Nat.le_refl _,by simp,by simp⟩
theorem ku.low {l:List α} {s:ByteArray} {i j h:Nat} (H:ku key l s i j) (hs:aT key l) (h2:h<j) {x:α} (hx:l[h]? = some x) (hk:cY (key x) s=true):ku key l s (h+1) j:=by
 refine⟨h2,H.2.1,fun a ha=>?_,H.2.2.2⟩
 obtain⟨hlt,rfl⟩:=List.getElem?_eq_some_iff.1 hx
 obtain⟨k,hkl,rfl⟩:=List.mem_iff_getElem.1 ha
 rw [List.length_take] at hkl
 rw [List.getElem_take]
 by_cases e:k=h
 · subst e; exact hk
 · exact iG (List.pairwise_iff_getElem.1 hs k h (by omega) hlt (by omega)) hk
theorem ku.high {l:List α} {s:ByteArray} {i j h:Nat} (H:ku key l s i j) (hs:aT key l) (h1:i≤h) {x:α} (hx:l[h]? = some x) (hk:cY (key x) s=false):ku key l s i h:=by
 obtain⟨hlt,rfl⟩:=List.getElem?_eq_some_iff.1 hx
 refine⟨h1,by omega,H.2.2.1,fun a ha=>?_⟩
 obtain⟨k,hkl,rfl⟩:=List.mem_iff_getElem.1 ha
 rw [List.length_drop] at hkl
 rw [List.getElem_drop]
 cases hc:cY (key l[h+k]) s with
 | false=>rfl
 | true=>
  by_cases e:k=0
  · subst e; simp only [Nat.add_zero] at hc; rw [hc] at hk; cases hk
  · have:=iG (List.pairwise_iff_getElem.1 hs h (h+k) hlt (by omega) (by omega)) hc
    rw [hk] at this; cases this
theorem qo {p:α→Bool}:∀ (l:List α) (i:Nat),i≤l.length→(∀ a ∈ l.take i,p a=true)→(∀ a ∈ l.drop i,p a=false)→l.takeWhile p=l.take i
 | [],i,hi,_,_=>by simp
 | a :: l,0,_,_,h=>by
  have:=h a (by simp)
  simp [List.takeWhile_cons,this]
 | a :: l,i+1,hi,h1,h2=>by
  have ha:=h1 a (by simp)
  rw [List.takeWhile_cons,ha,List.take_succ_cons]
  simp only [if_true]
  rw [qo l i (by simpa using hi) (fun b hb=>h1 b (by simp [hb])) (fun b hb=>h2 b (by simpa using hb))]
theorem ku.pos {l:List α} {s:ByteArray} {i:Nat} (H:ku key l s i i):iw key l s=i:=by
 unfold iw
 rw [qo l i H.2.1 H.2.2.1 H.2.2.2,List.length_take]
 have:=H.2.1
 omega
theorem CF (l:List α) (s:ByteArray):iw key l s≤l.length:=by
 unfold iw
 exact (List.takeWhile_prefix _).length_le
theorem takeWhile_take (p:α→Bool):∀ l:List α,l.takeWhile p=l.take (l.takeWhile p).length
 | []=>rfl
 | a :: l=>by
  rw [List.takeWhile_cons]
  split
  · rw [List.length_cons,List.take_succ_cons,← takeWhile_take p l]
  · rfl
theorem rz {l:List α} {s:ByteArray}:∀ a ∈ l.take (iw key l s),cY (key a) s=true:=by
 intro a ha
 unfold iw at ha
 rw [← takeWhile_take] at ha
 have:=List.all_takeWhile (l:=l) (p:=fun a=>cY (key a) s)
 rw [List.all_eq_true] at this
 exact this a ha
theorem rA (p:α→Bool):∀ (l:List α) (x:α),l[(l.takeWhile p).length]? = some x→p x=false
 | [],x,h=>by simp at h
 | a :: l,x,h=>by
  rw [List.takeWhile_cons] at h
  split at h
  · rw [List.length_cons,List.getElem?_cons_succ] at h
    exact rA p l x h
  · rename_i hp
    rw [List.length_nil,List.getElem?_cons_zero] at h
    injection h with h
    subst h
    simpa using hp
theorem B2 {l:List α} {s:ByteArray} {x:α} (h:l[iw key l s]? = some x):cY (key x) s=false:=rA _ l x h
theorem GN {l:List α} {s:ByteArray} (hs:aT key l):∀ a ∈ l.drop (iw key l s),cY (key a) s=false:=by
 intro a ha
 obtain⟨k,hkl,rfl⟩:=List.mem_iff_getElem.1 ha
 rw [List.length_drop] at hkl
 have hp:iw key l s<l.length:=by omega
 have h0:=B2 (List.getElem?_eq_getElem hp)
 have H:ku key l s (iw key l s) l.length:=⟨CF _ _,Nat.le_refl _,rz,by simp⟩
 have H2:=H.high hs (Nat.le_refl _) (List.getElem?_eq_getElem hp) h0
 exact H2.2.2.2 _ ha
theorem B3 {l:List α} {s:ByteArray} (hs:aT key l) (his:isL key l s=false):∀ a ∈ l.drop (iw key l s),key a≠s:=by
 intro a ha e
 obtain⟨k,hkl,rfl⟩:=List.mem_iff_getElem.1 ha
 rw [List.length_drop] at hkl
 have hp:iw key l s<l.length:=by omega
 rw [List.getElem_drop] at e
 unfold isL at his
 rw [List.getElem?_eq_getElem hp] at his
 have hne:key l[iw key l s]≠s:=by simpa using his
 by_cases h0:k=0
 · subst h0; exact hne e
 · have h1:=List.pairwise_iff_getElem.1 hs (iw key l s) (iw key l s+k) hp (by omega) (by omega)
   have h2:=B2 (List.getElem?_eq_getElem hp)
   rw [e,h2] at h1; cases h1
theorem Aj {l:List α} {s:ByteArray}:∀ a ∈ l.take (iw key l s),key a≠s:=fun a ha e=>by
 have:=rz a ha
 rw [e,eB] at this; cases this
theorem F5 {l:List α} {s:ByteArray} (h:isL key l s=true):∃ x,l[iw key l s]? = some x∧key x=s:=by
 unfold isL at h
 cases hx:l[iw key l s]? with
 | none=>rw [hx] at h; cases h
 | some x=>rw [hx] at h; exact⟨x,rfl,by simpa using h⟩
theorem xH {l:List α} {s:ByteArray} (hs:aT key l) (his:isL key l s=true):∀ a ∈ l.drop (iw key l s+1),cY s (key a)=true:=by
 intro a ha
 obtain⟨x,hx,hk⟩:=F5 his
 obtain⟨hlt,rfl⟩:=List.getElem?_eq_some_iff.1 hx
 obtain⟨k,hkl,rfl⟩:=List.mem_iff_getElem.1 ha
 rw [List.length_drop] at hkl
 rw [List.getElem_drop]
 have:=List.pairwise_iff_getElem.1 hs (iw key l s) (iw key l s+1+k) hlt (by omega) (by omega)
 rwa [hk] at this
theorem D7 {l:List α} {x:α} (hs:aT key l):pK key l x=if isL key l (key x)=true then l.take (iw key l (key x)) ++ x :: l.drop (iw key l (key x)+1) else l.take (iw key l (key x)) ++ x :: l.drop (iw key l (key x)):=by
 refine mQ (sorted_put x l hs) ?_ fun z=>?_
 · have hp:∀ r:List α,aT key r→(∀ a ∈ r,cY (key x) (key a)=true)→aT key (l.take (iw key l (key x)) ++ x :: r):=by
    intro r hr hx
    refine List.pairwise_append.2 ⟨hs.sublist (List.take_sublist _ _),List.pairwise_cons.2 ⟨hx,hr⟩,fun a ha b hb=>?_⟩
    have h1:=rz a ha
    rcases List.mem_cons.1 hb with rfl | hb
    · exact h1
    · exact iG h1 (hx b hb)
   split
   · rename_i h
     exact hp _ (hs.sublist (List.drop_sublist _ _)) (xH hs h)
   · rename_i h
     rw [Bool.not_eq_true] at h
     exact hp _ (hs.sublist (List.drop_sublist _ _)) fun a ha=>iS (GN hs a ha) (B3 hs h a ha)
 · show z ∈ iq key x false l↔_
   rw [gL]
   have hl:z ∈ l↔z ∈ l.take (iw key l (key x))∨z ∈ l.drop (iw key l (key x)):=by
    conv=>lhs; rw [← List.take_append_drop (iw key l (key x)) l]
    exact List.mem_append
   split
   · rename_i h
     obtain⟨y,hy,hk⟩:=F5 h
     have hd:l.drop (iw key l (key x))=y :: l.drop (iw key l (key x)+1):=drop_cons hy
     rw [hl,hd]
     simp only [List.mem_append,List.mem_cons,true_and]
     constructor
     · rintro (h1 | ⟨h1 | h1 | h1,h2⟩)
       · exact .inr (.inl h1)
       · exact .inl h1
       · subst h1; exact absurd hk h2
       · exact .inr (.inr h1)
     · rintro (h1 | h1 | h1)
       · exact .inr ⟨.inl h1,Aj z h1⟩
       · exact .inl h1
       · exact .inr ⟨.inr (.inr h1),fun e=>by have:=xH hs h z h1; rw [e,eB] at this; cases this⟩
   · rename_i h
     rw [Bool.not_eq_true] at h
     rw [hl]
     simp only [List.mem_append,List.mem_cons,true_and]
     constructor
     · rintro (h1 | ⟨h1 | h1,h2⟩)
       · exact .inr (.inl h1)
       · exact .inl h1
       · exact .inr (.inr h1)
     · rintro (h1 | h1 | h1)
       · exact .inr ⟨.inl h1,Aj z h1⟩
       · exact .inl h1
       · exact .inr ⟨.inr h1,B3 hs h z h1⟩
theorem DJ {l:List α} {x:α} (hs:aT key l):(pK key l x).length≤l.length+1:=by
 rw [D7 hs]
 have:=CF (key:=key) l (key x)
 split <;> simp <;> omega
end
def oq (a b:ByteArray):Int:=if cY a b=true then -1 else if cY b a=true then 1 else 0
theorem JY {a b:ByteArray} (h:cY a b=true):oq a b = -1:=by unfold oq; rw [if_pos h]
theorem JZ {a b:ByteArray} (h:cY a b=false) (h2:cY b a=true):oq a b=1:=by unfold oq; rw [if_neg (by simp [h]),if_pos h2]
theorem J6 {a b:ByteArray} (h:cY a b=false) (h2:cY b a=false):oq a b=0:=by unfold oq; rw [if_neg (by simp [h]),if_neg (by simp [h2])]
theorem zw {a b:ByteArray}:oq a b<0↔cY a b=true:=by
 unfold oq
 by_cases h:cY a b=true
 · simp [h]
 · by_cases h2:cY b a=true <;> simp [h,h2]
theorem J7 {a b:ByteArray}:oq a b=0↔a=b:=by
 unfold oq
 by_cases h:cY a b=true
 · rw [if_pos h]
   exact⟨fun h'=>by omega,fun e=>by rw [e,eB] at h; cases h⟩
 · rw [if_neg h]
   by_cases h2:cY b a=true
   · rw [if_pos h2]
     exact⟨fun h'=>by omega,fun e=>by rw [e,eB] at h2; cases h2⟩
   · rw [if_neg h2]
     refine⟨fun _=>?_,fun _=>rfl⟩
     by_cases e:a=b
     · exact e
     · exact absurd (iS (by simpa using h) e) h2
theorem wI (a:ByteArray) (w:World):Calls Tryz.prog 153 #[.string a] w fun e w'=>e = .returned (.bool false)∧w=w':=by
 have h0:(a.toList == a.toList)=true:=beq_self_eq_true _
 have h1:(a.toList != a.toList)=false:=by simp
 go_enter Tryz.func153,Tryz.ntmps153
 go_wp2
 go_ret
 exact⟨rfl,rfl⟩
theorem wR (a b:ByteArray) (w:World):Calls Tryz.prog 107 #[.string a,.string b] w fun e w'=>e = .returned (.int .i64 (oq a b))∧w=w':=by
 cases h:cY a b with
 | true=>
  rw [JY h]
  have h':bytesLess a.toList b.toList=true:=h
  clear h
  go_enter Tryz.func107,Tryz.ntmps107
  go_wp2_with (go_at_call 153; refine (wI _ _).mono ?_; rintro e w' ⟨rfl,rfl⟩)
  go_ret
  exact⟨rfl,rfl⟩
 | false=>
  cases h2:cY b a with
  | true=>
   rw [JZ h h2]
   have h':bytesLess a.toList b.toList=false:=h
   have h2':bytesLess b.toList a.toList=true:=h2
   have hq:(a.toList == b.toList)=false:=beq_eq_false_iff_ne.2 fun e=>by rw [e,lP] at h2'; cases h2'
   clear h h2
   go_enter Tryz.func107,Tryz.ntmps107
   go_wp2_with (go_at_call 153; refine (wI _ _).mono ?_; rintro e w' ⟨rfl,rfl⟩)
   go_ret
   exact⟨rfl,rfl⟩
  | false=>
   rw [J6 h h2]
   have h':bytesLess a.toList b.toList=false:=h
   have h2':bytesLess b.toList a.toList=false:=h2
   have hq:(a.toList == b.toList)=true:=by
    have:=iH a.toList b.toList
    rw [h',h2'] at this
    rw [beq_iff_eq]
    exact (beq_iff_eq.1 (by simpa using this)).symm
   clear h h2
   go_enter Tryz.func107,Tryz.ntmps107
   go_wp2_with (go_at_call 153; refine (wI _ _).mono ?_; rintro e w' ⟨rfl,rfl⟩)
   go_ret
   exact⟨rfl,rfl⟩
section
variable {Γ:Type} {P:Program} {ops:Array Oper} {V:Γ→Nat→Value→Prop} {a0:Act} {S:List Nat} {Ph:Nat→Γ→World→Prop}
def Mk (S:List Nat) (listed:Array Bool) (p:Nat):Prop:=p≤S.length∧∀ k i,S[k]? = some i→listed.getD i false=decide (k<p)
structure uM {Γ:Type} (ops:Array Oper) (V:Γ→Nat→Value→Prop) (S:List Nat) (Ph:Nat→Γ→World→Prop) (a0:Act) (γ:Γ) (listed:Array Bool) (a:Act) (w:World):Prop where
 at_:∃ p,Mk S listed p∧Ph p γ w
 size:a.tmps.size=a0.tmps.size
 defers:a.defers=a0.defers
 keep:∀ t,(∀ (i:Nat) (o:Oper),ops[i]? = some o→o.dst=some t→listed.getD i false=false)→a.tmps[t]? = a0.tmps[t]?
 done:∀ (i:Nat) (o:Oper) t,ops[i]? = some o→listed.getD i false=true→o.dst=some t→∃ u,a.tmps[t]? = some u∧V γ i u
 closed:∀ (i:Nat) (o:Oper) j,ops[i]? = some o→listed.getD i false=true→waitsFor o j=true→listed.getD j false=true
def chainB (ops:Array Oper) (S:List Nat):Bool:=
 (List.range S.length).all fun k=>decide (S.getD k 0<ops.size) && (k == 0 || match ops[S.getD k 0]? with | some o=>waitsFor o (S.getD (k - 1) 0) | none=>false) && (List.range k).all (fun j=>S.getD j 0 != S.getD k 0)
def loB (S:List Nat) (o:Oper) (lo:Nat):Bool:=lo == 0 || (decide (lo≤S.length) && waitsFor o (S.getD (lo - 1) 0))
def hiB (ops:Array Oper) (S:List Nat) (i hi:Nat):Bool:=hi == S.length || (decide (hi<S.length) && match ops[S.getD hi 0]? with | some o=>waitsFor o i | none=>false)
def uN (ops:Array Oper) (i t:Nat):Bool:=ops.all fun o=>o.dst != some t || waitsFor o i || (List.range ops.size).any fun m=>waitsFor o m && (match ops[m]? with | some p=>waitsFor p i | none=>false)
theorem B4 {ops:Array Oper} {i t:Nat} (h:uN ops i t=true) {listed:Array Bool} (hno:listed.getD i false=false)
 (hcl:∀ (i:Nat) (o:Oper) j,ops[i]? = some o→listed.getD i false=true→waitsFor o j=true→listed.getD j false=true) (j:Nat) (p:Oper) (hp:ops[j]? = some p) (hd:p.dst=some t):listed.getD j false=false:=by
 cases hl:listed.getD j false with
 | false=>rfl
 | true=>
  exfalso
  have h1:=(Array.all_eq_true_iff_forall_mem.1 h) p (Array.mem_of_getElem? hp)
  simp only [hd,bne_self_eq_false,Bool.false_or,Bool.or_eq_true,List.any_eq_true,Bool.and_eq_true] at h1
  rcases h1 with h1 | ⟨m,_,h2,h3⟩
  · have:=hcl j p i hp hl h1
    rw [hno] at this; cases this
  · have hm:=hcl j p m hp hl h2
    cases hq:ops[m]? with
    | none=>rw [hq] at h3; cases h3
    | some q=>
     rw [hq] at h3
     have:=hcl m q i hq hm h3
     rw [hno] at this; cases this
def Knows (ops:Array Oper) (V:Nat→Value→Prop) (a0:Act) (i:Nat) (o:Oper) (a:Act):Prop:=
 (∀ t v,a0.tmps[t]? = some v→uN ops i t=true→a.tmps[t]? = some v) ∧
 (∀ (j:Nat) (p:Oper) t,ops[j]? = some p→p.dst=some t→waitsFor o j=true→∃ u,a.tmps[t]? = some u∧V j u)∧a.defers=a0.defers
theorem Knows.g {ops:Array Oper} {a0:Act} {V:Nat→Value→Prop} {i:Nat} {o:Oper} {a:Act} (hk:Knows ops V a0 i o a) (j t:Nat) {p:Oper} (h1:ops[j]? = some p) (h2:p.dst=some t) (h3:waitsFor o j=true:=by decide +kernel):∃ u,a.tmps[t]? = some u∧V j u:=hk.2.1 j p t h1 h2 h3
theorem Knows.k {ops:Array Oper} {a0:Act} {V:Nat→Value→Prop} {i:Nat} {o:Oper} {a:Act} (hk:Knows ops V a0 i o a) (t:Nat) {v:Value} (h:a0.tmps[t]? = some v) (h2:uN ops i t=true:=by decide +kernel):a.tmps[t]? = some v:=hk.1 t v h h2
def Or {Γ:Type} (P:Program) (ops:Array Oper) (V:Γ→Nat→Value→Prop) (S:List Nat) (Ph:Nat→Γ→World→Prop) (a0:Act) (Q:Exit→Act→World→Prop) (i:Nat) (o:Oper):Prop:=
 o.guard=none∧((∃ k,S[k]? = some i∧∀ γ a w,Ph k γ w→Knows ops (V γ) a0 i o a→o.wp P a w (fun a' w'=>∃ u γ',a'=a.put o.dst u∧(∀ j v,j≠i→V γ j v→V γ' j v)∧V γ' i u∧Ph (k+1) γ' w') Q) ∨
  (i ∉ S∧∃ lo hi,loB S o lo=true∧hiB ops S i hi=true∧∀ p γ a w,lo≤p→p≤hi→Ph p γ w→Knows ops (V γ) a0 i o a→o.wp P a w (fun a' w'=>∃ u,a'=a.put o.dst u∧V γ i u∧Ph p γ w') Q))
theorem okP {Γ:Type} {P:Program} {ops:Array Oper} {V:Γ→Nat→Value→Prop} {S:List Nat} {Ph:Nat→Γ→World→Prop} {a0:Act} {Q:Exit→Act→World→Prop} {i:Nat} {o:Oper} (lo hi:Nat) (h:∀ p γ a w,lo≤p→p≤hi→Ph p γ w→Knows ops (V γ) a0 i o a→o.wp P a w (fun a' w'=>∃ u,a'=a.put o.dst u∧V γ i u∧Ph p γ w') Q)
 (hg:o.guard=none:=by rfl) (h0:i ∉ S:=by decide) (h1:loB S o lo=true:=by decide +kernel) (h2:hiB ops S i hi=true:=by decide +kernel):Or P ops V S Ph a0 Q i o:=⟨hg,.inr ⟨h0,lo,hi,h1,h2,h⟩⟩
theorem gu (h:chainB ops S=true) {k i:Nat} (hk:S[k]? = some i):i<ops.size∧(k=0∨∃ o j,ops[i]? = some o∧S[k - 1]? = some j∧waitsFor o j=true)∧∀ m j,m<k→S[m]? = some j→j≠i:=by
 unfold chainB at h
 rw [List.all_eq_true] at h
 have hlt:k<S.length:=(List.getElem?_eq_some_iff.1 hk).1
 have h1:=h k (List.mem_range.2 hlt)
 have e:S.getD k 0=i:=by rw [List.getD_eq_getElem?_getD,hk]; rfl
 rw [e] at h1
 simp only [Bool.and_eq_true,Bool.or_eq_true,decide_eq_true_eq,beq_iff_eq] at h1
 obtain⟨⟨h1,h2⟩,h3⟩:=h1
 refine⟨h1,?_,fun m j hm hj=>?_⟩
 · rcases h2 with h2 | h2
   · exact .inl h2
   · rcases Nat.eq_zero_or_pos k with h0 | h0
     · exact .inl h0
     · have hj:S[k - 1]? = some S[k - 1]:=List.getElem?_eq_getElem (by omega)
       rw [show S.getD (k - 1) 0=S[k - 1] by rw [List.getD_eq_getElem?_getD,hj]; rfl] at h2
       cases ho:ops[i]? with
       | none=>rw [ho] at h2; cases h2
       | some o=>rw [ho] at h2; exact .inr ⟨o,_,rfl,hj,h2⟩
 · have:=List.all_eq_true.1 h3 m (List.mem_range.2 hm)
   rw [show S.getD m 0=j by rw [List.getD_eq_getElem?_getD,hj]; rfl] at this
   simpa using this
theorem gU {listed:Array Bool} {i j:Nat} (hi:i<listed.size):(listed.setIfInBounds i true).getD j false=if i=j then true else listed.getD j false:=by
 rw [Array.getD_eq_getD_getElem?,Array.getD_eq_getD_getElem?,Array.getElem?_setIfInBounds]
 by_cases h:i=j
 · rw [if_pos h,if_pos h,if_pos hi]; rfl
 · rw [if_neg h,if_neg h]
theorem uM.step {n:Nat} (hB:Bd ops n=true) (hn:a0.tmps.size=n) {listed:Array Bool} {a:Act} {w:World} (hs:listed.size=ops.size)
 {γ γ':Γ} (h:uM ops V S Ph a0 γ listed a w) {i:Nat} {o:Oper} (ho:ops[i]? = some o) (hw:∀ j,waitsFor o j=true→listed.getD j false=true) {u:Value} {w':World} (hgg:∀ j v,j≠i→V γ j v→V γ' j v) (hu:V γ' i u) (hp:∃ p,Mk S (listed.setIfInBounds i true) p∧Ph p γ' w') :
 uM ops V S Ph a0 γ' (listed.setIfInBounds i true) (a.put o.dst u) w':=by
 have hi:i<ops.size:=(Array.getElem?_eq_some_iff.1 ho).1
 have hput:∀ t,o.dst≠some t→(a.put o.dst u).tmps[t]? = a.tmps[t]?:=by
  intro t ht
  unfold Act.put
  cases hd:o.dst with
  | none=>rfl
  | some d=>
   have hne:d≠t:=fun e=>ht (by rw [hd,e])
   simp [Array.getElem?_setIfInBounds,hne]
 refine⟨hp,?_,?_,fun t ht=>?_,fun j p t hp hl ht=>?_,fun j p m hp hl hm=>?_⟩
 · unfold Act.put; split <;> simp [h.size]
 · unfold Act.put; split <;> simp [h.defers]
 · rw [hput t (fun hd=>by
    have:=ht i o ho hd
    rw [gU (by omega),if_pos rfl] at this; cases this)]
   exact h.keep t fun j p hp hd=>by
    have:=ht j p hp hd
    rw [gU (by omega)] at this
    split at this
    · cases this
    · exact this
 · rw [gU (by omega)] at hl
   by_cases hij:i=j
   · subst hij
     rw [ho] at hp; injection hp with hp; subst hp
     have hlt:=((jO hB ho).1 t ht).1
     refine⟨u,?_,hu⟩
     unfold Act.put
     rw [ht]
     simp only [Array.getElem?_setIfInBounds]
     rw [if_pos trivial,if_pos (by rw [h.size,hn]; exact hlt)]
   · rw [if_neg hij] at hl
     obtain⟨u',h1,h2⟩:=h.done j p t hp hl ht
     refine⟨u',?_,hgg _ _ (fun e=>hij e.symm) h2⟩
     rw [hput t ?_]; exact h1
     intro e
     rcases Nat.lt_or_gt_of_ne hij with hlt | hlt
     · exact ((jO hB hp).1 t ht).2 i o ho hlt e
     · exact ((jO hB ho).1 t e).2 j p hp hlt ht
 · rw [gU (by omega)] at hl ⊢
   by_cases him:i=m
   · rw [if_pos him]
   · rw [if_neg him]
     by_cases hij:i=j
     · subst hij
       rw [ho] at hp; injection hp with hp; subst hp
       exact hw m hm
     · rw [if_neg hij] at hl
       exact h.closed j p m hp hl hm
theorem xU {n:Nat} {Q:Exit→Act→World→Prop} (hB:Bd ops n=true) (hC:chainB ops S=true) (hn:a0.tmps.size=n)
 (hop:∀ (i:Nat) (o:Oper),ops[i]? = some o→Or P ops V S Ph a0 Q i o)
 (hQ:∀ γ a w,(∀ listed,(∀ i,i<ops.size→listed.getD i false=true)→uM ops V S Ph a0 γ listed a w)→Q .normal a w) :
 ∀ (fuel:Nat) (γ:Γ) (listed:Array Bool) (a:Act) (w:World),listed.size=ops.size→(listed.toList.filter (! ·)).length≤fuel→uM ops V S Ph a0 γ listed a w→wpAny P .any ops Q fuel listed a w:=by
 have Ak:∀ {γ:Γ} {listed:Array Bool} {a:Act} {w:World},uM ops V S Ph a0 γ listed a w→(∀ i,i<ops.size→listed.getD i false=true)→∀ l':Array Bool,(∀ i,i<ops.size→l'.getD i false=true)→uM ops V S Ph a0 γ l' a w:=by
  intro γ listed a w h hl l' hl'
  refine⟨?_,h.size,h.defers,fun t ht=>h.keep t fun i o ho hd=>absurd (ht i o ho hd) (by rw [hl' i (Array.getElem?_eq_some_iff.1 ho).1]; simp),fun i o t ho _ ht=>h.done i o t ho (hl i (Array.getElem?_eq_some_iff.1 ho).1) ht,fun i o j ho _ hj=>?_⟩
  · obtain⟨p,⟨hp1,hp2⟩,hp3⟩:=h.at_
    refine⟨p,⟨hp1,fun k i hk=>?_⟩,hp3⟩
    have hi:=(gu hC hk).1
    rw [← hp2 k i hk,hl i hi,hl' i hi]
  · refine hl' j ?_
    have hj':=hj
    unfold waitsFor at hj
    obtain⟨e,he,h2⟩:=Array.any_eq_true'.1 hj
    simp only [Bool.and_eq_true,beq_iff_eq] at h2
    have:=(jO hB ho).2 e he
    have hi:=(Array.getElem?_eq_some_iff.1 ho).1
    omega
 intro fuel
 induction fuel with
 | zero=>
  intro γ listed a w hs hf h
  have hr:Region.ready .any ops listed=[]:=by
   cases hr:Region.ready .any ops listed with
   | nil=>rfl
   | cons i r=>
    exfalso
    have hm:i ∈ Region.ready .any ops listed:=by rw [hr]; exact List.mem_cons_self
    obtain⟨h1,o,ho,_⟩:=mem_ready.1 hm
    have hi:i<ops.size:=(Array.getElem?_eq_some_iff.1 ho).1
    have hx:listed[i]? = some listed[i]:=Array.getElem?_eq_getElem (by omega)
    rw [Array.getD_eq_getD_getElem?,hx] at h1
    have h2:false ∈ listed.toList.filter (! ·):=List.mem_filter.2 ⟨by rw [← show listed[i]=false from by simpa using h1]; exact Array.getElem_mem_toList (by omega),rfl⟩
    have:=List.length_pos_of_mem h2
    omega
  exact⟨hr,hQ γ a w (Ak h (gD hB hs hr))⟩
 | succ fuel ih=>
  intro γ listed a w hs hf h
  refine⟨fun hr=>hQ γ a w (Ak h (gD hB hs hr)),fun i hi=>?_⟩
  obtain⟨h1,o,ho,hall⟩:=mem_ready.1 hi
  have hil:i<ops.size:=(Array.getElem?_eq_some_iff.1 ho).1
  have C8:i<listed.size:=by omega
  have hno:listed.getD i false=false:=by
   have hx:listed[i]? = some listed[i]:=Array.getElem?_eq_getElem C8
   rw [Array.getD_eq_getD_getElem?,hx] at h1 ⊢
   simpa using h1
  have uO:∀ j,waitsFor o j=true→listed.getD j false=true:=by
   intro j hj
   unfold waitsFor at hj
   obtain⟨e,he,h2⟩:=Array.any_eq_true'.1 hj
   simp only [Bool.and_eq_true,beq_iff_eq] at h2
   obtain⟨h2,h3⟩:=h2
   subst h2
   exact hall e he h3
  have ES:Knows ops (V γ) a0 i o a:=⟨fun t v hv hn=>by rw [h.keep t (B4 hn hno h.closed)]; exact hv,fun j p t hp ht hj=>h.done j p t hp (uO j hj) ht,h.defers⟩
  obtain⟨p,⟨hp1,hp2⟩,hp3⟩:=h.at_
  obtain⟨hgd,hk⟩:=hop i o ho
  unfold wpOp
  rw [ho]
  simp only [Region.wanted,hgd,if_true]
  refine .inl ?_
  have next:∀ u γ' w',(∀ j v,j≠i→V γ j v→V γ' j v)→V γ' i u→(∃ p,Mk S (listed.setIfInBounds i true) p∧Ph p γ' w')→wpAny P .any ops Q fuel (listed.setIfInBounds i true) (a.put o.dst u) w':=by
   intro u γ' w' hgg hu hp
   refine ih _ _ _ _ (by simpa using hs) ?_ (h.step hB hn hs ho uO hgg hu hp)
   have hx:listed[i]? = some listed[i]:=Array.getElem?_eq_getElem C8
   have h2:listed.toList[i]? = some false:=by
    rw [Array.getElem?_toList,hx]
    rw [Array.getD_eq_getD_getElem?,hx] at hno
    simpa using hno
   have h3:=count_set listed.toList i h2
   simp only [Array.toList_setIfInBounds]
   omega
  rcases hk with ⟨k,hk,hw⟩ | ⟨hns,lo,hi',hlo,hhi,hw⟩
  · have hkp:p=k:=by
     have e1:=hp2 k i hk
     rw [hno] at e1
     have h1:¬ k<p:=by
      intro hlt; rw [decide_eq_true hlt] at e1; cases e1
     rcases (gu hC hk).2.1 with h0 | ⟨o',j,ho',hj,hwj⟩
     · omega
     · rw [ho] at ho'; injection ho' with ho'; subst ho'
       have e2:=hp2 (k - 1) j hj
       rw [uO j hwj] at e2
       have h2:k - 1<p:=of_decide_eq_true e2.symm
       omega
    subst hkp
    refine Oper.wp_mono (fun a' w' hh=>?_) (hw γ a w hp3 ES)
    obtain⟨u,γ',rfl,hgg,hu,hph⟩:=hh
    refine next u γ' w' hgg hu ⟨p+1,⟨(List.getElem?_eq_some_iff.1 hk).1,fun m j hm=>?_⟩,hph⟩
    rw [gU C8]
    by_cases hij:i=j
    · rw [if_pos hij]
      subst hij
      have hmp:m=p:=by
       rcases Nat.lt_trichotomy m p with hlt | heq | hgt
       · exact absurd rfl ((gu hC hk).2.2 m i hlt hm)
       · exact heq
       · exact absurd rfl ((gu hC hm).2.2 p i hgt hk)
      rw [decide_eq_true (by omega)]
    · rw [if_neg hij,hp2 m j hm]
      have hne:m≠p:=fun e=>by subst e; rw [hk] at hm; injection hm with hm; exact hij hm
      by_cases hlt:m<p
      · rw [decide_eq_true hlt,decide_eq_true (by omega)]
      · rw [decide_eq_false hlt,decide_eq_false (by omega)]
  · have hl:lo≤p:=by
     unfold loB at hlo
     simp only [Bool.or_eq_true,Bool.and_eq_true,beq_iff_eq,decide_eq_true_eq] at hlo
     rcases hlo with h0 | ⟨h0,h2⟩
     · omega
     · rcases Nat.eq_zero_or_pos lo with h3 | h3
       · omega
       · have hj:S[lo - 1]? = some S[lo - 1]:=List.getElem?_eq_getElem (by omega)
         rw [show S.getD (lo - 1) 0=S[lo - 1] by rw [List.getD_eq_getElem?_getD,hj]; rfl] at h2
         have e:=hp2 _ _ hj
         rw [uO _ h2] at e
         have:=of_decide_eq_true e.symm
         omega
    have hh':p≤hi':=by
     unfold hiB at hhi
     simp only [Bool.or_eq_true,Bool.and_eq_true,beq_iff_eq,decide_eq_true_eq] at hhi
     rcases hhi with h0 | ⟨h0,h2⟩
     · omega
     · have hj:S[hi']? = some S[hi']:=List.getElem?_eq_getElem h0
       rw [show S.getD hi' 0=S[hi'] by rw [List.getD_eq_getElem?_getD,hj]; rfl] at h2
       cases hoj:ops[S[hi']]? with
       | none=>rw [hoj] at h2; cases h2
       | some o'=>
        rw [hoj] at h2
        have e:=hp2 _ _ hj
        by_cases hlt:hi'<p
        · rw [decide_eq_true hlt] at e
          have:=h.closed _ o' i hoj e h2
          rw [hno] at this; cases this
        · omega
    refine Oper.wp_mono (fun a' w' hh=>?_) (hw p γ a w hl hh' hp3 ES)
    obtain⟨u,rfl,hu,hph⟩:=hh
    refine next u γ w' (fun _ _ _ h=>h) hu ⟨p,⟨hp1,fun m j hm=>?_⟩,hph⟩
    rw [gU C8,if_neg (fun e=>hns (by subst e; exact List.mem_of_getElem? hm))]
    exact hp2 m j hm
structure Al {Γ:Type} (ops:Array Oper) (V:Γ→Nat→Value→Prop) (S:List Nat) (Ph:Nat→Γ→World→Prop) (a0:Act) (γ:Γ) (a:Act) (w:World):Prop where
 ph:Ph S.length γ w
 size:a.tmps.size=a0.tmps.size
 defers:a.defers=a0.defers
 keep:∀ t,(∀ (i:Nat) (o:Oper),ops[i]? = some o→o.dst≠some t)→a.tmps[t]? = a0.tmps[t]?
 done:∀ (i:Nat) (o:Oper) t,ops[i]? = some o→o.dst=some t→∃ u,a.tmps[t]? = some u∧V γ i u
def IF {Γ:Type} (P:Program) (ops:Array Oper) (V:Γ→Nat→Value→Prop) (S:List Nat) (Ph:Nat→Γ→World→Prop) (a0:Act) (Q:Exit→Act→World→Prop):Nat→List Oper→Prop
 | _,[]=>True
 | i,o :: l=>Or P ops V S Ph a0 Q i o∧IF P ops V S Ph a0 Q (i+1) l
theorem IF.all {Q:Exit→Act→World→Prop}:∀ {l:List Oper} {k:Nat},IF P ops V S Ph a0 Q k l→∀ (i:Nat) (o:Oper),l[i]? = some o→Or P ops V S Ph a0 Q (k+i) o
 | [],_,_,i,o,h=>by simp at h
 | x :: l,k,hh,0,o,h=>by
  have e:x=o:=by simpa using h
  subst e; exact hh.1
 | x :: l,k,hh,i+1,o,h=>by
  have:=hh.2.all i o (by simpa using h)
  rwa [show k+(i+1)=k+1+i from by omega]
theorem bO {id:Nat} {n:Nat} {l:List Oper} {w0:World} {Q:Exit→Act→World→Prop} (hm:P.follows .mixedOrders=true) (V:Γ→Nat→Value→Prop) (S:List Nat) (Ph:Nat→Γ→World→Prop) (γ0:Γ) (hB:Bd l.toArray n=true) (hC:chainB l.toArray S=true) (hn:a0.tmps.size=n)
 (h0:Ph 0 γ0 w0.drew) (hop:IF P l.toArray V S Ph a0 Q 0 l) (hQ:∀ γ a w,Al l.toArray V S Ph a0 γ a w→Q .normal a w):(Code.region id l.toArray true).wp P Q a0 w0:=by
 refine wp_region_any hm (xU hB hC hn (fun i o ho=>by
  have:=hop.all i o (by simpa using ho)
  rwa [Nat.zero_add] at this) (fun γ a w h=>hQ γ a w ?_) l.toArray.size γ0 (Array.replicate l.toArray.size false) a0 _ (by simp) ?_ ?_)
 · have hh:=h (Array.replicate l.toArray.size true) (fun i hi=>by rw [Array.getD_eq_getD_getElem?,Array.getElem?_replicate,if_pos hi]; rfl)
   obtain⟨p,⟨hp1,hp2⟩,hp3⟩:=hh.at_
   have hpl:p=S.length:=by
    rcases Nat.eq_zero_or_pos S.length with h0 | h0
    · omega
    · have hk:S[S.length - 1]? = some S[S.length - 1]:=List.getElem?_eq_getElem (by omega)
      have e:=hp2 _ _ hk
      rw [Array.getD_eq_getD_getElem?,Array.getElem?_replicate,if_pos (gu hC hk).1] at e
      have:=of_decide_eq_true e.symm
      omega
   subst hpl
   exact⟨hp3,hh.size,hh.defers,fun t ht=>hh.keep t fun i o ho hd=>absurd hd (ht i o ho),fun i o t ho ht=>hh.done i o t ho (by rw [Array.getD_eq_getD_getElem?,Array.getElem?_replicate,if_pos (Array.getElem?_eq_some_iff.1 ho).1]; rfl) ht⟩
 · exact Nat.le_trans (List.length_filter_le _ _) (by simp)
 · have hf:∀ i,(Array.replicate l.toArray.size false).getD i false=false:=by
    intro i
    rw [Array.getD_eq_getD_getElem?,Array.getElem?_replicate]
    split <;> rfl
   exact⟨⟨0,⟨Nat.zero_le _,fun k i _=>by rw [hf]; rfl⟩,h0⟩,rfl,rfl,fun _ _=>rfl,fun i o t ho hl _=>(by rw [hf] at hl; cases hl),fun i o j ho hl _=>(by rw [hf] at hl; cases hl)⟩
theorem Al.frame {γ:Γ} {a:Act} {w:World} (h:Al ops V S Ph a0 γ a w) (ds:List Nat) (hds:ops.toList.filterMap (·.dst)=ds) :
 ∃ f:Nat→Value,a = { tmps:=ds.foldl (fun t d=>t.setIfInBounds d (f d)) a0.tmps,defers:=a0.defers }∧∀ (i:Nat) (o:Oper) t,ops[i]? = some o→o.dst=some t→V γ i (f t):=by
 refine⟨fun d=>(a.tmps[d]?).getD undef,?_,fun i o t ho ht=>by
  obtain⟨u,h1,h2⟩:=h.done i o t ho ht
  simp only [h1,Option.getD_some]
  exact h2⟩
 obtain⟨t,d⟩:=a
 have h1:=h.size
 have h2:=h.defers
 have h3:=h.keep
 simp only at h1 h2 h3
 subst h2
 congr 1
 apply Array.ext_getElem?
 intro i
 rw [Am (fun d=>(t[d]?).getD undef) ds a0.tmps i]
 by_cases hi:i<a0.tmps.size
 · by_cases hm:i ∈ ds
   · rw [if_pos ⟨hm,hi⟩,Array.getElem?_eq_getElem (by omega)]; rfl
   · rw [if_neg (fun h=>hm h.1)]
     refine h3 i (fun j o ho hd=>hm ?_)
     rw [← hds]
     exact List.mem_filterMap.2 ⟨o,Array.mem_toList_iff.2 (Array.mem_of_getElem? ho),hd⟩
 · rw [if_neg (fun h=>hi h.2),Array.getElem?_eq_none (by omega),Array.getElem?_eq_none (by omega)]
end
section
variable {α:Type} [Inhabited α] {enc:α→List Value} {k:Nat}
theorem uP (hk:∀ x,(enc x).length=k) (hk0:0<k) (l:List α):(flatK enc k l.toArray).toList=au enc l:=by
 apply List.ext_getElem?
 intro t
 have hl:=iW hk l
 by_cases ht:t<l.length*k
 · have hi:t / k<l.length:=Nat.div_lt_of_lt_mul (by rwa [Nat.mul_comm] at ht)
   have hj:t % k<k:=Nat.mod_lt _ hk0
   have h1:=oT hk l (t / k) (t % k) l[t / k] (List.getElem?_eq_getElem hi) hj
   rw [Nat.div_add_mod'] at h1
   have hj2:t % k<(enc l[t / k]).length:=by rw [hk]; exact hj
   rw [h1,List.getElem?_eq_getElem hj2]
   have h2:t<(flatK enc k l.toArray).size:=by simpa using ht
   rw [Array.getElem?_toList,Array.getElem?_eq_getElem h2]
   have h3:=get_flatK enc k l.toArray t (by simpa using ht)
   rw [getElem!_pos (flatK enc k l.toArray) t h2] at h3
   rw [h3]
   simp [hi,hj2]
 · rw [List.getElem?_eq_none (l:=au enc l) (by rw [hl]; omega),List.getElem?_eq_none (by simp; omega)]
theorem sG {w:World} {g:Nat} {cur:Array Value} {e:TypeId} {l:List α} (hk:∀ x,(enc x).length=k) (hk0:0<k) (hb:w.heap[g]? = some (.cells cur e (0,0))) (ht:cur.toList.take (l.length*k)=au enc l) :
 HoldsK enc k w g 0 l.toArray:=by
 intro j hj
 have hj':j<l.length*k:=by simpa using hj
 refine⟨?_,by simp [World.frozen?,hb]⟩
 have h1:(cur.toList.take (l.length*k))[j]? = (flatK enc k l.toArray).toList[j]?:=by rw [ht,uP hk hk0]
 rw [List.getElem?_take_of_lt hj',Array.getElem?_toList,Array.getElem?_toList,Array.getElem?_eq_getElem hj] at h1
 simp only [World.cell?,hb,Nat.zero_add,Option.isSome_none,Bool.false_eq_true,if_false]
 rw [h1,getElem!_pos (flatK enc k l.toArray) j hj]
 rfl
theorem C9 {w:World} {g n:Nat} {os:Array Obj} {cur:Array Value} {e:TypeId} {fr:Nat × Nat} (d:Array α) (hb:w.heap[g]? = some (.cells cur e fr)) :
 (sortWorldK enc k w g 0 n d os).heap[g]? = some (.cells (putCells id 0 (flatK enc k d) cur) e fr):=by
 have hg:g<w.heap.size:=(Array.getElem?_eq_some_iff.1 hb).1
 unfold sortWorldK putRowK
 rw [heap_grow_old _ _ (by simpa using hg)]
 simp [putRow,mapBlock,Sort.ahead,Array.getElem?_modify,hb,onCells]
theorem fP {w:World} {g n:Nat} {os:Array Obj} (d:Array α):w.grownBy (sortWorldK enc k w g 0 n d os) (some g):=by
 unfold sortWorldK putRowK
 refine⟨rfl,rfl,rfl,by simp,fun j hj hne=>?_⟩
 rw [heap_grow_old _ _ (by simpa using hj)]
 have:g≠j:=fun e=>hne (by rw [e])
 simp [putRow,mapBlock,Sort.ahead,Array.getElem?_modify,this]
theorem An (cur F:Array Value) (h:F.size≤cur.size):(putCells id 0 F cur).toList.take F.size=F.toList:=by
 apply List.ext_getElem?
 intro j
 by_cases hj:j<F.size
 · rw [List.getElem?_take_of_lt hj,Array.getElem?_toList]
   simp [putCells,hj,show j<cur.size by omega]
 · rw [List.getElem?_take_eq_none (by omega),List.getElem?_eq_none (by simp; omega)]
theorem qD {w:World} {base g cap n:Nat} {e:TypeId} {os:Array Obj} {cur:Array Value} {l:List α} {d:Array α} (hk:∀ x,(enc x).length=k) (hk0:0<k) (hl:d.size=l.length) (hbase:base≤g)
 (hb:w.heap[g]? = some (.cells cur e (0,0))) (h1:l.length≤cap) (h2:cap≤maxLen) (h3:cur.size=cap*k) :
 (sortWorldK enc k w g 0 n d os).ownsRow base e k (.slice (some ⟨g,0,none⟩) l.length cap) l.length (au enc d.toList):=by
 have hF:=uP hk hk0 d.toList
 have hs:(flatK enc k d).size=l.length*k:=by rw [size_flatK,hl]
 refine⟨by rw [iW hk,Array.length_toList,hl],.inr ⟨g,cap,_,rfl,hbase,C9 _ hb,h1,h2,by simp [putCells,h3],?_⟩⟩
 rw [← hs,An _ _ (by rw [hs,h3]; exact Nat.mul_le_mul_right k h1),← hF]
end
theorem gS {w w':World} {g b o:Nat} {v:Value} (hg:w.grownBy w' (some g)) (hne:b≠g) (h:w.cell? ⟨b,o,none⟩=some v):w'.cell? ⟨b,o,none⟩=some v:=
 (World.cell?_of_block (hg.block b (block_lt_of_cell h) (by simp [hne]))).trans h
end Go.Proofs.YtcpgnjmaampglaaGreatDoor
