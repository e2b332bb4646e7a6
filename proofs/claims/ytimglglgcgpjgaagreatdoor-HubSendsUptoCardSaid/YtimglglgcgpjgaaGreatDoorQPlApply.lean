/- Of the proof of a statement: PlWDec, PlApply, PlPlace, Cmp, BSearch, FrmEnc, PlFrs. -/
import Derived.WalkLawsBesides
import Derived.Deep.RegionHeld3
import Derived.Test.YtimglglgcgpjgaaGreatDoorQRPhQ
import Derived.Test.YtimglglgcgpjgaaGreatDoorQRowsP
set_option linter.unusedVariables false
set_option linter.unusedSimpArgs false
set_option maxRecDepth 100000
set_option maxHeartbeats 8000000
namespace Go.Proofs.YtimglglgcgpjgaaGreatDoor
open Go.Op (bytesLess)
open Go.RowKit
theorem IK {v:Int} {s r:ByteArray} {j:aC} (h:pD v s = .ok j r):j.name.size<=16/\j.tag.size<=16:=by
 unfold pD at h
 cases b:cF s with
 | bad x=>rw [b] at h; cases h
 | ok o m=>
  rw [b,RR.bind_ok] at h
  cases c:dI m with
  | bad x=>rw [c] at h; cases h
  | ok p n=>
   rw [c,RR.bind_ok] at h
   cases d:dI n with
   | bad x=>rw [d] at h; cases h
   | ok q g=>
    rw [d,RR.bind_ok] at h
    cases e:(if 1<v then dI g else .ok 0 g) with
    | bad x=>rw [e] at h; cases h
    | ok t i=>
     rw [e,RR.bind_ok] at h
     cases a:(if 2<v then cF i else .ok ⟨#[]⟩ i) with
     | bad x=>rw [a] at h; cases h
     | ok u z=>
      rw [a,RR.bind_ok] at h;injection h with k w;subst k;refine⟨pF b,?_⟩;by_cases f:2<v
      · rw [if_pos f] at a; exact pF a
      · rw [if_neg f] at a; injection a with l y; subst l; show (0:Nat)<=16; omega
theorem FC {v:Int} {s r:ByteArray} {j:av} (h:lH v s = .ok j r):j.name.size<=16/\j.zone.size<=16:=by
 unfold lH at h
 cases b:cF s with
 | bad x=>rw [b] at h; cases h
 | ok k i=>
  rw [b,RR.bind_ok] at h
  cases c:dI i with
  | bad x=>rw [c] at h; cases h
  | ok l e=>
   rw [c,RR.bind_ok] at h
   cases a:(if 1<v then cF e else .ok ⟨#[]⟩ e) with
   | bad x=>rw [a] at h; cases h
   | ok m p=>
    rw [a,RR.bind_ok] at h;injection h with f n;subst f;refine⟨pF b,?_⟩;by_cases d:1<v
    · rw [if_pos d] at a; exact pF a
    · rw [if_neg d] at a; injection a with g o; subst g; show (0:Nat)<=16; omega
theorem DO {s r:ByteArray} {j:ak} (h:iC s = .ok j r):j.job.size<=16/\j.node.size<=16:=by
 unfold iC at h
 cases a:cF s with
 | bad x=>rw [a] at h; cases h
 | ok g e=>
  rw [a,RR.bind_ok] at h
  cases b:cF e with
  | bad x=>rw [b] at h; cases h
  | ok i f=>
   rw [b,RR.bind_ok] at h
   cases c:dI f with
   | bad x=>rw [c] at h; cases h
   | ok k m=>
    rw [c,RR.bind_ok] at h;injection h with d l;subst d;exact⟨pF a,pF b⟩
def Ag (σ:RR Unit):Nat:=match σ with
 | .ok _ s=>if s.size=0 then 0 else 4
 | .bad x=>x
theorem Kk {s:ByteArray} (h:s.size=0):Ag (.ok () s)=0:=by unfold Ag; simp only; rw [if_pos h]
theorem DP {s:ByteArray} (h:s.size≠0):Ag (.ok () s)=4:=by unfold Ag; simp only; rw [if_neg h]
theorem AU {s:ByteArray} (h:s.size≠0):s.toList.isEmpty=false:=by
 have:=oN h
 cases a:s.toList with
 | nil=>rw [a] at this; exact absurd this (by decide)
 | cons b l=>rfl
def dU (a b:ByteArray):Bool:=bytesLess a.toList b.toList
theorem fI (a:ByteArray):dU a a=false:=qj _
theorem oq {a b c:ByteArray} (h:dU a b=true) (d:dU b c=true):dU a c=true:=vJ _ _ _ h d
theorem rX {a b:ByteArray} (h:a.toList=b.toList):a=b:=by rw [ByteArray.toList_eq,ByteArray.toList_eq] at h; exact ByteArray.ext (Array.toList_inj.1 h)
theorem oS {a b:ByteArray} (h:dU a b=false) (e:a≠b):dU b a=true:=by
 have d:=kK a.toList b.toList;unfold dU at h |-;rw [h] at d;rcases Bool.or_eq_true_iff.1 d.symm with c | c
 · exact c
 · exact absurd (rX (beq_iff_eq.1 c)).symm e
section
variable {α:Type} (key:α->ByteArray)
def cH (l:List α):Prop:=l.Pairwise fun a b=>dU (key a) (key b)=true
variable {key}
theorem tE:∀ {l r:List α},cH key l->cH key r->(∀ x,x ∈ l↔x ∈ r)->l=r
 | [],[],_,_,_=>rfl
 | [],c :: r,_,_,h=>absurd ((h c).2 List.mem_cons_self) List.not_mem_nil
 | b :: l,[],_,_,h=>absurd ((h b).1 List.mem_cons_self) List.not_mem_nil
 | b :: l,c :: r,j,m,h=>by
  obtain⟨f,k⟩:=List.pairwise_cons.1 j;obtain⟨g,n⟩:=List.pairwise_cons.1 m
  have i:b=c:=by
   rcases List.mem_cons.1 ((h b).1 List.mem_cons_self) with a | a
   · exact a
   · rcases List.mem_cons.1 ((h c).2 List.mem_cons_self) with e | e
     · exact e.symm
     · have:=oq (g b a) (f c e);rw [fI] at this; cases this
  subst i;refine congrArg (b :: ·) (tE k n fun x=>⟨fun d=>?_,fun d=>?_⟩)
  · rcases List.mem_cons.1 ((h x).1 (List.mem_cons_of_mem _ d)) with a | a
    · subst a;have:=f x d;rw [fI] at this; cases this
    · exact a
  · rcases List.mem_cons.1 ((h x).2 (List.mem_cons_of_mem _ d)) with a | a
    · subst a;have:=g x d;rw [fI] at this; cases this
    · exact a
theorem BQ {l:List α} (h:cH key l):l.Pairwise fun a b=>key a≠key b:=
 h.imp fun {a b} hlt e=>by rw [e,fI] at hlt; cases hlt
variable (key)
def bR (x:α):Bool->List α->List α
 | d,[]=>if d then [] else [x]
 | d,y :: l=>(if !d && !dU (key y) (key x) then [x] else []) ++ (if key y≠key x then [y] else []) ++ bR x (d || !dU (key y) (key x)) l
def jI (l:List α) (x:α):List α:=bR key x false l
variable {key}
theorem lY (x z:α):∀ (l:List α) (d:Bool),z ∈ bR key x d l↔(d=false/\z=x)\/(z ∈ l/\key z≠key x)
 | [],d=>by cases d <;> simp [bR]
 | y :: l,d=>by
  rw [bR,List.mem_append,List.mem_append,lY x z l]
  have b:(z ∈ if key y≠key x then [y] else [])↔(z=y/\key z≠key x):=by
   by_cases h:key y=key x
   · rw [if_neg (by simp [h])];exact⟨fun a=>absurd a List.not_mem_nil,fun ⟨c,b⟩=>absurd (by rw [c,h]) b⟩
   · rw [if_pos h,List.mem_singleton];exact⟨fun a=>⟨a,by rw [a]; exact h⟩,fun a=>a.1⟩
  rw [b,List.mem_cons];cases d <;> cases e:dU (key y) (key x) <;> simp <;> grind
theorem zk (x:α):∀ (l:List α),cH key l->cH key (bR key x true l)
 | [],_=>List.Pairwise.nil
 | y :: l,h=>by
  obtain⟨d,e⟩:=List.pairwise_cons.1 h;have c:=zk x l e;rw [bR];simp only [Bool.not_true,Bool.false_and,Bool.false_eq_true,if_false,List.nil_append,Bool.true_or];by_cases b:key y=key x
  · rw [if_neg (by simp [b])]; exact c
  · rw [if_pos b];refine List.pairwise_cons.2 ⟨fun z f=>?_,c⟩;rcases (lY x z l true).1 f with a | a
    · cases a.1
    · exact d z a.1
theorem sorted_put (x:α):∀ (l:List α),cH key l->cH key (bR key x false l)
 | [],_=>List.pairwise_singleton _ _
 | y :: l,h=>by
  obtain⟨g,j⟩:=List.pairwise_cons.1 h
  cases b:dU (key y) (key x) with
  | true=>
   have k:key y≠key x:=fun e=>by rw [e,fI] at b; cases b
   have f:=sorted_put x l j;rw [bR,b];simp only [Bool.not_true,Bool.and_false,Bool.false_eq_true,if_false,List.nil_append,Bool.or_false,if_pos k];refine List.pairwise_cons.2 ⟨fun z c=>?_,f⟩;rcases (lY x z l false).1 c with a | a
   · rw [a.2]; exact b
   · exact g z a.1
  | false=>
   have f:=zk x (y :: l) h
   have e:bR key x false (y :: l)=x :: bR key x true (y :: l):=by
    rw [bR,bR,b];simp
   rw [e];refine List.pairwise_cons.2 ⟨fun z c=>?_,f⟩;rcases (lY x z (y :: l) true).1 c with a | a
   · cases a.1
   · rcases List.mem_cons.1 a.1 with e | c
     · subst e;exact oS b a.2
     · have d:=g z c;by_cases i:key y=key x
       · rw [i] at d; exact d
       · exact oq (oS b i) d
variable (key)
variable {key}
theorem Jr {l:List α} (h:l.Pairwise fun b c=>key b≠key c) {x:α} (a:x ∈ l):l.find? (fun y=>decide (key y=key x))=some x:=by
 induction l with
 | nil=>cases a
 | cons b l g=>
  obtain⟨d,f⟩:=List.pairwise_cons.1 h;rw [List.find?_cons];by_cases e:key b=key x
  · rcases List.mem_cons.1 a with rfl | a
    · simp
    · exact absurd e (d x a)
  · rw [decide_eq_false e];rcases List.mem_cons.1 a with rfl | a
    · exact absurd rfl e
    · exact g f a
end
section
variable {α:Type} (key:α->ByteArray)
def eW (l:List α) (s:ByteArray):Nat:=(l.takeWhile fun a=>dU (key a) s).length
def isL (l:List α) (s:ByteArray):Bool:=match l[eW key l s]? with
 | some a=>decide (key a=s)
 | none=>false
def mV (l:List α) (s:ByteArray) (i j:Nat):Prop:=i<=j/\j<=l.length/\(∀ a ∈ l.take i,dU (key a) s=true)/\∀ a ∈ l.drop j,dU (key a) s=false
variable {key}
theorem mV.start (l:List α) (s:ByteArray):mV key l s 0 l.length:=⟨Nat.zero_le _,lJ,by simp,by simp⟩
theorem mV.low {l:List α} {s:ByteArray} {i j h:Nat} (H:mV key l s i j) (d:cH key l) (b:h<j) {x:α} (f:l[h]? = some x) (a:dU (key x) s=true):mV key l s (h+1) j:=by
 refine⟨b,H.2.1,fun g ha=>?_,H.2.2.2⟩;obtain⟨hlt,rfl⟩:=List.getElem?_eq_some_iff.1 f;obtain⟨k,c,rfl⟩:=List.mem_iff_getElem.1 ha;rw [List.length_take] at c;rw [List.getElem_take];by_cases e:k=h
 · subst e; exact a
 · exact oq (List.pairwise_iff_getElem.1 d k h (by omega) hlt (by omega)) a
theorem mV.high {l:List α} {s:ByteArray} {i j h:Nat} (H:mV key l s i j) (f:cH key l) (c:i<=h) {x:α} (g:l[h]? = some x) (b:dU (key x) s=false):mV key l s i h:=by
 obtain⟨hlt,rfl⟩:=List.getElem?_eq_some_iff.1 g;refine⟨c,by omega,H.2.2.1,fun m ha=>?_⟩;obtain⟨k,d,rfl⟩:=List.mem_iff_getElem.1 ha;rw [List.length_drop] at d;rw [List.getElem_drop]
 cases a:dU (key l[h+k]) s with
 | false=>rfl
 | true=>
  by_cases e:k=0
  · subst e; simp only [Nat.add_zero] at a; rw [a] at b; cases b
  · have:=oq (List.pairwise_iff_getElem.1 f h (h+k) hlt (by omega) (by omega)) a;rw [b] at this; cases this
theorem rY {p:α->Bool}:∀ (l:List α) (i:Nat),i<=l.length->(∀ a ∈ l.take i,p a=true)->(∀ a ∈ l.drop i,p a=false)->l.takeWhile p=l.take i
 | [],i,e,_,_=>by simp
 | a :: l,0,_,_,h=>by
  have:=h a (by simp);simp [List.takeWhile_cons,this]
 | a :: l,i+1,e,d,f=>by
  have ha:=d a (by simp);rw [List.takeWhile_cons,ha,List.take_succ_cons];simp only [if_true];rw [rY l i (by simpa using e) (fun b c=>d b (by simp [c])) (fun b c=>f b (by simpa using c))]
theorem mV.pos {l:List α} {s:ByteArray} {i:Nat} (H:mV key l s i i):eW key l s=i:=by
 unfold eW;rw [rY l i H.2.1 H.2.2.1 H.2.2.2,List.length_take];have:=H.2.1;omega
theorem wD (l:List α) (s:ByteArray):eW key l s<=l.length:=by
 unfold eW;exact (List.takeWhile_prefix _).length_le
theorem takeWhile_take (p:α->Bool):∀ l:List α,l.takeWhile p=l.take (l.takeWhile p).length
 | []=>rfl
 | a :: l=>by
  rw [List.takeWhile_cons]
  split
  · rw [List.length_cons,List.take_succ_cons,<- takeWhile_take p l]
  · rfl
theorem tF {l:List α} {s:ByteArray}:∀ a ∈ l.take (eW key l s),dU (key a) s=true:=by
 intro a ha;unfold eW at ha;rw [<- takeWhile_take] at ha;have:=List.all_takeWhile (l:=l) (p:=fun a=>dU (key a) s);rw [List.all_eq_true] at this;exact this a ha
theorem tG (p:α->Bool):∀ (l:List α) (x:α),l[(l.takeWhile p).length]? = some x->p x=false
 | [],x,h=>by simp at h
 | b :: l,x,h=>by
  rw [List.takeWhile_cons] at h
  split at h
  · rw [List.length_cons,List.getElem?_cons_succ] at h;exact tG p l x h
  · rename_i a
    rw [List.length_nil,List.getElem?_cons_zero] at h;injection h with h;subst h;simpa using a
theorem Cm {l:List α} {s:ByteArray} {x:α} (h:l[eW key l s]? = some x):dU (key x) s=false:=tG _ l x h
theorem Gn {l:List α} {s:ByteArray} (f:cH key l):∀ a ∈ l.drop (eW key l s),dU (key a) s=false:=by
 intro a ha;obtain⟨k,e,rfl⟩:=List.mem_iff_getElem.1 ha;rw [List.length_drop] at e;have b:eW key l s<l.length:=by omega
 have d:=Cm (gO b);have H:mV key l s (eW key l s) l.length:=⟨wD _ _,lJ,tF,by simp⟩;have c:=H.high f lJ (gO b) d;exact c.2.2.2 _ ha
theorem uo {l:List α} {s:ByteArray} (j:cH key l) (b:isL key l s=false):∀ a ∈ l.drop (eW key l s),key a≠s:=by
 intro a ha e;obtain⟨k,h,rfl⟩:=List.mem_iff_getElem.1 ha;rw [List.length_drop] at h;have c:eW key l s<l.length:=by omega
 rw [List.getElem_drop] at e;unfold isL at b;rw [List.getElem?_eq_getElem c] at b;have i:key l[eW key l s]≠s:=by simpa using b
 by_cases f:k=0
 · subst f; exact i e
 · have d:=List.pairwise_iff_getElem.1 j (eW key l s) (eW key l s+k) c (by omega) (by omega);have g:=Cm (gO c);rw [e,g] at d; cases d
theorem pP {l:List α} {s:ByteArray}:∀ a ∈ l.take (eW key l s),key a≠s:=fun a ha e=>by
 have:=tF a ha;rw [e,fI] at this; cases this
theorem pH {l:List α} {s:ByteArray} (h:isL key l s=true):∃ x,l[eW key l s]? = some x/\key x=s:=by
 unfold isL at h
 cases a:l[eW key l s]? with
 | none=>rw [a] at h; cases h
 | some x=>rw [a] at h; exact⟨x,rfl,by simpa using h⟩
theorem tH {l:List α} {s:ByteArray} (e:cH key l) (b:isL key l s=true):∀ a ∈ l.drop (eW key l s+1),dU s (key a)=true:=by
 intro a ha;obtain⟨x,f,c⟩:=pH b;obtain⟨hlt,rfl⟩:=List.getElem?_eq_some_iff.1 f;obtain⟨k,d,rfl⟩:=List.mem_iff_getElem.1 ha;rw [List.length_drop] at d;rw [List.getElem_drop];have:=List.pairwise_iff_getElem.1 e (eW key l s) (eW key l s+1+k) hlt (by omega) (by omega);rwa [c] at this
theorem qK {l:List α} {s:ByteArray} (e:cH key l):isL key l s=(l.find? fun a=>decide (key a=s)).isSome:=by
 cases h:isL key l s with
 | true=>
  obtain⟨x,f,c⟩:=pH h
  symm
  rw [List.find?_isSome];exact⟨x,m8 f,by simpa using c⟩
 | false=>
  symm
  rw [<- Bool.not_eq_true,List.find?_isSome];rintro⟨a,ha,c⟩;have d:key a=s:=by simpa using c
  rw [<- List.take_append_drop (eW key l s) l] at ha;rcases List.mem_append.1 ha with b | b
  · exact pP a b d
  · exact uo e h a b d
theorem M0 {l:List α} {s:ByteArray} (c:cH key l) {x:α} (d:l[eW key l s]? = some x) (b:key x=s):(l.find? fun a=>decide (key a=s))=some x:=by
 have:=Jr (BQ c) (m8 d);rwa [b] at this
theorem sJ {l:List α} {x:α} (c:cH key l):jI key l x=if isL key l (key x)=true then l.take (eW key l (key x)) ++ x :: l.drop (eW key l (key x)+1) else l.take (eW key l (key x)) ++ x :: l.drop (eW key l (key x)):=by
 refine tE (sorted_put x l c) ?_ fun z=>?_
 · have g:∀ r:List α,cH key r->(∀ a ∈ r,dU (key x) (key a)=true)->cH key (l.take (eW key l (key x)) ++ x :: r):=by
    intro r o i;refine List.pairwise_append.2 ⟨c.sublist (List.take_sublist _ _),List.pairwise_cons.2 ⟨i,o⟩,fun a ha j d=>?_⟩;have b:=tF a ha;rcases List.mem_cons.1 d with rfl | d
    · exact b
    · exact oq b (i j d)
   split
   · rename_i h
     exact g _ (c.sublist (List.drop_sublist _ _)) (tH c h)
   · rename_i h
     rw [Bool.not_eq_true] at h;exact g _ (c.sublist (List.drop_sublist _ _)) fun a ha=>oS (Gn c a ha) (uo c h a ha)
 · show z ∈ bR key x false l↔_
   rw [lY]
   have f:z ∈ l↔z ∈ l.take (eW key l (key x))\/z ∈ l.drop (eW key l (key x)):=by
    conv=>lhs; rw [<- List.take_append_drop (eW key l (key x)) l]
    exact List.mem_append
   split
   · rename_i h
     obtain⟨y,p,n⟩:=pH h;have m:l.drop (eW key l (key x))=y :: l.drop (eW key l (key x)+1):=drop_cons p;rw [f,m];simp only [List.mem_append,List.mem_cons,true_and];constructor
     · rintro (b | ⟨b | b | b,e⟩)
       · exact .inr (.inl b)
       · exact .inl b
       · subst b; exact absurd n e
       · exact .inr (.inr b)
     · rintro (b | b | b)
       · exact .inr ⟨.inl b,pP z b⟩
       · exact .inl b
       · exact .inr ⟨.inr (.inr b),fun k=>by have:=tH c h z b; rw [k,fI] at this; cases this⟩
   · rename_i h
     rw [Bool.not_eq_true] at h;rw [f];simp only [List.mem_append,List.mem_cons,true_and];constructor
     · rintro (b | ⟨b | b,e⟩)
       · exact .inr (.inl b)
       · exact .inl b
       · exact .inr (.inr b)
     · rintro (b | b | b)
       · exact .inr ⟨.inl b,pP z b⟩
       · exact .inl b
       · exact .inr ⟨.inr b,uo c h z b⟩
theorem Am {l:List α} {s:ByteArray} (d:cH key l):l.filter (fun a=>!decide (key a=s))=if isL key l s=true then l.take (eW key l s) ++ l.drop (eW key l s+1) else l:=by
 have c:∀ r:List α,(∀ a ∈ r,key a≠s)->r.filter (fun a=>!decide (key a=s))=r:=fun r i=>List.filter_eq_self.2 fun a ha=>by simpa using i a ha
 split
 · rename_i h
   obtain⟨x,j,g⟩:=pH h;have f:l.drop (eW key l s)=x :: l.drop (eW key l s+1):=drop_cons j
   conv=>lhs; rw [<- List.take_append_drop (eW key l s) l,f]
   rw [List.filter_append,List.filter_cons,c _ pP,c _ (fun a ha e=>by have:=tH d h a ha; rw [e,fI] at this; cases this)];simp [g]
 · rename_i h
   rw [Bool.not_eq_true] at h;refine c _ fun a ha=>?_;rw [<- List.take_append_drop (eW key l s) l] at ha;rcases List.mem_append.1 ha with b | b
   · exact pP a b
   · exact uo d h a b
theorem sN {l:List α} {x:α} (a:cH key l):(jI key l x).length<=l.length+1:=by
 rw [sJ a];have:=wD (key:=key) l (key x)
 split <;> simp <;> omega
end
def qy (a b:ByteArray):Int:=if dU a b=true then -1 else if dU b a=true then 1 else 0
theorem Js {a b:ByteArray} (h:dU a b=true):qy a b = -1:=by unfold qy; rw [if_pos h]
theorem Jt {a b:ByteArray} (h:dU a b=false) (c:dU b a=true):qy a b=1:=by unfold qy; rw [if_neg (by simp [h]),if_pos c]
theorem Ju {a b:ByteArray} (h:dU a b=false) (c:dU b a=false):qy a b=0:=by unfold qy; rw [if_neg (by simp [h]),if_neg (by simp [c])]
theorem LA {a b:ByteArray}:qy a b<0↔dU a b=true:=by
 unfold qy;by_cases h:dU a b=true
 · simp [h]
 · by_cases c:dU b a=true <;> simp [h,c]
theorem Jv {a b:ByteArray}:qy a b=0↔a=b:=by
 unfold qy;by_cases h:dU a b=true
 · rw [if_pos h];exact⟨fun d=>by omega,fun e=>by rw [e,fI] at h; cases h⟩
 · rw [if_neg h];by_cases c:dU b a=true
   · rw [if_pos c];exact⟨fun d=>by omega,fun e=>by rw [e,fI] at c; cases c⟩
   · rw [if_neg c];refine⟨fun _=>?_,fun _=>rfl⟩;by_cases e:a=b
     · exact e
     · exact absurd (oS (by simpa using h) e) c
theorem yD (a:ByteArray) (w:World):ψ 236 #[a] w fun e b=>e = .returned (.bool false)/\w=b:=by
 have c:(a.toList == a.toList)=true:=beq_self_eq_true _;have d:(a.toList != a.toList)=false:=by simp
 go_enter Tryz.func236,Tryz.ntmps236;go_wp2;go_ret;exact⟨rfl,rfl⟩
theorem tI (a b:ByteArray) (w:World):ψ 215 #[a,b] w fun e g=>e = .returned (.int .i64 (qy a b))/\w=g:=by
 cases h:dU a b with
 | true=>
  rw [Js h];have i:bytesLess a.toList b.toList=true:=h;clear h;go_enter Tryz.func215,Tryz.ntmps215
  go_wp2_with (go_at_call 236; refine (yD _ _).mono ?_; rintro e g ⟨rfl,rfl⟩)
  go_ret;exact⟨rfl,rfl⟩
 | false=>
  cases c:dU b a with
  | true=>
   rw [Jt h c];have i:bytesLess a.toList b.toList=false:=h;have d:bytesLess b.toList a.toList=true:=c;have j:(a.toList == b.toList)=false:=beq_eq_false_iff_ne.2 fun e=>by rw [e,qj] at d; cases d
   clear h c;go_enter Tryz.func215,Tryz.ntmps215
   go_wp2_with (go_at_call 236; refine (yD _ _).mono ?_; rintro e g ⟨rfl,rfl⟩)
   go_ret;exact⟨rfl,rfl⟩
  | false=>
   rw [Ju h c];have i:bytesLess a.toList b.toList=false:=h;have d:bytesLess b.toList a.toList=false:=c
   have j:(a.toList == b.toList)=true:=by
    have:=kK a.toList b.toList;rw [i,d] at this;rw [beq_iff_eq];exact (beq_iff_eq.1 (by simpa using this)).symm
   clear h c;go_enter Tryz.func215,Tryz.ntmps215
   go_wp2_with (go_at_call 236; refine (yD _ _).mono ?_; rintro e g ⟨rfl,rfl⟩)
   go_ret;exact⟨rfl,rfl⟩
def Compares {α:Type} (key:α->ByteArray) (s:ByteArray) (F:FuncId) (b:Array Value) (enc:α->List Value) (xs:List α) (w:World):Prop:=
 ∀ W,Below w w W->∀ x ∈ xs,ψ F (#[.agg (enc x).toArray,.string s] ++ b) W fun e a=>e = .returned (.int .i64 (qy (key x) s))/\Below W.heap.size W a
def kE {α:Type} (key:α->ByteArray) (xs:List α) (s:ByteArray) (w:World) (e:Ending) (w':World):Prop:=
 e = .returned (.tuple #[(eW key xs s),.bool (isL key xs s)])/\Below w w w'
def LB {α:Type} (key:α->ByteArray) (xs:List α) (s:ByteArray) (w:World) (i j:Value) (wr:World):Prop:=
 ∃ p q:Nat,i = .int .i64 p/\j = .int .i64 q/\mV key xs s p q/\Below w w wr
def yE (a:Type) (f:Nat) (e:a->List Value) (b:a->ByteArray) (g:FuncId):Prop:=
 ∀ (s:ByteArray) (F:FuncId) (d:Array Value) (xs:List a) (A:Option Addr) (n c:Nat) (w:World) (h:∀ args w,(callFunc F args).run Tryz.prog w = .ok (.enter F args) w) (m:bC w w f A n (au e xs)) (i:xs.length=n) (j:n<=1000) (l:cH b xs) (k:Compares b s F d e xs w),ψ g #[.slice A n c,s,.func (.func F) #[] d] w (kE b xs s w)
theorem yF:yE aC 5 aS aC.name 213 /\ yE av 3 aH av.name 218 /\ yE ak 3 aB ak.job 223:=by
 refine⟨@fun s F r d A G ag w ah N H hn M L=>(fun(l:Unit)=>?_) (),@fun s F r d A G ag w ah N H hn M L=>(fun(v W:Unit)=>?_) () (),@fun s F r d A G ag w ah N H hn M L=>(fun(aj W:Unit)=>?_) () ()⟩<;>(
 first|(guard_hyp l;have z:Tg 19:=⟨⟩;have O:=@aT)|(guard_hyp v;have z:Tg 21:=⟨⟩;have O:=@aO)|(have z:Tg 23:=⟨⟩;have O:=@aI)
 have C:=ω H;have Hp:=ω L;have Hs:=ω M;have HX:=ω N;have H0:=ω (show mV z d s 0 G from H ▸ mV.start d s);clear H L M N
 first|(guard_hyp l;go_enter Tryz.func213,Tryz.ntmps213)|(guard_hyp v;go_enter Tryz.func218,Tryz.ntmps218)|go_enter Tryz.func223,Tryz.ntmps223
 go_wp2
 first|(guard_hyp l;go_loopw [9,10,11] (fun i j _ wr=>LB aC.name d s w i j wr) (fun i j _ _=>(intOf j).toNat - (intOf i).toNat))|(guard_hyp v;go_loopw [9,10,11] (fun i j _ wr=>LB av.name d s w i j wr) (fun i j _ _=>(intOf j).toNat - (intOf i).toNat))|go_loopw [9,10,11] (fun i j _ wr=>LB ak.job d s w i j wr) (fun i j _ _=>(intOf j).toNat - (intOf i).toNat)
 case atStart=>exact⟨0,G,rfl,rfl,H0,θ⟩
 case round=>
  obtain⟨p,q,rfl,rfl,K,k⟩:=hrel;have ai:=K.1;have aq:q<=G:=by have:=K.2.1; have:=C.z; omega
  have P:=ω K;have I:=ω k;have ar:=k.size;clear K;by_cases hlt:p<q
  · have h1:p<=(p+q) / 2:=by omega
    have h2:(p+q) / 2<q:=by omega
    obtain⟨x,o⟩:∃ x,d[(p+q) / 2]? = some x:=⟨_,gO (by rw [C.z]; omega)⟩;obtain⟨b,ap,rfl,am,n⟩:=(HX.below k).eC O C.z o;have Hf:=ω o;have c:=ω (Hp.z wr k x (m8 o))
    first|(guard_hyp l;obtain⟨t,g⟩:∃ t,qy (aC.name x) s=t:=⟨_,rfl⟩)|(guard_hyp v;obtain⟨t,g⟩:∃ t,qy (av.name x) s=t:=⟨_,rfl⟩)|obtain⟨t,g⟩:∃ t,qy (ak.job x) s=t:=⟨_,rfl⟩
    rw [g] at c;have T:=LA (a:=z x) (b:=s);rw [g] at T;have ae:=ω T
    first
     |(
      guard_hyp l
      obtain⟨B,Y,X,ac,aa⟩:=x;obtain⟨c0,m,c2,R,c4⟩:=rc5 n;have c:=ω (show ψ F (#[.agg #[B,Y,X,ac,aa],.string s] ++ r) wr fun e h=>e = .returned (.int .i64 t)/\Below wr wr h from c.z))
     |(
      guard_hyp v
      obtain⟨B,Z,ad⟩:=x;obtain⟨c0,m,c2⟩:=rc3 n;have c:=ω (show ψ F (#[.agg #[B,Z,ad],.string s] ++ r) wr fun e h=>e = .returned (.int .i64 t)/\Below wr wr h from c.z))
     |(
      guard_hyp aj
      obtain⟨job,node,ab⟩:=x;obtain⟨c0,m,c2⟩:=rc3 n;have c:=ω (show ψ F (#[.agg #[job,node,ab],.string s] ++ r) wr fun e h=>e = .returned (.int .i64 t)/\Below wr wr h from c.z))
    clear n o k g T;have ao:b<wr.heap.size:=by omega
    go_wp2_with fail
    refine c.mono ?_;rintro e w2 ⟨rfl,y⟩;have J:=ω (I.trans (y.mono I.size))
    first
     |(
      guard_hyp l
      clear c y c0 m c2 R c4)
     |(
      guard_hyp W
      clear c y c0 m c2)
    by_cases E:t<0
    · have S:=ω (P.low Hs.z h2 Hf.z (ae.z.1 E));have d1:decide (t<0)=true:=t8 E;clear E;go_wp2
      go_roundw
      case rel=>exact⟨(p+q) / 2+1,q,by go_num,rfl,S.z,J.z⟩
      case measure=>simp [intOf]; omega
    · have S:=ω (P.high Hs.z h1 Hf.z (by
      rw [<- Bool.not_eq_true]; exact fun D=>E (ae.z.2 D)))
      have d1:decide (t<0)=false:=fK E;clear E;go_wp2
      go_roundw
      case rel=>exact⟨p,(p+q) / 2,rfl,by go_num,S.z,J.z⟩
      case measure=>simp [intOf]; omega
  · obtain rfl:q=p:=by omega
    have U:=P.pos
    first|(guard_hyp l;have u:isL aC.name d s=match d[q]? with | some a=>decide (aC.name a=s) | none=>false:=?_)|(guard_hyp v;have u:isL av.name d s=match d[q]? with | some a=>decide (av.name a=s) | none=>false:=?_)|have u:isL ak.job d s=match d[q]? with | some a=>decide (ak.job a=s) | none=>false:=?_
    rotate_left
    ·unfold isL; rw [U]
     cases d[q]? <;> rfl
    have bE:=ω (fun (t:Bool) (af:World) (g:isL z d s=t) (hW:Below w w af)=>(show kE z d s w (.returned (.tuple #[q,.bool t])) af from ⟨by rw [U,g],hW⟩));clear U;by_cases hq:q<G
    · obtain⟨x,o⟩:∃ x,d[q]? = some x:=⟨_,gO (by rw [C.z]; omega)⟩;obtain⟨b,ap,rfl,am,n⟩:=(HX.below k).eC O C.z o;rw [o] at u;have c:=ω (Hp.z wr k x (m8 o))
      first|(guard_hyp l;obtain⟨t,g⟩:∃ t,qy (aC.name x) s=t:=⟨_,rfl⟩)|(guard_hyp v;obtain⟨t,g⟩:∃ t,qy (av.name x) s=t:=⟨_,rfl⟩)|obtain⟨t,g⟩:∃ t,qy (ak.job x) s=t:=⟨_,rfl⟩
      rw [g] at c;have V:=Jv (a:=z x) (b:=s);rw [g] at V;have N5:=ω V;have al:=ω u
      first
       |(
        guard_hyp l
        obtain⟨B,Y,X,ac,aa⟩:=x;obtain⟨c0,m,c2,R,c4⟩:=rc5 n;have c:=ω (show ψ F (#[.agg #[B,Y,X,ac,aa],.string s] ++ r) wr fun e h=>e = .returned (.int .i64 t)/\Below wr wr h from c.z))
       |(
        guard_hyp v
        obtain⟨B,Z,ad⟩:=x;obtain⟨c0,m,c2⟩:=rc3 n;have c:=ω (show ψ F (#[.agg #[B,Z,ad],.string s] ++ r) wr fun e h=>e = .returned (.int .i64 t)/\Below wr wr h from c.z))
       |(
        guard_hyp aj
        obtain⟨job,node,ab⟩:=x;obtain⟨c0,m,c2⟩:=rc3 n;have c:=ω (show ψ F (#[.agg #[job,node,ab],.string s] ++ r) wr fun e h=>e = .returned (.int .i64 t)/\Below wr wr h from c.z))
      clear n o k g V u hlt ai;have ao:b<wr.heap.size:=by omega
      go_wp2_with fail
      refine c.mono ?_;rintro e w2 ⟨rfl,y⟩;have J:=ω (I.trans (y.mono I.size))
      first
       |(
        guard_hyp l
        clear c y c0 m c2 R c4)
       |(
        guard_hyp W
        clear c y c0 m c2)
      have Q:=ω (bE.z (t == 0) w2 (by
       rw [al.z];by_cases D:t=0
       · rw [beq_iff_eq.2 D]; exact t8 (N5.z.1 D)
       · rw [beq_eq_false_iff_ne.2 D]; exact fK (fun e=>D (N5.z.2 e))) J.z)
      go_wp2;go_ret2;exact Q
    · rw [List.getElem?_eq_none (by rw [C.z]; omega)] at u;have Q:=ω (bE.z false wr u k);clear u k hlt ai;go_wp2;go_ret2;exact Q)
theorem Nm (s:ByteArray) (xs:List aC) (a:Nat) (w:World) (c:ζ w a 0 (.func (.func 129) #[] #[])):Compares aC.name s 214 #[π a 0] aS xs w:=by
 intro W b x u;have d:=block_lt_of_cell c;have r:=(b.cell (p:=⟨a,0,none⟩) d).trans c;have v:a<W.heap.size:=u7 d b.size;have y:=enters_of Tryz.func129 (by kernel_rfl) rfl;obtain⟨t,g⟩:∃ t,qy (aC.name x) s=t:=⟨_,rfl⟩;have h:=ω (fun W=>tI (aC.name x) s W);simp only [g] at h;rw [g];obtain⟨j,l,k,n,m⟩:=x
 show ψ 214 #[.agg #[j,l,k,n,m],s,π a 0] W fun e q=>e = .returned (.int .i64 t)/\Below W W q
 clear c u g b d;go_enter Tryz.func214,Tryz.ntmps214
 go_wp2_with fail
 refine Calls.mono (kF j l k n m _) ?_;rintro e z ⟨rfl,i⟩;have o:=ω (((Below.refl W W).alloc lJ _).trans (i.mono (by simp)));clear i r
 go_wp2_with fail
 refine Calls.mono (h.z _) ?_;rintro e B ⟨rfl,rfl⟩;go_wp2;go_ret;exact⟨rfl,o⟩
theorem LC (s:ByteArray) (xs:List av) (a:Nat) (w:World) (c:ζ w a 0 (.func (.func 132) #[] #[])):Compares av.name s 219 #[π a 0] aH xs w:=by
 intro W b x q;have d:=block_lt_of_cell c;have o:=(b.cell (p:=⟨a,0,none⟩) d).trans c;have r:a<W.heap.size:=u7 d b.size;have u:=enters_of Tryz.func132 (by kernel_rfl) rfl;obtain⟨t,g⟩:∃ t,qy (av.name x) s=t:=⟨_,rfl⟩;have h:=ω (fun W=>tI (av.name x) s W);simp only [g] at h;rw [g];obtain⟨j,k,l⟩:=x
 show ψ 219 #[.agg #[j,k,l],s,π a 0] W fun e n=>e = .returned (.int .i64 t)/\Below W W n
 clear c q g b d;go_enter Tryz.func219,Tryz.ntmps219
 go_wp2_with fail
 refine Calls.mono (ji j k l _) ?_;rintro e v ⟨rfl,i⟩;have m:=ω (((Below.refl W W).alloc lJ _).trans (i.mono (by simp)));clear i o
 go_wp2_with fail
 refine Calls.mono (h.z _) ?_;rintro e y ⟨rfl,rfl⟩;go_wp2;go_ret;exact⟨rfl,m⟩
theorem Jw (s:ByteArray) (xs:List ak) (a:Nat) (w:World) (c:ζ w a 0 (.func (.func 135) #[] #[])):Compares ak.job s 224 #[π a 0] aB xs w:=by
 intro W b x n;have d:=block_lt_of_cell c;have m:=(b.cell (p:=⟨a,0,none⟩) d).trans c;have o:a<W.heap.size:=u7 d b.size;have q:=enters_of Tryz.func135 (by kernel_rfl) rfl;obtain⟨t,g⟩:∃ t,qy (ak.job x) s=t:=⟨_,rfl⟩;have h:=ω (fun W=>tI (ak.job x) s W);simp only [g] at h;rw [g];obtain⟨job,node,j⟩:=x
 show ψ 224 #[.agg #[job,node,j],s,π a 0] W fun e l=>e = .returned (.int .i64 t)/\Below W W l
 clear c n g b d;go_enter Tryz.func224,Tryz.ntmps224
 go_wp2_with fail
 refine Calls.mono (fG job node j _) ?_;rintro e r ⟨rfl,i⟩;have k:=ω (((Below.refl W W).alloc lJ _).trans (i.mono (by simp)));clear i m
 go_wp2_with fail
 refine Calls.mono (h.z _) ?_;rintro e u ⟨rfl,rfl⟩;go_wp2;go_ret;exact⟨rfl,k⟩
def tJ (a:Type) (d:Nat) (e:a->List Value) (b:a->ByteArray) (f:FuncId) (g:FuncId):Prop:=
 ∀ (s:ByteArray) (xs:List a) (A:Option Addr) (n c:Nat) (w:World) (k:bC w w d A n (au e xs)) (h:xs.length=n) (i:n<=1000) (j:cH b xs),ψ f #[.slice A n c,s,.func (.func g) #[] #[]] w (kE b xs s w)
theorem gZ:tJ aC 5 aS aC.name 180 129 /\ tJ av 3 aH av.name 182 132 /\ tJ ak 3 aB ak.job 187 135:=by
 refine⟨@fun s a A p k w g d m e=>(fun(h:Unit)=>?_) (),@fun s a A p k w g d m e=>(fun(j:Unit)=>?_) (),@fun s a A p k w g d m e=>?_⟩<;>(
 first|(guard_hyp h;have r:Tg 18:=⟨⟩;have u:Tg 78:=⟨⟩;have o:Tg 19:=⟨⟩)|(guard_hyp j;have r:Tg 20:=⟨⟩;have u:Tg 79:=⟨⟩;have o:Tg 21:=⟨⟩)|(have r:Tg 22:=⟨⟩;have u:Tg 80:=⟨⟩;have o:Tg 23:=⟨⟩)
 have b:Below w w (χ w #[.func (.func r) #[] #[]] u):=(θ).alloc lJ _
 first|(guard_hyp h;have c:ζ (χ w #[.func (.func 129) #[] #[]] 176) w 0 (.func (.func 129) #[] #[]):=?_)|(guard_hyp j;have c:ζ (χ w #[.func (.func 132) #[] #[]] 178) w 0 (.func (.func 132) #[] #[]):=?_)|have c:ζ (χ w #[.func (.func 135) #[] #[]] 185) w 0 (.func (.func 135) #[] #[]):=?_
 rotate_left
 ·rw [cell_of_row _ _ 0 _ _ _ (heap_alloc_new w _)]; rfl
 first|(guard_hyp h;have H:=ω (yF.1 s 214 #[π w 0] a A p k _ (enters_of Tryz.func214 (by kernel_rfl) rfl) ((g.below b).more b.size) d m e (Nm s a _ _ c)))|(guard_hyp j;have H:=ω (yF.2.1 s 219 #[π w 0] a A p k _ (enters_of Tryz.func219 (by kernel_rfl) rfl) ((g.below b).more b.size) d m e (LC s a _ _ c)))|have H:=ω (yF.2.2 s 224 #[π w 0] a A p k _ (enters_of Tryz.func224 (by kernel_rfl) rfl) ((g.below b).more b.size) d m e (Jw s a _ _ c))
 have x:=ω (fun (t:Nat) (i:Bool) (W:World) (C:eW o a s=t) (D:isL o a s=i) (q:Below w w W)=>(show kE o a s w (.returned (.tuple #[t,.bool i])) W from ⟨by rw [C,D],q⟩));unfold kE at H
 first|(guard_hyp h;obtain⟨t,n⟩:∃ t,eW aC.name a s=t:=⟨_,rfl⟩)|(guard_hyp j;obtain⟨t,n⟩:∃ t,eW av.name a s=t:=⟨_,rfl⟩)|obtain⟨t,n⟩:∃ t,eW ak.job a s=t:=⟨_,rfl⟩
 first|(guard_hyp h;obtain⟨i,l⟩:∃ i,isL aC.name a s=i:=⟨_,rfl⟩)|(guard_hyp j;obtain⟨i,l⟩:∃ i,isL av.name a s=i:=⟨_,rfl⟩)|obtain⟨i,l⟩:∃ i,isL ak.job a s=i:=⟨_,rfl⟩
 rw [n,l] at H;have B:=ω (fun W q=>x.z t i W n l q);have v:=ω b;clear b c g d e n l x
 first|(guard_hyp h;go_enter Tryz.func180,Tryz.ntmps180)|(guard_hyp j;go_enter Tryz.func182,Tryz.ntmps182)|go_enter Tryz.func187,Tryz.ntmps187
 go_wp2_with fail
 refine H.mono ?_;rintro F E ⟨rfl,y⟩;have z:=ω (B.z E (v.trans (y.mono v.size)));clear y;go_wp2;go_ret2;exact z)
theorem AV (n lo hi:Int) (d:lo<=n) (a:n<=hi) (w:World):ψ 138 #[n,lo,hi] w fun e b=>e = .returned (.bool true)/\w=b:=by
 have c:decide (n<=hi)=true:=t8 a;go_enter Tryz.func138,Tryz.ntmps138;go_wp2;go_ret;exact⟨rfl,rfl⟩
theorem Cn (n lo hi:Int) (h:n<lo\/hi<n) (w:World):ψ 138 #[n,lo,hi] w fun e b=>e = .returned (.bool false)/\w=b:=by
 by_cases a:lo<=n
 · have g:hi<n:=by omega
   have d:decide (n<=hi)=false:=fK (by omega);clear h;go_enter Tryz.func138,Tryz.ntmps138;go_wp2;go_ret;exact⟨rfl,rfl⟩
 · have c:decide (lo<=n)=false:=fK a;clear h;go_enter Tryz.func138,Tryz.ntmps138;go_wp2;go_ret;exact⟨rfl,rfl⟩
theorem nN (n:Int) (b:1<=n) (c:n<=3) (w:World):ψ 72 #[n] w fun e a=>e = .returned (.bool true)/\w=a:=by
 go_enter Tryz.func72,Tryz.ntmps72
 go_wp2_with (go_at_call 138; refine (AV _ _ _ b c _).mono ?_; rintro e a ⟨rfl,rfl⟩)
 go_ret;exact⟨rfl,rfl⟩
theorem wJ (n:Int) (h:n<1\/3<n) (w:World):ψ 72 #[n] w fun e a=>e = .returned (.bool false)/\w=a:=by
 have H:=ω h;clear h;go_enter Tryz.func72,Tryz.ntmps72
 go_wp2_with (go_at_call 138; refine (Cn _ _ _ H.z _).mono ?_; rintro e a ⟨rfl,rfl⟩)
 go_ret;exact⟨rfl,rfl⟩
theorem vA (n:Int) (b:1<=n) (c:n<=4) (w:World):ψ 73 #[n] w fun e a=>e = .returned (.bool true)/\w=a:=by
 go_enter Tryz.func73,Tryz.ntmps73
 go_wp2_with (go_at_call 138; refine (AV _ _ _ b c _).mono ?_; rintro e a ⟨rfl,rfl⟩)
 go_ret;exact⟨rfl,rfl⟩
theorem Ca (n:Int) (h:n<1\/4<n) (w:World):ψ 73 #[n] w fun e a=>e = .returned (.bool false)/\w=a:=by
 have H:=ω h;clear h;go_enter Tryz.func73,Tryz.ntmps73
 go_wp2_with (go_at_call 138; refine (Cn _ _ _ H.z _).mono ?_; rintro e a ⟨rfl,rfl⟩)
 go_ret;exact⟨rfl,rfl⟩
theorem D6 (s:ByteArray) (w:World) (o:s.size<=9223372036854775807):ψ 75 #[s] w fun e p=>e = .returned (.string ⟨(pC s.data.toList).toArray⟩)/\Below w w p:=by
 have hlt:=Cl s.data.toList;go_enter Tryz.func75,Tryz.ntmps75
 go_wp2_with fail
 refine Calls.mono (Nn s w o) ?_;rintro e q ⟨rfl,d⟩;have a:=ω (show pC s.data.toList=[UInt8.ofNat (gR s.data.toList / 16777216),UInt8.ofNat (gR s.data.toList / 65536),UInt8.ofNat (gR s.data.toList / 256),UInt8.ofNat (gR s.data.toList)] from rfl);generalize gR s.data.toList=n at hlt a;have b:=fun (m:Nat)=>show (m:Int) % 256=(((UInt8.ofNat m).toNat:Nat):Int) from by rw [UInt8.toNat_ofNat']; omega
 have g:=sB (P:=Tryz.prog) (w:=q) (n:=4) (c:=4) (cs:=#[.int .u8 ((n:Int) / 16777216),.int .u8 ((n:Int) / 65536 % 256),.int .u8 ((n:Int) / 256 % 256),.int .u8 ((n:Int) % 256)]) (l:=[UInt8.ofNat (n / 16777216),UInt8.ofNat (n / 65536),UInt8.ofNat (n / 256),UInt8.ofNat n]) Tryz.underlying55 Tryz.underlying5 Tryz.underlying9 (by
  simp only [bK,List.map_cons,List.map_nil];rw [<- b,<- b,<- b,<- b];have i:(((n / 16777216:Nat):Int)) % 256=(n:Int) / 16777216:=by omega
  have j:(((n / 65536:Nat):Int)) % 256=(n:Int) / 65536 % 256:=by omega
  have k:(((n / 256:Nat):Int)) % 256=(n:Int) / 256 % 256:=by omega
  rw [i,j,k]) rfl
 have h:=ω g;clear b g
 go_wp2_with fail
 rw [h.z];go_wp2;go_ret;exact⟨kS (by rw [a.z]),d.alloc d.size _⟩
theorem Cb (s:ByteArray) (w:World) (k:s.size<=9223372036854775807):ψ 90 #[s] w fun e l=>e = .returned (.string ⟨(pC s.data.toList).toArray⟩)/\Below w w l:=by
 have hlt:=Cl s.data.toList;go_enter Tryz.func90,Tryz.ntmps90
 go_wp2_with fail
 refine Calls.mono (LD s w k) ?_;rintro e m ⟨rfl,rfl⟩;have d:=ω (show pC s.data.toList=[UInt8.ofNat (gR s.data.toList / 16777216),UInt8.ofNat (gR s.data.toList / 65536),UInt8.ofNat (gR s.data.toList / 256),UInt8.ofNat (gR s.data.toList)] from rfl);generalize gR s.data.toList=n at hlt d
 go_wp2_with fail
 refine Calls.mono (pV ((n:Int) / 16777216) _ (by omega) (by omega)) ?_;rintro e m ⟨rfl,a⟩
 go_wp2_with fail
 refine Calls.mono (pV ((n:Int) / 65536) _ (by omega) (by omega)) ?_;rintro e o ⟨rfl,g⟩;have b:=a.trans (g.mono a.size);clear a g
 go_wp2_with fail
 refine Calls.mono (pV ((n:Int) / 256) _ (by omega) (by omega)) ?_;rintro e p ⟨rfl,h⟩;have c:=b.trans (h.mono b.size);clear b h
 go_wp2_with fail
 refine Calls.mono (pV (n:Int) _ (by omega) (by omega)) ?_;rintro e q ⟨rfl,i⟩;have j:=c.trans (i.mono c.size);clear c i;go_wp2;go_ret;exact⟨kS (by rw [d.z]; simp [ByteArray.mk_append_mk]),j⟩
def uU (v k:Int) (p:ByteArray):ByteArray × Int:=
 if v<1\/3<v\/k<1\/4<k then (⟨#[]⟩,1) else if 6000<p.size then (⟨#[]⟩,2) else (⟨(pT v.toNat k.toNat p.data.toList).toArray⟩,0)
def iq (v k:Int) (p:ByteArray) (w:World) (e:Ending) (w':World):Prop:=e = .returned (.tuple #[.string (uU v k p).1,.int .i64 (uU v k p).2])/\Below w w w'
theorem iq.arg {v k:Int} {p:ByteArray} {w w':World} (h:v<1\/3<v\/k<1\/4<k) (a:Below w w w'):iq v k p w (.returned (.tuple #[.string ⟨#[]⟩,(1:Int)])) w':=⟨by unfold uU; rw [if_pos h],a⟩
theorem iq.large {v k:Int} {p:ByteArray} {w w':World} (h:¬ (v<1\/3<v\/k<1\/4<k)) (a:6000<p.size) (b:Below w w w'):iq v k p w (.returned (.tuple #[.string ⟨#[]⟩,(2:Int)])) w':=⟨by unfold uU; rw [if_neg h,if_pos a],b⟩
theorem iq.ok {v k:Int} {p:ByteArray} {w w':World} {s:ByteArray} (h:¬ (v<1\/3<v\/k<1\/4<k)) (a:¬ 6000<p.size) (c:s.data.toList=pT v.toNat k.toNat p.data.toList) (b:Below w w w'):iq v k p w (.returned (.tuple #[s,(0:Int)])) w':=
 ⟨by unfold uU; rw [if_neg h,if_neg a,<- c],b⟩
theorem Gp {s:ByteArray} {f:cM} {n e:Nat} (h:jK s=(f,n,e)):(e≠0->f = .zero/\n=0)/\(e=0->9<=n/\n<=s.size):=by
 unfold jK at h;by_cases b:nE s=0
 · rw [if_pos b] at h;obtain⟨i,k,x,g⟩:∃ n k x,rdNum (s.extract 4 s.size)=(n,k,x):=⟨_,_,_,rfl⟩;have j:=gW g;rw [g] at h;dsimp only at h;by_cases a:x=0
   · rw [if_pos a] at h;have l:=(j.2.2.2 a).1;by_cases d:6000<i
     · rw [if_pos d] at h; cases h; exact⟨fun _=>⟨rfl,rfl⟩,fun h=>absurd h (by omega)⟩
     · rw [if_neg d] at h;by_cases c:s.size<8+k+i
       · rw [if_pos c] at h; cases h; exact⟨fun _=>⟨rfl,rfl⟩,fun h=>absurd h (by omega)⟩
       · rw [if_neg c] at h
         split at h
         · cases h; exact⟨fun h=>absurd rfl h,fun _=>⟨by omega,by omega⟩⟩
         · cases h; exact⟨fun _=>⟨rfl,rfl⟩,fun h=>absurd h (by omega)⟩
   · rw [if_neg a] at h; cases h; exact⟨fun _=>⟨rfl,rfl⟩,fun h=>absurd h a⟩
 · rw [if_neg b] at h; cases h; exact⟨fun _=>⟨rfl,rfl⟩,fun h=>absurd h b⟩
inductive Frs:ByteArray->List cM->Nat->Nat->Prop
 | stop {s:ByteArray} {e:Nat}:jK s=(.zero,0,e)->e≠0->Frs s [] 0 e
 | step {s:ByteArray} {f:cM} {n:Nat} {fs:List cM} {m e:Nat}:jK s=(f,n,0)->1<=n->n<=s.size->Frs (s.extract n s.size) fs m e->Frs s (f :: fs) (n+m) e
theorem Frs.all_:∀ (k:Nat) (s:ByteArray),s.size<=k->∃ c m e,Frs s c m e
 | k,s,b=>by
  obtain⟨f,n,e,h⟩:∃ f n e,jK s=(f,n,e):=⟨_,_,_,rfl⟩;obtain⟨d,g⟩:=Gp h;by_cases a:e=0
  · subst a;obtain⟨l,i⟩:=g rfl
    match k,b with
    | 0,b=>omega
    | k+1,b=>
     obtain⟨c,m,e,j⟩:=Frs.all_ k (s.extract n s.size) (by rw [ByteArray.size_extract]; omega);exact⟨_,_,_,.step h (by omega) i j⟩
  · obtain⟨rfl,rfl⟩:=d a;exact⟨_,_,_,.stop h a⟩
theorem Frs.all (s:ByteArray):∃ a m e,Frs s a m e:=Frs.all_ s.size s lJ
theorem Frs.facts {s:ByteArray} {a:List cM} {m e:Nat} (h:Frs s a m e):m<=s.size/\e≠0/\a.length<=m:=by
 induction h with
 | stop _ c=>exact⟨Nat.zero_le _,c,lJ⟩
 | step _ d f _ b=>
  rw [ByteArray.size_extract] at b;refine⟨by omega,b.2.1,?_⟩;rw [List.length_cons]; omega
end Go.Proofs.YtimglglgcgpjgaaGreatDoor
