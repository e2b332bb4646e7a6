/- Of the proof of a statement: PlPlace, Cmp, BSearch. -/
import Derived.WalkLawsBesides
import Derived.Test.YtimglglgcgpjgabGreatDoorPFrmEnc
import Derived.Test.YtimglglgcgpjgabGreatDoorPRPh
import Derived.Test.YtimglglgcgpjgabGreatDoorPRdRow
set_option linter.unusedVariables false
set_option linter.unusedSimpArgs false
set_option maxRecDepth 100000
set_option maxHeartbeats 8000000
namespace Go.Proofs.YtimglglgcgpjgabGreatDoor
open Go.RowKit
open Go.Op (bytesLess)
section
variable {α:Type} (key:α->ByteArray)
def eV (l:List α) (s:ByteArray):Nat:=(l.takeWhile fun a=>dO (key a) s).length
def isL (l:List α) (s:ByteArray):Bool:=match l[eV key l s]? with
 | some a=>decide (key a=s)
 | none=>false
def mq (l:List α) (s:ByteArray) (i j:Nat):Prop:=i<=j/\j<=l.length/\(∀ a ∈ l.take i,dO (key a) s=true)/\∀ a ∈ l.drop j,dO (key a) s=false
variable {key}
theorem mq.start (l:List α) (s:ByteArray):mq key l s 0 l.length:=⟨Nat.zero_le _,lQ,by simp,by simp⟩
theorem mq.low {l:List α} {s:ByteArray} {i j h:Nat} (H:mq key l s i j) (d:cF key l) (b:h<j) {x:α} (f:l[h]? = some x) (a:dO (key x) s=true):mq key l s (h+1) j:=by
 refine⟨b,H.2.1,fun g ha=>?_,H.2.2.2⟩;obtain⟨hlt,rfl⟩:=List.getElem?_eq_some_iff.1 f;obtain⟨k,c,rfl⟩:=List.mem_iff_getElem.1 ha;rw [List.length_take] at c;rw [List.getElem_take];by_cases e:k=h
 · subst e; exact a
 · exact nP (List.pairwise_iff_getElem.1 d k h (by omega) hlt (by omega)) a
theorem mq.high {l:List α} {s:ByteArray} {i j h:Nat} (H:mq key l s i j) (f:cF key l) (c:i<=h) {x:α} (g:l[h]? = some x) (b:dO (key x) s=false):mq key l s i h:=by
 obtain⟨hlt,rfl⟩:=List.getElem?_eq_some_iff.1 g;refine⟨c,by omega,H.2.2.1,fun m ha=>?_⟩;obtain⟨k,d,rfl⟩:=List.mem_iff_getElem.1 ha;rw [List.length_drop] at d;rw [List.getElem_drop]
 cases a:dO (key l[h+k]) s with
 | false=>rfl
 | true=>
  by_cases e:k=0
  · subst e; simp only [Nat.add_zero] at a; rw [a] at b; cases b
  · have:=nP (List.pairwise_iff_getElem.1 f h (h+k) hlt (by omega) (by omega)) a;rw [b] at this; cases this
theorem rU {p:α->Bool}:∀ (l:List α) (i:Nat),i<=l.length->(∀ a ∈ l.take i,p a=true)->(∀ a ∈ l.drop i,p a=false)->l.takeWhile p=l.take i
 | [],i,e,_,_=>by simp
 | a :: l,0,_,_,h=>by
  have:=h a (by simp);simp [List.takeWhile_cons,this]
 | a :: l,i+1,e,d,f=>by
  have ha:=d a (by simp);rw [List.takeWhile_cons,ha,List.take_succ_cons];simp only [if_true];rw [rU l i (by simpa using e) (fun b c=>d b (by simp [c])) (fun b c=>f b (by simpa using c))]
theorem mq.pos {l:List α} {s:ByteArray} {i:Nat} (H:mq key l s i i):eV key l s=i:=by
 unfold eV;rw [rU l i H.2.1 H.2.2.1 H.2.2.2,List.length_take];have:=H.2.1;omega
theorem vP (l:List α) (s:ByteArray):eV key l s<=l.length:=by
 unfold eV;exact (List.takeWhile_prefix _).length_le
theorem takeWhile_take (p:α->Bool):∀ l:List α,l.takeWhile p=l.take (l.takeWhile p).length
 | []=>rfl
 | a :: l=>by
  rw [List.takeWhile_cons]
  split
  · rw [List.length_cons,List.take_succ_cons,<- takeWhile_take p l]
  · rfl
theorem su {l:List α} {s:ByteArray}:∀ a ∈ l.take (eV key l s),dO (key a) s=true:=by
 intro a ha;unfold eV at ha;rw [<- takeWhile_take] at ha;have:=List.all_takeWhile (l:=l) (p:=fun a=>dO (key a) s);rw [List.all_eq_true] at this;exact this a ha
theorem sw (p:α->Bool):∀ (l:List α) (x:α),l[(l.takeWhile p).length]? = some x->p x=false
 | [],x,h=>by simp at h
 | b :: l,x,h=>by
  rw [List.takeWhile_cons] at h
  split at h
  · rw [List.length_cons,List.getElem?_cons_succ] at h;exact sw p l x h
  · rename_i a
    rw [List.length_nil,List.getElem?_cons_zero] at h;injection h with h;subst h;simpa using a
theorem BQ {l:List α} {s:ByteArray} {x:α} (h:l[eV key l s]? = some x):dO (key x) s=false:=sw _ l x h
theorem Fv {l:List α} {s:ByteArray} (f:cF key l):∀ a ∈ l.drop (eV key l s),dO (key a) s=false:=by
 intro a ha;obtain⟨k,e,rfl⟩:=List.mem_iff_getElem.1 ha;rw [List.length_drop] at e;have b:eV key l s<l.length:=by omega
 have d:=BQ (δ b);have H:mq key l s (eV key l s) l.length:=⟨vP _ _,lQ,su,by simp⟩;have c:=H.high f lQ (δ b) d;exact c.2.2.2 _ ha
theorem tM {l:List α} {s:ByteArray} (j:cF key l) (b:isL key l s=false):∀ a ∈ l.drop (eV key l s),key a≠s:=by
 intro a ha e;obtain⟨k,h,rfl⟩:=List.mem_iff_getElem.1 ha;rw [List.length_drop] at h;have c:eV key l s<l.length:=by omega
 rw [List.getElem_drop] at e;unfold isL at b;rw [List.getElem?_eq_getElem c] at b;have i:key l[eV key l s]≠s:=by simpa using b
 by_cases f:k=0
 · subst f; exact i e
 · have d:=List.pairwise_iff_getElem.1 j (eV key l s) (eV key l s+k) c (by omega) (by omega);have g:=BQ (δ c);rw [e,g] at d; cases d
theorem pq {l:List α} {s:ByteArray}:∀ a ∈ l.take (eV key l s),key a≠s:=fun a ha e=>by
 have:=su a ha;rw [e,fE] at this; cases this
theorem pz {l:List α} {s:ByteArray} (h:isL key l s=true):∃ x,l[eV key l s]? = some x/\key x=s:=by
 unfold isL at h
 cases a:l[eV key l s]? with
 | none=>rw [a] at h; cases h
 | some x=>rw [a] at h; exact⟨x,rfl,by simpa using h⟩
theorem sA {l:List α} {s:ByteArray} (e:cF key l) (b:isL key l s=true):∀ a ∈ l.drop (eV key l s+1),dO s (key a)=true:=by
 intro a ha;obtain⟨x,f,c⟩:=pz b;obtain⟨hlt,rfl⟩:=List.getElem?_eq_some_iff.1 f;obtain⟨k,d,rfl⟩:=List.mem_iff_getElem.1 ha;rw [List.length_drop] at d;rw [List.getElem_drop];have:=List.pairwise_iff_getElem.1 e (eV key l s) (eV key l s+1+k) hlt (by omega) (by omega);rwa [c] at this
theorem qz {l:List α} {s:ByteArray} (e:cF key l):isL key l s=(l.find? fun a=>decide (key a=s)).isSome:=by
 cases h:isL key l s with
 | true=>
  obtain⟨x,f,c⟩:=pz h
  symm
  rw [List.find?_isSome];exact⟨x,m8 f,by simpa using c⟩
 | false=>
  symm
  rw [<- Bool.not_eq_true,List.find?_isSome];rintro⟨a,ha,c⟩;have d:key a=s:=by simpa using c
  rw [<- List.take_append_drop (eV key l s) l] at ha;rcases List.mem_append.1 ha with b | b
  · exact pq a b d
  · exact tM e h a b d
theorem ME {l:List α} {s:ByteArray} (c:cF key l) {x:α} (d:l[eV key l s]? = some x) (b:key x=s):(l.find? fun a=>decide (key a=s))=some x:=by
 have:=ID (BH c) (m8 d);rwa [b] at this
theorem sB {l:List α} {x:α} (c:cF key l):jE key l x=if isL key l (key x)=true then l.take (eV key l (key x)) ++ x :: l.drop (eV key l (key x)+1) else l.take (eV key l (key x)) ++ x :: l.drop (eV key l (key x)):=by
 refine sC (sorted_put x l c) ?_ fun z=>?_
 · have g:∀ r:List α,cF key r->(∀ a ∈ r,dO (key x) (key a)=true)->cF key (l.take (eV key l (key x)) ++ x :: r):=by
    intro r o i;refine List.pairwise_append.2 ⟨c.sublist (List.take_sublist _ _),List.pairwise_cons.2 ⟨i,o⟩,fun a ha j d=>?_⟩;have b:=su a ha;rcases List.mem_cons.1 d with rfl | d
    · exact b
    · exact nP b (i j d)
   split
   · rename_i h
     exact g _ (c.sublist (List.drop_sublist _ _)) (sA c h)
   · rename_i h
     rw [Bool.not_eq_true] at h;exact g _ (c.sublist (List.drop_sublist _ _)) fun a ha=>oN (Fv c a ha) (tM c h a ha)
 · show z ∈ bR key x false l↔_
   rw [lT]
   have f:z ∈ l↔z ∈ l.take (eV key l (key x))\/z ∈ l.drop (eV key l (key x)):=by
    conv=>lhs; rw [<- List.take_append_drop (eV key l (key x)) l]
    exact List.mem_append
   split
   · rename_i h
     obtain⟨y,p,n⟩:=pz h;have m:l.drop (eV key l (key x))=y :: l.drop (eV key l (key x)+1):=drop_cons p;rw [f,m];simp only [List.mem_append,List.mem_cons,true_and];constructor
     · rintro (b | ⟨b | b | b,e⟩)
       · exact .inr (.inl b)
       · exact .inl b
       · subst b; exact absurd n e
       · exact .inr (.inr b)
     · rintro (b | b | b)
       · exact .inr ⟨.inl b,pq z b⟩
       · exact .inl b
       · exact .inr ⟨.inr (.inr b),fun k=>by have:=sA c h z b; rw [k,fE] at this; cases this⟩
   · rename_i h
     rw [Bool.not_eq_true] at h;rw [f];simp only [List.mem_append,List.mem_cons,true_and];constructor
     · rintro (b | ⟨b | b,e⟩)
       · exact .inr (.inl b)
       · exact .inl b
       · exact .inr (.inr b)
     · rintro (b | b | b)
       · exact .inr ⟨.inl b,pq z b⟩
       · exact .inl b
       · exact .inr ⟨.inr b,tM c h z b⟩
theorem zQ {l:List α} {s:ByteArray} (d:cF key l):l.filter (fun a=>!decide (key a=s))=if isL key l s=true then l.take (eV key l s) ++ l.drop (eV key l s+1) else l:=by
 have c:∀ r:List α,(∀ a ∈ r,key a≠s)->r.filter (fun a=>!decide (key a=s))=r:=fun r i=>List.filter_eq_self.2 fun a ha=>by simpa using i a ha
 split
 · rename_i h
   obtain⟨x,j,g⟩:=pz h;have f:l.drop (eV key l s)=x :: l.drop (eV key l s+1):=drop_cons j
   conv=>lhs; rw [<- List.take_append_drop (eV key l s) l,f]
   rw [List.filter_append,List.filter_cons,c _ pq,c _ (fun a ha e=>by have:=sA d h a ha; rw [e,fE] at this; cases this)];simp [g]
 · rename_i h
   rw [Bool.not_eq_true] at h;refine c _ fun a ha=>?_;rw [<- List.take_append_drop (eV key l s) l] at ha;rcases List.mem_append.1 ha with b | b
   · exact pq a b
   · exact tM d h a b
theorem sD {l:List α} {x:α} (a:cF key l):(jE key l x).length<=l.length+1:=by
 rw [sB a];have:=vP (key:=key) l (key x)
 split <;> simp <;> omega
end
def ql (a b:ByteArray):Int:=if dO a b=true then -1 else if dO b a=true then 1 else 0
theorem IE {a b:ByteArray} (h:dO a b=true):ql a b = -1:=by unfold ql; rw [if_pos h]
theorem IF {a b:ByteArray} (h:dO a b=false) (c:dO b a=true):ql a b=1:=by unfold ql; rw [if_neg (by simp [h]),if_pos c]
theorem IG {a b:ByteArray} (h:dO a b=false) (c:dO b a=false):ql a b=0:=by unfold ql; rw [if_neg (by simp [h]),if_neg (by simp [c])]
theorem Kb {a b:ByteArray}:ql a b<0↔dO a b=true:=by
 unfold ql;by_cases h:dO a b=true
 · simp [h]
 · by_cases c:dO b a=true <;> simp [h,c]
theorem IH {a b:ByteArray}:ql a b=0↔a=b:=by
 unfold ql;by_cases h:dO a b=true
 · rw [if_pos h];exact⟨fun d=>by omega,fun e=>by rw [e,fE] at h; cases h⟩
 · rw [if_neg h];by_cases c:dO b a=true
   · rw [if_pos c];exact⟨fun d=>by omega,fun e=>by rw [e,fE] at c; cases c⟩
   · rw [if_neg c];refine⟨fun _=>?_,fun _=>rfl⟩;by_cases e:a=b
     · exact e
     · exact absurd (oN (by simpa using h) e) c
theorem xu (a:ByteArray) (w:World):ψ 237 #[a] w fun e b=>e = .returned (.bool false)/\w=b:=by
 have c:(a.toList == a.toList)=true:=beq_self_eq_true _;have d:(a.toList != a.toList)=false:=by simp
 go_enter Tryz.func237,Tryz.ntmps237;go_wp2;go_ret;exact⟨rfl,rfl⟩
theorem sE (a b:ByteArray) (w:World):ψ 216 #[a,b] w fun e g=>e = .returned (.int .i64 (ql a b))/\w=g:=by
 cases h:dO a b with
 | true=>
  rw [IE h];have i:bytesLess a.toList b.toList=true:=h;clear h;go_enter Tryz.func216,Tryz.ntmps216
  go_wp2_with (go_at_call 237; refine (xu _ _).mono ?_; rintro e g ⟨rfl,rfl⟩)
  go_ret;exact⟨rfl,rfl⟩
 | false=>
  cases c:dO b a with
  | true=>
   rw [IF h c];have i:bytesLess a.toList b.toList=false:=h;have d:bytesLess b.toList a.toList=true:=c;have j:(a.toList == b.toList)=false:=beq_eq_false_iff_ne.2 fun e=>by rw [e,pS] at d; cases d
   clear h c;go_enter Tryz.func216,Tryz.ntmps216
   go_wp2_with (go_at_call 237; refine (xu _ _).mono ?_; rintro e g ⟨rfl,rfl⟩)
   go_ret;exact⟨rfl,rfl⟩
  | false=>
   rw [IG h c];have i:bytesLess a.toList b.toList=false:=h;have d:bytesLess b.toList a.toList=false:=c
   have j:(a.toList == b.toList)=true:=by
    have:=j6 a.toList b.toList;rw [i,d] at this;rw [beq_iff_eq];exact (beq_iff_eq.1 (by simpa using this)).symm
   clear h c;go_enter Tryz.func216,Tryz.ntmps216
   go_wp2_with (go_at_call 237; refine (xu _ _).mono ?_; rintro e g ⟨rfl,rfl⟩)
   go_ret;exact⟨rfl,rfl⟩
def Compares {α:Type} (key:α->ByteArray) (s:ByteArray) (F:FuncId) (b:Array Value) (enc:α->List Value) (xs:List α) (w:World):Prop:=
 ∀ W,Below w w W->∀ x ∈ xs,ψ F (#[.agg (enc x).toArray,.string s] ++ b) W fun e a=>e = .returned (.int .i64 (ql (key x) s))/\Below W W a
def ko {α:Type} (key:α->ByteArray) (xs:List α) (s:ByteArray) (w:World) (e:Ending) (w':World):Prop:=
 e = .returned (.tuple #[(eV key xs s),.bool (isL key xs s)])/\Below w w w'
def Kc {α:Type} (key:α->ByteArray) (xs:List α) (s:ByteArray) (w:World) (i j:Value) (wr:World):Prop:=
 ∃ p q:Nat,i = .int .i64 p/\j = .int .i64 q/\mq key xs s p q/\Below w w wr
def xw (a:Type) (f:Nat) (e:a->List Value) (b:a->ByteArray) (g:FuncId):Prop:=
 ∀ (s:ByteArray) (F:FuncId) (d:Array Value) (xs:List a) (A:Option Addr) (n c:Nat) (w:World) (h:∀ args w,(callFunc F args).run Tryz.prog w = .ok (.enter F args) w) (m:bg w w f A n (au e xs)) (i:xs.length=n) (j:n<=1000) (l:cF b xs) (k:Compares b s F d e xs w),ψ g #[.slice A n c,s,.func (.func F) #[] d] w (ko b xs s w)
theorem xA:xw aC 5 aS aC.name 214 /\ xw av 3 aH av.name 219 /\ xw ak 3 aB ak.job 224:=by
 refine⟨@fun s F r d A G ag w ah N H hn M L=>(fun(l:Unit)=>?_) (),@fun s F r d A G ag w ah N H hn M L=>(fun(v W:Unit)=>?_) () (),@fun s F r d A G ag w ah N H hn M L=>(fun(aj W:Unit)=>?_) () ()⟩<;>(
 first|(guard_hyp l;have z:Tg 0:=⟨⟩;have O:=@aU)|(guard_hyp v;have z:Tg 1:=⟨⟩;have O:=@aO)|(have z:Tg 2:=⟨⟩;have O:=@aI)
 have C:=ω H;have Hp:=ω L;have Hs:=ω M;have HX:=ω N;have H0:=ω (show mq z d s 0 G from H ▸ mq.start d s);clear H L M N
 first|(guard_hyp l;go_enter Tryz.func214,Tryz.ntmps214)|(guard_hyp v;go_enter Tryz.func219,Tryz.ntmps219)|go_enter Tryz.func224,Tryz.ntmps224
 go_wp2
 first|(guard_hyp l;go_loopw [9,10,11] (fun i j _ wr=>Kc aC.name d s w i j wr) (fun i j _ _=>(intOf j).toNat - (intOf i).toNat))|(guard_hyp v;go_loopw [9,10,11] (fun i j _ wr=>Kc av.name d s w i j wr) (fun i j _ _=>(intOf j).toNat - (intOf i).toNat))|go_loopw [9,10,11] (fun i j _ wr=>Kc ak.job d s w i j wr) (fun i j _ _=>(intOf j).toNat - (intOf i).toNat)
 case atStart=>exact⟨0,G,rfl,rfl,H0,θ⟩
 case round=>
  obtain⟨p,q,rfl,rfl,K,k⟩:=hrel;have ai:=K.1;have aq:q<=G:=by have:=K.2.1; have:=C.z; omega
  have P:=ω K;have I:=ω k;have ar:=k.size;clear K;by_cases hlt:p<q
  · have h1:p<=(p+q) / 2:=by omega
    have h2:(p+q) / 2<q:=by omega
    obtain⟨x,o⟩:∃ x,d[(p+q) / 2]? = some x:=⟨_,δ (by rw [C.z]; omega)⟩;obtain⟨b,ap,rfl,am,n⟩:=(HX.below k).dL O C.z o;have Hf:=ω o;have c:=ω (Hp.z wr k x (m8 o))
    first|(guard_hyp l;obtain⟨t,g⟩:∃ t,ql (aC.name x) s=t:=⟨_,rfl⟩)|(guard_hyp v;obtain⟨t,g⟩:∃ t,ql (av.name x) s=t:=⟨_,rfl⟩)|obtain⟨t,g⟩:∃ t,ql (ak.job x) s=t:=⟨_,rfl⟩
    rw [g] at c;have T:=Kb (a:=z x) (b:=s);rw [g] at T;have ae:=ω T
    first
     |(
      guard_hyp l
      obtain⟨B,Y,X,ac,aa⟩:=x;obtain⟨c0,m,c2,R,c4⟩:=rc5 n;have c:=ω (show ψ F (#[.agg #[B,Y,X,ac,aa],.string s] ++ r) wr fun e h=>e = .returned (.int .i64 t)/\Below wr wr h from c.z))
     |(
      guard_hyp v
      obtain⟨B,Z,ad⟩:=x;obtain⟨c0,m,c2⟩:=rc3 n;have c:=ω (show ψ F (#[.agg #[B,Z,ad],.string s] ++ r) wr fun e h=>e = .returned (.int .i64 t)/\Below wr wr h from c.z))
     |(
      guard_hyp aj
      obtain⟨job,node,ab⟩:=x;obtain⟨c0,m,c2⟩:=rc3 n;have c:=ω (show ψ F (#[.agg #[job,node,ab],.string s] ++ r) wr fun e h=>e = .returned (.int .i64 t)/\Below wr wr h from c.z))
    clear n o k g T;have ao:b<wr.heap.size:=by omega
    go_wp2_with fail
    refine c.mono ?_;rintro e w2 ⟨rfl,y⟩;have J:=ω (I.trans (y.mono I.size))
    first
     |(
      guard_hyp l
      clear c y c0 m c2 R c4)
     |(
      guard_hyp W
      clear c y c0 m c2)
    by_cases E:t<0
    · have S:=ω (P.low Hs.z h2 Hf.z (ae.z.1 E));have d1:decide (t<0)=true:=t7 E;clear E;go_wp2
      go_roundw
      case rel=>exact⟨(p+q) / 2+1,q,by go_num,rfl,S,J⟩
      case measure=>simp [intOf]; omega
    · have S:=ω (P.high Hs.z h1 Hf.z (by
      rw [<- Bool.not_eq_true]; exact fun D=>E (ae.z.2 D)))
      have d1:decide (t<0)=false:=fQ E;clear E;go_wp2
      go_roundw
      case rel=>exact⟨p,(p+q) / 2,rfl,by go_num,S,J⟩
      case measure=>simp [intOf]; omega
  · obtain rfl:q=p:=by omega
    have U:=P.pos
    first|(guard_hyp l;have u:isL aC.name d s=match d[q]? with | some a=>decide (aC.name a=s) | none=>false:=?_)|(guard_hyp v;have u:isL av.name d s=match d[q]? with | some a=>decide (av.name a=s) | none=>false:=?_)|have u:isL ak.job d s=match d[q]? with | some a=>decide (ak.job a=s) | none=>false:=?_
    rotate_left
    ·unfold isL; rw [U]
     cases d[q]? <;> rfl
    have bG:=ω (fun (t:Bool) (af:World) (g:isL z d s=t) (hW:Below w w af)=>(show ko z d s w (.returned (.tuple #[q,.bool t])) af from ⟨by rw [U,g],hW⟩));clear U;by_cases hq:q<G
    · obtain⟨x,o⟩:∃ x,d[q]? = some x:=⟨_,δ (by rw [C.z]; omega)⟩;obtain⟨b,ap,rfl,am,n⟩:=(HX.below k).dL O C.z o;rw [o] at u;have c:=ω (Hp.z wr k x (m8 o))
      first|(guard_hyp l;obtain⟨t,g⟩:∃ t,ql (aC.name x) s=t:=⟨_,rfl⟩)|(guard_hyp v;obtain⟨t,g⟩:∃ t,ql (av.name x) s=t:=⟨_,rfl⟩)|obtain⟨t,g⟩:∃ t,ql (ak.job x) s=t:=⟨_,rfl⟩
      rw [g] at c;have V:=IH (a:=z x) (b:=s);rw [g] at V;have N5:=ω V;have al:=ω u
      first
       |(
        guard_hyp l
        obtain⟨B,Y,X,ac,aa⟩:=x;obtain⟨c0,m,c2,R,c4⟩:=rc5 n;have c:=ω (show ψ F (#[.agg #[B,Y,X,ac,aa],.string s] ++ r) wr fun e h=>e = .returned (.int .i64 t)/\Below wr wr h from c.z))
       |(
        guard_hyp v
        obtain⟨B,Z,ad⟩:=x;obtain⟨c0,m,c2⟩:=rc3 n;have c:=ω (show ψ F (#[.agg #[B,Z,ad],.string s] ++ r) wr fun e h=>e = .returned (.int .i64 t)/\Below wr wr h from c.z))
       |(
        guard_hyp aj
        obtain⟨job,node,ab⟩:=x;obtain⟨c0,m,c2⟩:=rc3 n;have c:=ω (show ψ F (#[.agg #[job,node,ab],.string s] ++ r) wr fun e h=>e = .returned (.int .i64 t)/\Below wr wr h from c.z))
      clear n o k g V u hlt ai;have ao:b<wr.heap.size:=by omega
      go_wp2_with fail
      refine c.mono ?_;rintro e w2 ⟨rfl,y⟩;have J:=ω (I.trans (y.mono I.size))
      first
       |(
        guard_hyp l
        clear c y c0 m c2 R c4)
       |(
        guard_hyp W
        clear c y c0 m c2)
      have Q:=ω (bG.z (t == 0) w2 (by
       rw [al.z];by_cases D:t=0
       · rw [beq_iff_eq.2 D]; exact t7 (N5.z.1 D)
       · rw [beq_eq_false_iff_ne.2 D]; exact fQ (fun e=>D (N5.z.2 e))) J.z)
      go_wp2;go_ret2;exact Q
    · rw [List.getElem?_eq_none (by rw [C.z]; omega)] at u;have Q:=ω (bG.z false wr u k);clear u k hlt ai;go_wp2;go_ret2;exact Q)
theorem MF (s:ByteArray) (xs:List aC) (a:Nat) (w:World) (c:ζ w a 0 (.func (.func 130) #[] #[])):Compares aC.name s 215 #[π a 0] aS xs w:=by
 intro W b x u;have d:=block_lt_of_cell c;have r:=(b.cell (p:=⟨a,0,none⟩) d).trans c;have v:a<W.heap.size:=uI d b.size;have y:=enters_of Tryz.func130 (by kernel_rfl) rfl;obtain⟨t,g⟩:∃ t,ql (aC.name x) s=t:=⟨_,rfl⟩;have h:=ω (fun W=>sE (aC.name x) s W);simp only [g] at h;rw [g];obtain⟨j,l,k,n,m⟩:=x
 show ψ 215 #[.agg #[j,l,k,n,m],s,π a 0] W fun e q=>e = .returned (.int .i64 t)/\Below W W q
 clear c u g b d;go_enter Tryz.func215,Tryz.ntmps215
 go_wp2_with fail
 refine Calls.mono (kr j l k n m _) ?_;rintro e z ⟨rfl,i⟩;have o:=ω (((Below.refl W W).alloc lQ _).trans (i.mono (by simp)));clear i r
 go_wp2_with fail
 refine Calls.mono (h.z _) ?_;rintro e B ⟨rfl,rfl⟩;go_wp2;go_ret;exact⟨rfl,o⟩
theorem Kd (s:ByteArray) (xs:List av) (a:Nat) (w:World) (c:ζ w a 0 (.func (.func 133) #[] #[])):Compares av.name s 220 #[π a 0] aH xs w:=by
 intro W b x q;have d:=block_lt_of_cell c;have o:=(b.cell (p:=⟨a,0,none⟩) d).trans c;have r:a<W.heap.size:=uI d b.size;have u:=enters_of Tryz.func133 (by kernel_rfl) rfl;obtain⟨t,g⟩:∃ t,ql (av.name x) s=t:=⟨_,rfl⟩;have h:=ω (fun W=>sE (av.name x) s W);simp only [g] at h;rw [g];obtain⟨j,k,l⟩:=x
 show ψ 220 #[.agg #[j,k,l],s,π a 0] W fun e n=>e = .returned (.int .i64 t)/\Below W W n
 clear c q g b d;go_enter Tryz.func220,Tryz.ntmps220
 go_wp2_with fail
 refine Calls.mono (jc j k l _) ?_;rintro e v ⟨rfl,i⟩;have m:=ω (((Below.refl W W).alloc lQ _).trans (i.mono (by simp)));clear i o
 go_wp2_with fail
 refine Calls.mono (h.z _) ?_;rintro e y ⟨rfl,rfl⟩;go_wp2;go_ret;exact⟨rfl,m⟩
theorem II (s:ByteArray) (xs:List ak) (a:Nat) (w:World) (c:ζ w a 0 (.func (.func 136) #[] #[])):Compares ak.job s 225 #[π a 0] aB xs w:=by
 intro W b x n;have d:=block_lt_of_cell c;have m:=(b.cell (p:=⟨a,0,none⟩) d).trans c;have o:a<W.heap.size:=uI d b.size;have q:=enters_of Tryz.func136 (by kernel_rfl) rfl;obtain⟨t,g⟩:∃ t,ql (ak.job x) s=t:=⟨_,rfl⟩;have h:=ω (fun W=>sE (ak.job x) s W);simp only [g] at h;rw [g];obtain⟨job,node,j⟩:=x
 show ψ 225 #[.agg #[job,node,j],s,π a 0] W fun e l=>e = .returned (.int .i64 t)/\Below W W l
 clear c n g b d;go_enter Tryz.func225,Tryz.ntmps225
 go_wp2_with fail
 refine Calls.mono (fF job node j _) ?_;rintro e r ⟨rfl,i⟩;have k:=ω (((Below.refl W W).alloc lQ _).trans (i.mono (by simp)));clear i m
 go_wp2_with fail
 refine Calls.mono (h.z _) ?_;rintro e u ⟨rfl,rfl⟩;go_wp2;go_ret;exact⟨rfl,k⟩
def sF (a:Type) (d:Nat) (e:a->List Value) (b:a->ByteArray) (f:FuncId) (g:FuncId):Prop:=
 ∀ (s:ByteArray) (xs:List a) (A:Option Addr) (n c:Nat) (w:World) (k:bg w w d A n (au e xs)) (h:xs.length=n) (i:n<=1000) (j:cF b xs),ψ f #[.slice A n c,s,.func (.func g) #[] #[]] w (ko b xs s w)
theorem gV:sF aC 5 aS aC.name 181 130 /\ sF av 3 aH av.name 183 133 /\ sF ak 3 aB ak.job 188 136:=by
 refine⟨@fun s a A p k w g d m e=>(fun(h:Unit)=>?_) (),@fun s a A p k w g d m e=>(fun(j:Unit)=>?_) (),@fun s a A p k w g d m e=>?_⟩<;>(
 first|(guard_hyp h;have r:Tg 3:=⟨⟩;have u:Tg 4:=⟨⟩;have o:Tg 0:=⟨⟩)|(guard_hyp j;have r:Tg 5:=⟨⟩;have u:Tg 6:=⟨⟩;have o:Tg 1:=⟨⟩)|(have r:Tg 7:=⟨⟩;have u:Tg 8:=⟨⟩;have o:Tg 2:=⟨⟩)
 have b:Below w w (χ w #[.func (.func r) #[] #[]] u):=(θ).alloc lQ _
 first|(guard_hyp h;have c:ζ (χ w #[.func (.func 130) #[] #[]] 174) w 0 (.func (.func 130) #[] #[]):=?_)|(guard_hyp j;have c:ζ (χ w #[.func (.func 133) #[] #[]] 176) w 0 (.func (.func 133) #[] #[]):=?_)|have c:ζ (χ w #[.func (.func 136) #[] #[]] 183) w 0 (.func (.func 136) #[] #[]):=?_
 rotate_left
 ·rw [cell_of_row _ _ 0 _ _ _ (heap_alloc_new w _)]; rfl
 first|(guard_hyp h;have H:=ω (xA.1 s 215 #[π w 0] a A p k _ (enters_of Tryz.func215 (by kernel_rfl) rfl) ((g.below b).more b.size) d m e (MF s a _ _ c)))|(guard_hyp j;have H:=ω (xA.2.1 s 220 #[π w 0] a A p k _ (enters_of Tryz.func220 (by kernel_rfl) rfl) ((g.below b).more b.size) d m e (Kd s a _ _ c)))|have H:=ω (xA.2.2 s 225 #[π w 0] a A p k _ (enters_of Tryz.func225 (by kernel_rfl) rfl) ((g.below b).more b.size) d m e (II s a _ _ c))
 have x:=ω (fun (t:Nat) (i:Bool) (W:World) (C:eV o a s=t) (D:isL o a s=i) (q:Below w w W)=>(show ko o a s w (.returned (.tuple #[t,.bool i])) W from ⟨by rw [C,D],q⟩));unfold ko at H
 first|(guard_hyp h;obtain⟨t,n⟩:∃ t,eV aC.name a s=t:=⟨_,rfl⟩)|(guard_hyp j;obtain⟨t,n⟩:∃ t,eV av.name a s=t:=⟨_,rfl⟩)|obtain⟨t,n⟩:∃ t,eV ak.job a s=t:=⟨_,rfl⟩
 first|(guard_hyp h;obtain⟨i,l⟩:∃ i,isL aC.name a s=i:=⟨_,rfl⟩)|(guard_hyp j;obtain⟨i,l⟩:∃ i,isL av.name a s=i:=⟨_,rfl⟩)|obtain⟨i,l⟩:∃ i,isL ak.job a s=i:=⟨_,rfl⟩
 rw [n,l] at H;have B:=ω (fun W q=>x.z t i W n l q);have v:=ω b;clear b c g d e n l x
 first|(guard_hyp h;go_enter Tryz.func181,Tryz.ntmps181)|(guard_hyp j;go_enter Tryz.func183,Tryz.ntmps183)|go_enter Tryz.func188,Tryz.ntmps188
 go_wp2_with fail
 refine H.mono ?_;rintro F E ⟨rfl,y⟩;have z:=ω (B.z E (v.trans (y.mono v.size)));clear y;go_wp2;go_ret2;exact z)
end Go.Proofs.YtimglglgcgpjgabGreatDoor
