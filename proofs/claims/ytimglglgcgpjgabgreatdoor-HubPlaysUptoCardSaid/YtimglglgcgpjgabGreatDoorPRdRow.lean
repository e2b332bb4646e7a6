/- Of the proof of a statement: PlWDec, PlGone, PlApply, TextR, Rdr, RdRow, PlGood, Text, Wri, PutR. -/
import Derived.Deep.RegionWith
import Derived.Lib.AppendStr
import Derived.Test.YtimglglgcgpjgabGreatDoorPTabM
set_option linter.unusedVariables false
set_option linter.unusedSimpArgs false
set_option maxRecDepth 100000
set_option maxHeartbeats 8000000
namespace Go.Proofs.YtimglglgcgpjgabGreatDoor
open Go.Op (bytesLess)
open Go.RowKit
open Go.Lib (validD)
theorem Jk {v:Int} {s r:ByteArray} {j:aC} (h:pK v s = .ok j r):j.name.size<=16/\j.tag.size<=16:=by
 unfold pK at h
 cases b:cH s with
 | bad x=>rw [b] at h; cases h
 | ok t p=>
  rw [b,RR.bind_ok] at h
  cases c:dJ p with
  | bad x=>rw [c] at h; cases h
  | ok u q=>
   rw [c,RR.bind_ok] at h
   cases d:dJ q with
   | bad x=>rw [d] at h; cases h
   | ok y i=>
    rw [d,RR.bind_ok] at h
    cases e:(if 1<v then dJ i else .ok 0 i) with
    | bad x=>rw [e] at h; cases h
    | ok z m=>
     rw [e,RR.bind_ok] at h
     cases a:(if 2<v then cH m else .ok ⟨#[]⟩ m) with
     | bad x=>rw [a] at h; cases h
     | ok A D=>
      rw [a,RR.bind_ok] at h;injection h with n B;subst n;refine⟨pM b,?_⟩;by_cases f:2<v
      · rw [if_pos f] at a; exact pM a
      · rw [if_neg f] at a; injection a with o C; subst o; show (0:Nat)<=16; omega
theorem Ga {v:Int} {s r:ByteArray} {j:av} (h:lH v s = .ok j r):j.name.size<=16/\j.zone.size<=16:=by
 unfold lH at h
 cases b:cH s with
 | bad x=>rw [b] at h; cases h
 | ok n m=>
  rw [b,RR.bind_ok] at h
  cases c:dJ m with
  | bad x=>rw [c] at h; cases h
  | ok o e=>
   rw [c,RR.bind_ok] at h
   cases a:(if 1<v then cH e else .ok ⟨#[]⟩ e) with
   | bad x=>rw [a] at h; cases h
   | ok p u=>
    rw [a,RR.bind_ok] at h;injection h with f q;subst f;refine⟨pM b,?_⟩;by_cases d:1<v
    · rw [if_pos d] at a; exact pM a
    · rw [if_neg d] at a; injection a with i t; subst i; show (0:Nat)<=16; omega
theorem Ej {s r:ByteArray} {j:ak} (h:iL s = .ok j r):j.job.size<=16/\j.node.size<=16:=by
 unfold iL at h
 cases a:cH s with
 | bad x=>rw [a] at h; cases h
 | ok i e=>
  rw [a,RR.bind_ok] at h
  cases b:cH e with
  | bad x=>rw [b] at h; cases h
  | ok m f=>
   rw [b,RR.bind_ok] at h
   cases c:dJ f with
   | bad x=>rw [c] at h; cases h
   | ok n p=>
    rw [c,RR.bind_ok] at h;injection h with d o;subst d;exact⟨pM a,pM b⟩
def Ay (σ:RR Unit):Nat:=match σ with
 | .ok _ s=>if s.size=0 then 0 else 4
 | .bad x=>x
theorem KW {s:ByteArray} (h:s.size=0):Ay (.ok () s)=0:=by unfold Ay; simp only; rw [if_pos h]
theorem Ek {s:ByteArray} (h:s.size≠0):Ay (.ok () s)=4:=by unfold Ay; simp only; rw [if_neg h]
theorem Az {s:ByteArray} (h:s.size≠0):s.toList.isEmpty=false:=by
 have:=oQ h
 cases a:s.toList with
 | nil=>rw [a] at this; exact absurd this (by decide)
 | cons b l=>rfl
def cE (l:List ak) (s:ByteArray):Option ak:=l.find? fun x=>decide (x.job=s)
def fX (has:ByteArray->Bool):Option ByteArray->List ByteArray->Int
 | _,[]=>0
 | p,s :: l=>if cP s=true then (if before p s=true then (if has s=true then 7 else fX has (some s) l) else 8) else 4
def jI (has:ByteArray->Bool) (l:List ByteArray):Int:=fX has none l
def rW (s:ByteArray):ByteArray:=s
section
variable {has:ByteArray->Bool} {l:List ByteArray} {k:Nat} {s:ByteArray}
theorem B3 (h:l[k]? = some s) (a:cP s=false):fX has (prevK rW l k) (l.drop k)=4:=by
 rw [drop_cons h,fX,if_neg (by rw [a]; simp)]
theorem AE {y:ByteArray} (h:l[k]? = some s) (c:cP s=true) (a:k≠0) (d:l[k - 1]? = some y) (b:bytesLess y.toList s.toList=false):fX has (prevK rW l k) (l.drop k)=8:=by
 rw [drop_cons h,fX,if_pos c,if_neg];unfold prevK before;rw [if_neg a,d];simp [rW,b]
theorem zk (b:k=0\/∃ y,l[k - 1]? = some y/\bytesLess y.toList s.toList=true):before (prevK rW l k) s=true:=by
 unfold prevK before;rcases b with rfl | ⟨y,d,c⟩
 · rfl
 · by_cases a:k=0
   · rw [if_pos a]
   · rw [if_neg a,d]; exact c
theorem rI (h:l[k]? = some s) (c:cP s=true) (a:k=0\/∃ y,l[k - 1]? = some y/\bytesLess y.toList s.toList=true) (b:has s=true):fX has (prevK rW l k) (l.drop k)=7:=by
 rw [drop_cons h,fX,if_pos c,if_pos (zk a),if_pos b]
theorem lW (h:l[k]? = some s) (d:cP s=true) (b:k=0\/∃ y,l[k - 1]? = some y/\bytesLess y.toList s.toList=true) (c:has s=false) :
 fX has (prevK rW l k) (l.drop k)=fX has (prevK rW l (k+1)) (l.drop (k+1)):=by
 have a:prevK rW l (k+1)=some s:=by unfold prevK; rw [if_neg (by omega),Nat.add_sub_cancel,h]; rfl
 rw [drop_cons h,fX,if_pos d,if_pos (zk b),if_neg (by rw [c]; simp),a]
theorem D7 (h:l.length<=k) (p:Option ByteArray):fX has p (l.drop k)=0:=by
 rw [List.drop_of_length_le h]; rfl
end
def kQ (s:ByteArray):List Value:=[.string s]
theorem gE (s:ByteArray):(kQ s).length=1:=rfl
def lsE (l:ak):Int:=if cP l.job && cP l.node then (if ranged l.till 0 1099511627776 then 0 else 1) else 4
structure aY where
 from_:Int
 to_:Int
 jobs:List aC
 nodes:List av
 leases:List ak
 gj:List ByteArray
 gn:List ByteArray
 gl:List ByteArray
def jR (d:aY):Bool:=decide (d.jobs.length<=40) && decide (d.leases.length<=40) && decide (d.gj.length<=40) && decide (d.gl.length<=40) && decide (d.nodes.length<=20) && decide (d.gn.length<=20)
def lu (d:aY):Bool:=ranged d.from_ 0 1099511627776 && decide (d.from_<d.to_) && decide (d.to_<=1099511627776)
def iK:List Int->Int
 | []=>0
 | e :: l=>if e=0 then iK l else e
def Av (d:aY):List Int:=
 [cu fG aC.name d.jobs,cu dE av.name d.nodes,cu lsE ak.job d.leases,
  jI (fun s=>(cD d.jobs s).isSome) d.gj,jI (fun s=>(bU d.nodes s).isSome) d.gn,jI (fun s=>(cE d.leases s).isSome) d.gl]
def gD (d:aY):Int:=if lu d=false then 1 else if jR d=false then 2 else iK (Av d)
theorem kD {e:Int} {l:List Int} (h:e=0):iK (e :: l)=iK l:=by unfold iK; rw [if_pos h]; cases l <;> rfl
theorem ji {e:Int} {l:List Int} (h:e≠0):iK (e :: l)=e:=by unfold iK; rw [if_neg h]
def dO (a b:ByteArray):Bool:=bytesLess a.toList b.toList
theorem fE (a:ByteArray):dO a a=false:=pS _
theorem nP {a b c:ByteArray} (h:dO a b=true) (d:dO b c=true):dO a c=true:=vH _ _ _ h d
theorem rX {a b:ByteArray} (h:a.toList=b.toList):a=b:=by rw [ByteArray.toList_eq,ByteArray.toList_eq] at h; exact ByteArray.ext (Array.toList_inj.1 h)
theorem oN {a b:ByteArray} (h:dO a b=false) (e:a≠b):dO b a=true:=by
 have d:=j6 a.toList b.toList;unfold dO at h |-;rw [h] at d;rcases Bool.or_eq_true_iff.1 d.symm with c | c
 · exact c
 · exact absurd (rX (beq_iff_eq.1 c)).symm e
section
variable {α:Type} (key:α->ByteArray)
def cF (l:List α):Prop:=l.Pairwise fun a b=>dO (key a) (key b)=true
variable {key}
theorem sC:∀ {l r:List α},cF key l->cF key r->(∀ x,x ∈ l↔x ∈ r)->l=r
 | [],[],_,_,_=>rfl
 | [],c :: r,_,_,h=>absurd ((h c).2 List.mem_cons_self) List.not_mem_nil
 | b :: l,[],_,_,h=>absurd ((h b).1 List.mem_cons_self) List.not_mem_nil
 | b :: l,c :: r,m,o,h=>by
  obtain⟨f,n⟩:=List.pairwise_cons.1 m;obtain⟨i,p⟩:=List.pairwise_cons.1 o
  have j:b=c:=by
   rcases List.mem_cons.1 ((h b).1 List.mem_cons_self) with a | a
   · exact a
   · rcases List.mem_cons.1 ((h c).2 List.mem_cons_self) with e | e
     · exact e.symm
     · have:=nP (i b a) (f c e);rw [fE] at this; cases this
  subst j;refine congrArg (b :: ·) (sC n p fun x=>⟨fun d=>?_,fun d=>?_⟩)
  · rcases List.mem_cons.1 ((h x).1 (List.mem_cons_of_mem _ d)) with a | a
    · subst a;have:=f x d;rw [fE] at this; cases this
    · exact a
  · rcases List.mem_cons.1 ((h x).2 (List.mem_cons_of_mem _ d)) with a | a
    · subst a;have:=i x d;rw [fE] at this; cases this
    · exact a
theorem BH {l:List α} (h:cF key l):l.Pairwise fun a b=>key a≠key b:=
 h.imp fun {a b} hlt e=>by rw [e,fE] at hlt; cases hlt
variable (key)
def bR (x:α):Bool->List α->List α
 | d,[]=>if d then [] else [x]
 | d,y :: l=>(if !d && !dO (key y) (key x) then [x] else []) ++ (if key y≠key x then [y] else []) ++ bR x (d || !dO (key y) (key x)) l
def jE (l:List α) (x:α):List α:=bR key x false l
variable {key}
theorem lT (x z:α):∀ (l:List α) (d:Bool),z ∈ bR key x d l↔(d=false/\z=x)\/(z ∈ l/\key z≠key x)
 | [],d=>by cases d <;> simp [bR]
 | y :: l,d=>by
  rw [bR,List.mem_append,List.mem_append,lT x z l]
  have b:(z ∈ if key y≠key x then [y] else [])↔(z=y/\key z≠key x):=by
   by_cases h:key y=key x
   · rw [if_neg (by simp [h])];exact⟨fun a=>absurd a List.not_mem_nil,fun ⟨c,b⟩=>absurd (by rw [c,h]) b⟩
   · rw [if_pos h,List.mem_singleton];exact⟨fun a=>⟨a,by rw [a]; exact h⟩,fun a=>a.1⟩
  rw [b,List.mem_cons];cases d <;> cases e:dO (key y) (key x) <;> simp <;> grind
theorem zl (x:α):∀ (l:List α),cF key l->cF key (bR key x true l)
 | [],_=>List.Pairwise.nil
 | y :: l,h=>by
  obtain⟨d,e⟩:=List.pairwise_cons.1 h;have c:=zl x l e;rw [bR];simp only [Bool.not_true,Bool.false_and,Bool.false_eq_true,if_false,List.nil_append,Bool.true_or];by_cases b:key y=key x
  · rw [if_neg (by simp [b])]; exact c
  · rw [if_pos b];refine List.pairwise_cons.2 ⟨fun z f=>?_,c⟩;rcases (lT x z l true).1 f with a | a
    · cases a.1
    · exact d z a.1
theorem sorted_put (x:α):∀ (l:List α),cF key l->cF key (bR key x false l)
 | [],_=>List.pairwise_singleton _ _
 | y :: l,h=>by
  obtain⟨i,m⟩:=List.pairwise_cons.1 h
  cases b:dO (key y) (key x) with
  | true=>
   have n:key y≠key x:=fun e=>by rw [e,fE] at b; cases b
   have f:=sorted_put x l m;rw [bR,b];simp only [Bool.not_true,Bool.and_false,Bool.false_eq_true,if_false,List.nil_append,Bool.or_false,if_pos n];refine List.pairwise_cons.2 ⟨fun z c=>?_,f⟩;rcases (lT x z l false).1 c with a | a
   · rw [a.2]; exact b
   · exact i z a.1
  | false=>
   have f:=zl x (y :: l) h
   have e:bR key x false (y :: l)=x :: bR key x true (y :: l):=by
    rw [bR,bR,b];simp
   rw [e];refine List.pairwise_cons.2 ⟨fun z c=>?_,f⟩;rcases (lT x z (y :: l) true).1 c with a | a
   · cases a.1
   · rcases List.mem_cons.1 a.1 with e | c
     · subst e;exact oN b a.2
     · have d:=i z c;by_cases j:key y=key x
       · rw [j] at d; exact d
       · exact nP (oN b j) d
variable (key)
variable {key}
theorem ID {l:List α} (h:l.Pairwise fun b c=>key b≠key c) {x:α} (a:x ∈ l):l.find? (fun y=>decide (key y=key x))=some x:=by
 induction l with
 | nil=>cases a
 | cons b l i=>
  obtain⟨d,f⟩:=List.pairwise_cons.1 h;rw [List.find?_cons];by_cases e:key b=key x
  · rcases List.mem_cons.1 a with rfl | a
    · simp
    · exact absurd e (d x a)
  · rw [decide_eq_false e];rcases List.mem_cons.1 a with rfl | a
    · exact absurd rfl e
    · exact i f a
end
def iQ (s:ByteArray) (w:World) (e:Ending) (w':World):Prop:=e = .returned (.tuple #[.string (oI s).1,((oI s).2.1:Int),((oI s).2.2:Int)])/\Below w w w'
theorem iQ.mk' {s a:ByteArray} {n e:Nat} {w w':World} (h:oI s=(a,n,e)) (b:Below w w w'):iQ s w (.returned (.tuple #[a,(n:Int),(e:Int)])) w':=⟨by rw [h],b⟩
theorem Dl (s:ByteArray) (w:World) (y:s.size<=9223372036854775807) (u:Tabs w):ψ 271 #[s] w (iQ s w):=by
 obtain⟨n,k,e,i⟩:∃ n k e,rdNum s=(n,k,e):=⟨_,_,_,rfl⟩;have c:=ω (tO i w y);obtain⟨m,B,t,o⟩:=gX i;have b:=ω i;clear i;by_cases r:e=0
 · subst r;have C:=o rfl;clear o t;by_cases h:16<n
   · have a:=ω (iQ.mk' (w:=w) (w':=w) (vI b.z h) θ);go_enter Tryz.func271,Tryz.ntmps271
     go_wp2_with fail
     refine c.mono ?_;rintro x w' ⟨rfl,rfl⟩;go_wp2;refine bodyPost_ret (v:=.tuple #[.string ⟨#[]⟩,.int .i64 0,.int .i64 2]) (by simp [results,Tryz.results271,go_sem]) rfl a.z
   · by_cases q:s.size<k+n
     · have a:=ω (iQ.mk' (w:=w) (w':=w) (vJ b.z h q) θ);clear m;go_enter Tryz.func271,Tryz.ntmps271
       go_wp2_with fail
       refine c.mono ?_;rintro x w' ⟨rfl,rfl⟩;go_wp2;refine bodyPost_ret (v:=.tuple #[.string ⟨#[]⟩,.int .i64 0,.int .i64 3]) (by simp [results,Tryz.results271,go_sem]) rfl a.z
     · clear m;have d:=ω (yG (s.extract k (k+n)) w (by rw [ByteArray.size_extract]; omega) u);cases j:validD (s.extract k (k+n)).data.toList
       · have a:=ω (fun w'=>iQ.mk' (w:=w) (w':=w') (yH b.z h q j));rw [j] at d;go_enter Tryz.func271,Tryz.ntmps271
         go_wp2_with fail
         refine c.mono ?_;rintro x w' ⟨rfl,rfl⟩
         go_wp2_with fail
         refine d.mono ?_;rintro x z ⟨rfl,p⟩;go_wp2;refine bodyPost_ret (v:=.tuple #[.string ⟨#[]⟩,.int .i64 0,.int .i64 4]) (by simp [results,Tryz.results271,go_sem]) rfl (a.z _ p)
       · have a:=ω (fun w'=>iQ.mk' (w:=w) (w':=w') (Dm b.z h q j));rw [j] at d;go_enter Tryz.func271,Tryz.ntmps271
         go_wp2_with fail
         refine c.mono ?_;rintro x w' ⟨rfl,rfl⟩
         go_wp2_with fail
         refine d.mono ?_;rintro x z ⟨rfl,p⟩;go_wp2;refine bodyPost_ret (v:=.tuple #[.string (s.extract k (k+n)),.int .i64 ((k:Int)+n),.int .i64 0]) (by simp [results,Tryz.results271,go_sem]) rfl ?_;have:=a.z _ p;rw [Int.natCast_add] at this;exact this
 · have a:=ω (iQ.mk' (w:=w) (w':=w) (Br b.z r) θ);clear o m;go_enter Tryz.func271,Tryz.ntmps271
   go_wp2_with fail
   refine c.mono ?_;rintro x w' ⟨rfl,rfl⟩;go_wp2;refine bodyPost_ret (v:=.tuple #[.string ⟨#[]⟩,.int .i64 0,.int .i64 (e:Int)]) (by simp [results,Tryz.results271,go_sem]) rfl a.z
def rF (w:World) (g:Nat) (s:ByteArray) (e:Nat):Prop:=Blk w g 149 #[s,(e:Int)]
def RxS (w:World) (g:Nat) (σ:RR Unit):Prop:=match σ with
 | .ok _ s=>rF w g s 0
 | .bad e=>∃ s,s.size<=9223372036854775807/\rF w g s e
def Ax:Nat:=9223372036854775807
def Dn {α:Type} (g:Nat) (res:RR α) (enc:α->Value) (Z:α->Prop) (w:World) (e:Ending) (w':World):Prop:=
 ∃ a,e = .returned (enc a)/\mV res Z a/\RxS w' g res.st/\w.grownBy w' (some g)
theorem bP (w:World) (g:Nat):w.grownBy w (some g):=⟨rfl,rfl,rfl,lQ,fun _ _ _=>rfl⟩
theorem aP {w w' w'':World} {g:Nat} (h:w.grownBy w' (some g)) (a:w'.grownBy w'' (some g)):w.grownBy w'' (some g):=
 ⟨a.os.trans h.os,a.tape.trans h.tape,a.output.trans h.output,v6 h.size a.size,fun k b c=>(a.block k (uI b h.size) c).trans (h.block k b c)⟩
theorem fU {w w':World} (g:Nat) (h:Below w w w'):w.grownBy w' (some g):=⟨h.os,h.tape,h.output,h.size,fun k a _=>h.block k a⟩
theorem ay {w w':World} {g k:Nat} {t:TypeId} {cs:Array Value} (h:w.grownBy w' (some g)) (a:Blk w k t cs) (b:k≠g):Blk w' k t cs:=
 (h.block k a.lt (by simp; exact b)).trans a
theorem rF.set {w:World} {g:Nat} {s:ByteArray} {e:Nat} (h:rF w g s e) (a:ByteArray):rF (sQ w g 0 (.string a)) g a e:=Blk.eq (Blk.set h 0 _) (by simp)
theorem rF.err {w:World} {g:Nat} {s:ByteArray} {e:Nat} (h:rF w g s e) (a:Nat):rF (sQ w g 1 (.int .i64 (a:Int))) g s a:=Blk.eq (Blk.set h 1 _) (by simp)
theorem aQ (w:World) (g i:Nat) (v:Value):w.grownBy (sQ w g i v) (some g):=aK (bP w g) i v
theorem CW (g:Nat) (s:ByteArray) (e x:Nat) (w:World) (h:rF w g s x) :
 ψ 141 #[π g 0,(e:Int)] w fun d w'=>d = .returned (.tuple #[])/\rF w' g s (if x=0 then e else x)/\w.grownBy w' (some g):=by
 have m:ζ w g 1 (.int .i64 (x:Int)):=Blk.cell h 1;have n:κ w g 1:=Blk.thaw h 1;have i:=Blk.lt h;obtain⟨c,a⟩:∃ c,(if x=0 then e else x)=c:=⟨_,rfl⟩;rw [a];by_cases b:x=0
 · subst b;rw [if_pos rfl] at a;subst a;have H:=ω (h.err e);clear h;go_enter Tryz.func141,Tryz.ntmps141;go_wp2;go_end0;exact⟨rfl,H,aQ _ _ _ _⟩
 · have j:((x:Int) == 0)=false:=by rw [beq_eq_false_iff_ne]; omega
   rw [if_neg b] at a;subst a;have H:=ω h;clear h b;go_enter Tryz.func141,Tryz.ntmps141;go_wp2;go_end0;exact⟨rfl,H,bP _ _⟩
theorem E9 (g:Nat) (σ:RR Unit) (w:World) (h:RxS w g σ) (u:σ.Good Ax) :
 ψ 140 #[π g 0] w (Dn g (σ.bind fun _ s=>dJ s) (fun q:Nat=>.int .u64 q) (fun q=>q=0) w):=by
 cases σ with
 | bad x=>
  obtain⟨s,d,a⟩:=h;have D:ζ w g 1 (.int .i64 (x:Int)):=Blk.cell a 1;have C:((x:Int) != 0)=true:=by rw [bne_iff_ne]; have:=u.1; omega
  have y:=ω a;clear a;go_enter Tryz.func140,Tryz.ntmps140;go_wp2;go_ret;exact⟨0,rfl,rfl,⟨s,d,y⟩,bP _ _⟩
 | ok G s=>
  have a:rF w g s 0:=h;have d:s.size<=9223372036854775807:=u;have H:ζ w g 0 (.string s):=Blk.cell a 0;have D:ζ w g 1 (.int .i64 0):=Blk.cell a 1;have I:κ w g 0:=Blk.thaw a 0;rcases b:rdNum s with ⟨i,k,e⟩;have B:=gX b;have m:=ω a;have n:=ω (tO b w d);by_cases r:e=0
  · subst r;have E:=(B.2.2.2 rfl).2;by_cases t:4611686018427387904<i
    · have c:=ω (vK b t);have z:decide ((4611686018427387904:Int)<(i:Int))=true:=t7 (by omega);clear a h b;go_enter Tryz.func140,Tryz.ntmps140
      go_wp2_with fail
      refine n.mono ?_;rintro e j ⟨rfl,rfl⟩
      go_wp2_with fail
      refine Calls.mono (CW g s 2 0 _ m.z) ?_;rintro e j ⟨rfl,o,p⟩;go_wp2;go_ret;exact⟨0,rfl,by rw [RR.bind_ok,c.z]; rfl,by rw [RR.bind_ok,c.z]; exact⟨s,d,o⟩,p⟩
    · have c:=ω (Dp b t);have z:decide ((4611686018427387904:Int)<(i:Int))=false:=fQ (by omega);clear a h b;go_enter Tryz.func140,Tryz.ntmps140
      go_wp2_with fail
      refine n.mono ?_;rintro e j ⟨rfl,rfl⟩;go_wp2;go_ret;exact⟨i,rfl,by rw [RR.bind_ok,c.z]; rfl,by rw [RR.bind_ok,c.z]; exact m.set _,aQ _ _ _ _⟩
  · have c:=ω (Bs b r);have C:((e:Int) == 0)=false:=by rw [beq_eq_false_iff_ne]; omega
    have F:((e:Int) != 0)=true:=by rw [bne_iff_ne]; omega
    clear a h b;go_enter Tryz.func140,Tryz.ntmps140
    go_wp2_with fail
    refine n.mono ?_;rintro v j ⟨rfl,rfl⟩
    go_wp2_with fail
    refine Calls.mono (CW g s e 0 _ m.z) ?_;rintro v j ⟨rfl,o,p⟩;go_wp2;go_ret;exact⟨0,rfl,by rw [RR.bind_ok,c.z]; rfl,by rw [RR.bind_ok,c.z]; exact⟨s,d,o⟩,p⟩
theorem Fa {σ:RR Unit} {a:Nat} (h:mV (σ.bind fun _ s=>dJ s) (fun n=>n=0) a):a<=4611686018427387904:=by
 cases σ with
 | bad x=>rw [RR.fR] at h; have h:a=0:=h; omega
 | ok u s=>
  rw [RR.bind_ok] at h
  cases b:dJ s with
  | bad x=>rw [b] at h; have h:a=0:=h; omega
  | ok c r=>rw [b] at h; have h:a=c:=h; have:=uj b; omega
theorem Ma (g:Nat) (σ:RR Unit) (w:World) (h:RxS w g σ) (i:σ.Good Ax) :
 ψ 72 #[π g 0] w (Dn g (σ.bind fun _ s=>dJ s) (fun n:Nat=>.int .i64 n) (fun n=>n=0) w):=by
 have H:=ω (E9 g σ w h i);clear h;go_enter Tryz.func72,Tryz.ntmps72
 go_wp2_with fail
 refine H.mono ?_;rintro j o ⟨c,rfl,a,e,d⟩;have m:=Fa a;have b:=ω a;clear a;go_wp2;go_ret;exact⟨c,rfl,b,e,d⟩
theorem Mb (g:Nat) (σ:RR Unit) (w:World) (h:RxS w g σ) (j:σ.Good Ax) :
 ψ 270 #[π g 0] w (Dn g (σ.bind fun _ s=>dJ s) (fun n:Nat=>.int .i64 (lA n)) (fun n=>n=0) w):=by
 have H:=ω (E9 g σ w h j);clear h;go_enter Tryz.func270,Tryz.ntmps270
 go_wp2_with fail
 refine H.mono ?_;rintro e m ⟨b,rfl,a,i,d⟩;have o:=Fa a;have c:=ω a;clear a
 go_wp2_with fail
 refine Calls.mono (NE (b:Int) (by omega) (by omega) m) ?_;rintro e p ⟨rfl,rfl⟩;go_wp2;go_ret;exact⟨b,rfl,c,i,d⟩
theorem PF (g:Nat) (σ:RR Unit) (w:World) (q:RxS w g σ) (z:σ.Good Ax) (x:Tabs w) :
 ψ 269 #[π g 0] w (Dn g (σ.bind fun _ s=>cH s) (fun t=>.string t) (fun t=>t=⟨#[]⟩) w):=by
 cases σ with
 | bad B=>
  obtain⟨s,n,a⟩:=q;have u:ζ w g 1 (.int .i64 (B:Int)):=Blk.cell a 1;have J:((B:Int) != 0)=true:=by rw [bne_iff_ne]; have:=z.1; omega
  have E:=ω a;clear a;go_enter Tryz.func269,Tryz.ntmps269;go_wp2;go_ret;exact⟨⟨#[]⟩,rfl,rfl,⟨s,n,E⟩,bP _ _⟩
 | ok L s=>
  have a:rF w g s 0:=q;have n:s.size<=9223372036854775807:=z;have C:ζ w g 0 (.string s):=Blk.cell a 0;have u:ζ w g 1 (.int .i64 0):=Blk.cell a 1;have H:=Blk.lt a;rcases d:oI s with ⟨t,k,j⟩;have r:=rQ d;have i:=ω a;have m:=Dl s w n x;unfold iQ at m;rw [d] at m;have v:=ω m;clear m x q;by_cases y:j=0
  · subst y;have I:=r.2.2 rfl;have e:=ω (wX d);clear a d r;go_enter Tryz.func269,Tryz.ntmps269
    go_wp2_with fail
    refine v.mono ?_;rintro j h ⟨rfl,c⟩;have b:rF h g s 0:=Blk.below i.z c i.lt;have N:ζ h g 0 (.string s):=Blk.cell b 0;have O:κ h g 0:=Blk.thaw b 0;have o:=ω b;have p:=ω c;clear b c C u;go_wp2;go_ret;exact⟨t,rfl,by rw [RR.bind_ok,e.z]; rfl,by rw [RR.bind_ok,e.z]; exact o.set _,aP (fU g p.z) (aQ _ _ _ _)⟩
  · have e:=ω (um d y);have K:((j:Int) != 0)=true:=by rw [bne_iff_ne]; omega
    clear a d r;go_enter Tryz.func269,Tryz.ntmps269
    go_wp2_with fail
    refine v.mono ?_;rintro D h ⟨rfl,c⟩;have b:rF h g s 0:=Blk.below i.z c i.lt;have o:=ω b;have p:=ω c;clear b c C u
    go_wp2_with fail
    refine Calls.mono (CW g s j 0 _ o.z) ?_;rintro D M ⟨rfl,F,G⟩;go_wp2;go_ret;exact⟨⟨#[]⟩,rfl,by rw [RR.bind_ok,e.z]; rfl,by rw [RR.bind_ok,e.z]; exact⟨s,n,F⟩,aP (fU g p.z) G⟩
theorem Tabs.grow {w w':World} {b:Nat} (h:Tabs w) (m:ren.g 3≠b) (e:ren.g 4≠b) (n:w.grownBy w' (some b)):Tabs w':=by
 have cell:∀ {a:Addr} {v:Value},a.block≠b->w.cell? a=some v->w'.cell? a=some v:=fun {a v} o c=>by
  have hlt:a.block<w.heap.size:=by
   rcases Nat.lt_or_ge a.block w with d | d
   · exact d
   · simp [World.cell?,Array.getElem?_eq_none d] at c
  have:=n.block a.block hlt (by simp; exact o);rw [<- c];unfold World.cell?;rw [this]
 exact⟨fun j c=>cell m (h.1 j c),fun i f=>⟨cell e (h.2 i f).1,cell e (h.2 i f).2⟩⟩
theorem Tabs.lts {w:World} (h:Tabs w):ren.g 3<w.heap.size/\ren.g 4<w.heap.size:=by
 have lt:∀ {a:Addr} {v:Value},w.cell? a=some v->a.block<w.heap.size:=fun {a v} c=>by
  rcases Nat.lt_or_ge a.block w with b | b
  · exact b
  · simp [World.cell?,Array.getElem?_eq_none b] at c
 exact⟨lt (h.1 0 (by decide)),lt (h.2 0 (by decide)).1⟩
theorem RxS.grow {w w':World} {g b:Nat} {σ:RR Unit} (h:RxS w g σ) (a:w.grownBy w' (some b)) (c:g≠b):RxS w' g σ:=by
 cases σ with
 | ok u s=>exact ay a h c
 | bad x=>obtain⟨s,d,e⟩:=h; exact⟨s,d,ay a e c⟩
theorem RxS.lt {w:World} {g:Nat} {σ:RR Unit} (h:RxS w g σ):g<w.heap.size:=by
 cases σ with
 | ok u s=>exact Blk.lt h
 | bad x=>obtain⟨s,b,a⟩:=h; exact Blk.lt a
structure j5 (w:World) (g:Nat) (σ:RR Unit):Prop where
 at_:RxS w g σ
 good:σ.Good Ax
 tabs:Tabs w
 n3:ren.g 3<g
 n4:ren.g 4<g
theorem j5.next {w w':World} {g:Nat} {σ σ':RR Unit} (h:j5 w g σ) (c:RxS w' g σ') (b:σ'.Good Ax) (a:w.grownBy w' (some g)):j5 w' g σ':=
 ⟨c,b,h.tabs.grow (Nat.ne_of_lt h.n3) (Nat.ne_of_lt h.n4) a,h.n3,h.n4⟩
theorem j5.grow {w w':World} {g b:Nat} {σ:RR Unit} (h:j5 w g σ) (a:w.grownBy w' (some b)) (c:g<b):j5 w' g σ:=
 ⟨h.at_.grow a (Nat.ne_of_lt c),h.good,h.tabs.grow (by have:=h.n3; omega) (by have:=h.n4; omega) a,h.n3,h.n4⟩
theorem j5.alloc {w:World} {g:Nat} {σ:RR Unit} (h:j5 w g σ) (o:Obj):j5 (w.alloc o) g σ:=
 h.grow (b:=w.heap.size) (fU _ ((θ).alloc lQ _)) h.at_.lt
theorem j5.set {w:World} {g:Nat} {σ:RR Unit} (h:j5 w g σ) (b i:Nat) (v:Value) (a:g<b):j5 (sQ w b i v) g σ:=
 h.grow (aQ w b i v) a
def oH {α:Type} (g:Nat) (res:RR α) (enc:α->Value) (Z:α->Prop) (w:World) (e:Ending) (w':World):Prop:=
 ∃ a,e = .returned (enc a)/\mV res Z a/\j5 w' g res.st/\w.grownBy w' (some g)
theorem Dq {α:Type} {N:Nat} {σ:RR Unit} {p:ByteArray->RR α} (h:σ.Good N) (a:∀ s,s.size<=N->(p s).Good N):(σ.bind fun _ s=>p s).st.Good N:=
 (h.bind fun _ r b=>a r b).st
theorem qR (g:Nat) (σ:RR Unit) (w:World) (h:j5 w g σ) :
 ψ 72 #[π g 0] w (oH g (σ.bind fun _ s=>dJ s) (fun n:Nat=>.int .i64 n) (fun n=>n=0) w):=by
 refine Calls.mono (Ma g σ w h.at_ h.good) ?_;rintro i w' ⟨b,c,e,d,a⟩;exact⟨b,c,e,h.next d (Dq h.good fun _=>jN) a,a⟩
theorem Mc (g:Nat) (σ:RR Unit) (w:World) (h:j5 w g σ) :
 ψ 270 #[π g 0] w (oH g (σ.bind fun _ s=>dJ s) (fun n:Nat=>.int .i64 (lA n)) (fun n=>n=0) w):=by
 refine Calls.mono (Mb g σ w h.at_ h.good) ?_;rintro i w' ⟨b,c,e,d,a⟩;exact⟨b,c,e,h.next d (Dq h.good fun _=>jN) a,a⟩
theorem vL (g:Nat) (σ:RR Unit) (w:World) (h:j5 w g σ) :
 ψ 269 #[π g 0] w (oH g (σ.bind fun _ s=>cH s) (fun t=>.string t) (fun t=>t=⟨#[]⟩) w):=by
 refine Calls.mono (PF g σ w h.at_ h.good h.tabs) ?_;rintro i w' ⟨b,c,e,d,a⟩;exact⟨b,c,e,h.next d (Dq h.good fun _=>kG) a,a⟩
theorem vM {w w' w'':World} {g b:Nat} (h:w.grownBy w' (some g)) (a:w'.grownBy w'' (some b)) (e:w.heap.size<=b):w.grownBy w'' (some g):=
 ⟨a.os.trans h.os,a.tape.trans h.tape,a.output.trans h.output,v6 h.size a.size,fun k c d=>(a.block k (uI c h.size) (by simp; omega)).trans (h.block k c d)⟩
structure RGo (w0 w:World) (g:Nat) (σ:RR Unit) (R:Nat) (t:TypeId) (cs:Array Value):Prop where
 ok:j5 w g σ
 keep:w0.grownBy w (some g)
 blk:Blk w R t cs
 gt:g<R
 new:w0.heap.size<=R
theorem RGo.start {w:World} {g:Nat} {σ:RR Unit} (h:j5 w g σ) (t:TypeId) (cs:Array Value):RGo w (χ w cs t) g σ w t cs:=
 ⟨h.alloc _,fU _ ((θ).alloc lQ _),n5 w _,h.at_.lt,lQ⟩
theorem RGo.next {w0 w w':World} {g R:Nat} {σ σ':RR Unit} {t:TypeId} {cs:Array Value} (h:RGo w0 w g σ R t cs) (b:j5 w' g σ') (a:w.grownBy w' (some g)):RGo w0 w' g σ' R t cs:=
 ⟨b,aP h.keep a,ay a h.blk (Nat.ne_of_gt h.gt),h.gt,h.new⟩
theorem RGo.alloc {w0 w:World} {g R:Nat} {σ:RR Unit} {t:TypeId} {cs:Array Value} (h:RGo w0 w g σ R t cs) (o:Obj):RGo w0 (w.alloc o) g σ R t cs:=
 ⟨h.ok.alloc _,aP h.keep (fU _ ((θ).alloc lQ _)),h.blk.alloc _,h.gt,h.new⟩
theorem RGo.set {w0 w:World} {g R:Nat} {σ:RR Unit} {t:TypeId} {cs:Array Value} (h:RGo w0 w g σ R t cs) (i:Nat) (v:Value):RGo w0 (sQ w R i v) g σ R t (cs.setIfInBounds i v):=
 ⟨h.ok.set _ _ _ h.gt,vM h.keep (aQ _ _ _ _) h.new,h.blk.set i v,h.gt,h.new⟩
theorem RGo.other {w0 w:World} {g R a:Nat} {σ:RR Unit} {t e:TypeId} {cs c:Array Value} (h:RGo w0 w g σ R t cs) (b:RGo w0 w g σ a e c) (d:R≠a) (i:Nat) (v:Value):RGo w0 (sQ w a i v) g σ R t cs:=
 ⟨h.ok.set _ _ _ b.gt,vM h.keep (aQ _ _ _ _) b.new,ay (aQ _ _ _ _) h.blk d,h.gt,h.new⟩
theorem rR :
 (∀ {σ:RR Unit} {v:Int} (d:1<v) (u:2<v) {name:ByteArray} {prio:Nat} {need:Nat} {tries:Nat} {tag:ByteArray} (c:mV (σ.bind fun _ s=>cH s) (fun x=>x=⟨#[]⟩) name) (a:mV ((σ.bind fun _ s=>cH s).st.bind fun _ s=>dJ s) (fun x=>x=0) prio) (b:mV (((σ.bind fun _ s=>cH s).st.bind fun _ s=>dJ s).st.bind fun _ s=>dJ s) (fun x=>x=0) need) (r:mV ((((σ.bind fun _ s=>cH s).st.bind fun _ s=>dJ s).st.bind fun _ s=>dJ s).st.bind fun _ s=>dJ s) (fun x=>x=0) tries) (t:mV (((((σ.bind fun _ s=>cH s).st.bind fun _ s=>dJ s).st.bind fun _ s=>dJ s).st.bind fun _ s=>dJ s).st.bind fun _ s=>cH s) (fun x=>x=⟨#[]⟩) tag),mV (σ.bind fun _ s=>pK v s) (fun _=>True) (⟨name,lA prio,need,tries,tag⟩:aC)/\(σ.bind fun _ s=>pK v s).st=(((((σ.bind fun _ s=>cH s).st.bind fun _ s=>dJ s).st.bind fun _ s=>dJ s).st.bind fun _ s=>dJ s).st.bind fun _ s=>cH s).st) /\
 (∀ {σ:RR Unit} {v:Int} (d:1<v) {name:ByteArray} {room:Nat} {zone:ByteArray} (c:mV (σ.bind fun _ s=>cH s) (fun x=>x=⟨#[]⟩) name) (a:mV ((σ.bind fun _ s=>cH s).st.bind fun _ s=>dJ s) (fun x=>x=0) room) (b:mV (((σ.bind fun _ s=>cH s).st.bind fun _ s=>dJ s).st.bind fun _ s=>cH s) (fun x=>x=⟨#[]⟩) zone),mV (σ.bind fun _ s=>lH v s) (fun _=>True) (⟨name,room,zone⟩:av)/\(σ.bind fun _ s=>lH v s).st=(((σ.bind fun _ s=>cH s).st.bind fun _ s=>dJ s).st.bind fun _ s=>cH s).st) /\
 (∀ {σ:RR Unit} {job:ByteArray} {node:ByteArray} {till:Nat} (c:mV (σ.bind fun _ s=>cH s) (fun x=>x=⟨#[]⟩) job) (a:mV ((σ.bind fun _ s=>cH s).st.bind fun _ s=>cH s) (fun x=>x=⟨#[]⟩) node) (b:mV (((σ.bind fun _ s=>cH s).st.bind fun _ s=>cH s).st.bind fun _ s=>dJ s) (fun x=>x=0) till),mV (σ.bind fun _ s=>iL s) (fun _=>True) (⟨job,node,till⟩:ak)/\(σ.bind fun _ s=>iL s).st=(((σ.bind fun _ s=>cH s).st.bind fun _ s=>cH s).st.bind fun _ s=>dJ s).st):=by
 refine⟨@fun σ v d u name prio need tries tag c a b r t=>(fun(e:Unit)=>?_) (),@fun σ v d name room zone c a b=>(fun(f:Unit)=>?_) (),@fun σ job node till c a b=>(fun(y:Unit)=>?_) ()⟩<;>(
 cases σ with
 | bad x=>exact⟨trivial,rfl⟩
 | ok K s=>
  first|(guard_hyp e;unfold pK)|(guard_hyp f;unfold lH)|unfold iL
  first
   |(
    guard_hyp e
    simp only [if_pos d]; simp only [if_pos u])
   |(
    guard_hyp f
    simp only [if_pos d])
   |skip
  simp only [RR.bind_ok] at *;rcases z:cH s with ⟨q,C⟩ | x;rotate_left
  · simp only [z,RR.st,RR.fR,RR.bind_ok] at *; first | exact⟨trivial,rfl⟩ | exact⟨trivial,trivial⟩
  simp only [z,RR.st,RR.bind_ok] at *
  first|(guard_hyp y;have E:job=q:=c)|have E:name=q:=c
  subst E
  first|(guard_hyp y;rcases j:cH C with ⟨h,n⟩ | x)|rcases j:dJ C with ⟨h,n⟩ | x
  rotate_left
  · simp only [j,RR.st,RR.fR,RR.bind_ok] at *; first | exact⟨trivial,rfl⟩ | exact⟨trivial,trivial⟩
  simp only [j,RR.st,RR.bind_ok] at *
  first|(guard_hyp e;have o:prio=h:=a)|(guard_hyp f;have o:room=h:=a)|have o:node=h:=a
  subst o
  first|(guard_hyp f;rcases m:cH n with ⟨i,D⟩ | x)|rcases m:dJ n with ⟨i,D⟩ | x
  rotate_left
  · simp only [m,RR.st,RR.fR,RR.bind_ok] at *; first | exact⟨trivial,rfl⟩ | exact⟨trivial,trivial⟩
  simp only [m,RR.st,RR.bind_ok] at *
  first|(guard_hyp e;have p:need=i:=b)|(guard_hyp f;have p:zone=i:=b)|have p:till=i:=b
  subst p
  first
   |(
    guard_hyp e
    rcases A:dJ D with ⟨F,H⟩ | x;rotate_left
    · simp only [A,RR.st,RR.fR,RR.bind_ok] at *; first | exact⟨trivial,rfl⟩ | exact⟨trivial,trivial⟩
    simp only [A,RR.st,RR.bind_ok] at *;have I:tries=F:=r;subst I;rcases B:cH H with ⟨G,r4⟩ | x;rotate_left
    · simp only [B,RR.st,RR.fR,RR.bind_ok] at *; first | exact⟨trivial,rfl⟩ | exact⟨trivial,trivial⟩
    simp only [B,RR.st,RR.bind_ok] at *;have J:tag=G:=t;subst J)
   |skip
  first | exact⟨rfl,rfl⟩ | exact⟨rfl,trivial⟩)
theorem NF (g:Nat) (σ:RR Unit) (v:Int) (w:World) (z:1<v) (B:2<v) (y:j5 w g σ) :
 ψ 268 #[π g 0,v] w (oH g (σ.bind fun _ s=>pK v s) (fun ad:aC=>.agg (aS ad).toArray) (fun _=>True) w):=by
 have d1:decide (1<v)=true:=t7 z;have d2:decide (2<v)=true:=t7 B;have H:=ω (fun c e d i h=>rR.1 (σ:=σ) (v:=v) z B (name:=c) (prio:=e) (need:=d) (tries:=i) (tag:=h));have q:=ω (RGo.start y 86 #[.string ⟨#[]⟩,(0:Int),(0:Int),(0:Int),.string ⟨#[]⟩]);have ac:=y.at_.lt;clear y z B;go_enter Tryz.func268,Tryz.ntmps268
 go_wp2_with fail
 refine Calls.mono (vL g _ _ q.ok) ?_;rintro p w1 ⟨c,rfl,W,ok0,S⟩;have L:=ω W;have r:=ω (q.next ok0 S);clear W ok0 S q
 go_wp2_with fail
 refine Calls.mono (Mc g _ _ r.ok) ?_;rintro p w2 ⟨e,rfl,X,ok1,T⟩;have M:=ω X;have u:=ω (r.next ok1 T);clear X ok1 T r
 go_wp2_with fail
 refine Calls.mono (qR g _ _ u.ok) ?_;rintro p n ⟨d,rfl,Y,V,U⟩;have N:=ω Y;have j:=ω (u.next V U);clear Y V U u;have o:=ω (show RGo w (χ n #[c,(lA ((e:Nat):Int)),((d:Nat):Int),(0:Int),.string ⟨#[]⟩] 86) g _ n 86 _ from ⟨j.ok.alloc _,(j.alloc _).keep,n5 n _,uI ac j.keep.size,j.keep.size⟩);have I:=ω (j.alloc (.cells #[c,(lA ((e:Nat):Int)),((d:Nat):Int),(0:Int),.string ⟨#[]⟩] 86));have C:w.heap.size≠n.heap.size:=Nat.ne_of_lt j.blk.lt;clear j;generalize R:n.heap.size=J at o C;have HJ:=ω R;clear R
 go_wp2_with fail
 rw [HJ.z];refine Calls.mono (qR g _ _ o.ok) ?_;rintro p w4 ⟨i,rfl,Z,F,D⟩;have O:=ω Z;have a:=o.next F D;have b:=I.next F D;have z3:κ w4 J 3:=a.blk.thaw 3;have x3:ζ w4 J 3 (.int .i64 0):=a.blk.cell 3;have x:=ω (a.set 3 (.int .i64 ((i:Nat):Int)));have K:=ω (b.other a C 3 (.int .i64 ((i:Nat):Int)));clear a b Z F D o I
 go_wp2_with fail
 refine Calls.mono (vL g _ _ x.ok) ?_;rintro p m ⟨h,rfl,v4,G,E⟩;have P:=ω v4;have a:=x.next G E;have b:=K.next G E;have z4:κ m J 4:=a.blk.thaw 4;have x4:ζ m J 4 (.string ⟨#[]⟩):=a.blk.cell 4;have J5:=ω (a.set 4 (.string h));have K5:=ω (b.other a C 4 (.string h));obtain⟨y0,y1,y2,y3⟩:=Blk.c4 (a.blk);have u0:κ m w 0:=b.blk.thaw 0;have u1:κ m w 1:=b.blk.thaw 1;have u2:κ m w 2:=b.blk.thaw 2;have u3:κ m w 3:=b.blk.thaw 3;have u4:κ m w 4:=b.blk.thaw 4;obtain⟨s0,s1,s2,s3,s4⟩:=Blk.c5 (b.blk);clear a b v4 G E x K;have Q:=(((((K5.set 0 (.string c)).set 1 (.int .i64 (lA ((e:Nat):Int)))).set 2 (.int .i64 ((d:Nat):Int))).set 3 (.int .i64 ((i:Nat):Int))).set 4 (.string h));have q0:=(show _=(some (.string c):Option Value) from Q.blk.cell 0);have q1:=(show _=(some (.int .i64 (lA ((e:Nat):Int))):Option Value) from Q.blk.cell 1);have q2:=(show _=(some (.int .i64 ((d:Nat):Int)):Option Value) from Q.blk.cell 2);have q3:=(show _=(some (.int .i64 ((i:Nat):Int)):Option Value) from Q.blk.cell 3);have q4:=(show _=(some (.string h):Option Value) from Q.blk.cell 4);have ab:=ω Q.ok;have aa:=ω Q.keep;clear Q;go_wp2;refine bodyPost_ret (v:=.agg #[.string c,.int .i64 (lA ((e:Nat):Int)),.int .i64 ((d:Nat):Int),.int .i64 ((i:Nat):Int),.string h]) (by simp [results,Tryz.results268,go_sem, *]) rfl ?_;exact⟨⟨c,lA e,d,i,h⟩,rfl,(H.z c e d i h L.z M.z N.z O.z P.z).1,by rw [(H.z c e d i h L.z M.z N.z O.z P.z).2]; exact ab.z,aa⟩
theorem Md (g:Nat) (σ:RR Unit) (v:Int) (w:World) (q:1<v) (p:j5 w g σ) :
 ψ 277 #[π g 0,v] w (oH g (σ.bind fun _ s=>lH v s) (fun S:av=>.agg (aH S).toArray) (fun _=>True) w):=by
 have U:decide (1<v)=true:=t7 q;have x:=ω (fun a b c=>rR.2.1 (σ:=σ) (v:=v) q (name:=a) (room:=b) (zone:=c));have n:=ω (RGo.start p 81 #[.string ⟨#[]⟩,(0:Int),.string ⟨#[]⟩]);have R:=p.at_.lt;clear p q;go_enter Tryz.func277,Tryz.ntmps277
 go_wp2_with fail
 refine Calls.mono (vL g _ _ n.ok) ?_;rintro D w1 ⟨a,rfl,I,ok0,G⟩;have z:=ω I;have o:=ω (n.next ok0 G);clear I ok0 G n
 go_wp2_with fail
 refine Calls.mono (qR g _ _ o.ok) ?_;rintro D j ⟨b,rfl,K,ok1,H⟩;have B:=ω K;have h:=ω (o.next ok1 H);clear K ok1 H o;have m:=ω (show RGo w (χ j #[a,((b:Nat):Int),.string ⟨#[]⟩] 81) g _ j 81 _ from ⟨h.ok.alloc _,(h.alloc _).keep,n5 j _,uI R h.keep.size,h.keep.size⟩);have y:=ω (h.alloc (.cells #[a,((b:Nat):Int),.string ⟨#[]⟩] 81));have F:w.heap.size≠j.heap.size:=Nat.ne_of_lt h.blk.lt;clear h;generalize E:j.heap.size=J at m F;have M:=ω E;clear E
 go_wp2_with fail
 rw [M.z];refine Calls.mono (vL g _ _ m.ok) ?_;rintro D e ⟨c,rfl,L,u,r⟩;have C:=ω L;have i:=m.next u r;have d:=y.next u r;have z2:κ e J 2:=i.blk.thaw 2;have x2:ζ e J 2 (.string ⟨#[]⟩):=i.blk.cell 2;have T:=ω (i.set 2 (.string c));have P:=ω (d.other i F 2 (.string c));obtain⟨y0,y1⟩:=Blk.c2 (i.blk);have u0:κ e w 0:=d.blk.thaw 0;have u1:κ e w 1:=d.blk.thaw 1;have u2:κ e w 2:=d.blk.thaw 2;have Y:ζ e w 0 (.string ⟨#[]⟩):=d.blk.cell 0;have Z:ζ e w 1 (.int .i64 0):=d.blk.cell 1;have s2:ζ e w 2 (.string ⟨#[]⟩):=d.blk.cell 2;clear i d L u r m y;have Q:=(((P.set 0 (.string a)).set 1 (.int .i64 ((b:Nat):Int))).set 2 (.string c));have V:=(show _=(some (.string a):Option Value) from Q.blk.cell 0);have W:=(show _=(some (.int .i64 ((b:Nat):Int)):Option Value) from Q.blk.cell 1);have X:=(show _=(some (.string c):Option Value) from Q.blk.cell 2);have O:=ω Q.ok;have N:=ω Q.keep;clear Q;go_wp2;refine bodyPost_ret (v:=.agg #[.string a,.int .i64 ((b:Nat):Int),.string c]) (by simp [results,Tryz.results277,go_sem, *]) rfl ?_;exact⟨⟨a,b,c⟩,rfl,(x.z a b c z.z B.z C.z).1,by rw [(x.z a b c z.z B.z C.z).2]; exact O.z,N⟩
theorem NG (g:Nat) (σ:RR Unit) (w:World) (i:j5 w g σ) :
 ψ 282 #[π g 0] w (oH g (σ.bind fun _ s=>iL s) (fun E:ak=>.agg (aB E).toArray) (fun _=>True) w):=by
 have j:=ω (fun job node b=>rR.2.2 (σ:=σ) (job:=job) (node:=node) (till:=b));have d:=ω (RGo.start i 77 #[.string ⟨#[]⟩,.string ⟨#[]⟩,(0:Int)]);have G:=i.at_.lt;clear i;go_enter Tryz.func282,Tryz.ntmps282
 go_wp2_with fail
 refine Calls.mono (vL g _ _ d.ok) ?_;rintro p N ⟨job,rfl,y,ok0,q⟩;have m:=ω y;have e:=ω (d.next ok0 q);clear y ok0 q d
 go_wp2_with fail
 refine Calls.mono (vL g _ _ e.ok) ?_;rintro p O ⟨node,rfl,z,ok1,r⟩;have n:=ω z;have h:=ω (e.next ok1 r);clear z ok1 r e
 go_wp2_with fail
 refine Calls.mono (qR g _ _ h.ok) ?_;rintro p c ⟨b,rfl,B,x,u⟩;have o:=ω B;have a:=ω (h.next x u);clear B x u h;have u0:κ c w 0:=a.blk.thaw 0;have u1:κ c w 1:=a.blk.thaw 1;have u2:κ c w 2:=a.blk.thaw 2;have K:ζ c w 0 (.string ⟨#[]⟩):=a.blk.cell 0;have L:ζ c w 1 (.string ⟨#[]⟩):=a.blk.cell 1;have M:ζ c w 2 (.int .i64 0):=a.blk.cell 2;have F:w.heap.size<c.heap.size:=a.blk.lt;have Q:=(((a.set 0 (.string job)).set 1 (.string node)).set 2 (.int .i64 ((b:Nat):Int)));have H:=(show _=(some (.string job):Option Value) from Q.blk.cell 0);have I:=(show _=(some (.string node):Option Value) from Q.blk.cell 1);have J:=(show _=(some (.int .i64 ((b:Nat):Int)):Option Value) from Q.blk.cell 2);have D:=ω Q.ok;have C:=ω Q.keep;clear Q;go_wp2;refine bodyPost_ret (v:=.agg #[.string job,.string node,.int .i64 ((b:Nat):Int)]) (by simp [results,Tryz.results282,go_sem, *]) rfl ?_;exact⟨⟨job,node,b⟩,rfl,(j.z job node b m.z n.z o.z).1,by rw [(j.z job node b m.z n.z o.z).2]; exact D.z,C⟩
theorem eU {s:ByteArray} (h:cP s=true):s.size<=16:=by
 by_cases a:s.size<=16
 · exact a
 · unfold cP at h; rw [rG a] at h; simp at h
theorem mZ {s:ByteArray} (h:lG s=true):s.size<=16:=by
 by_cases a:s.size<=16
 · exact a
 · rw [rG a] at h; simp at h
theorem oT {j:aC} (h:fG j=0):cP j.name=true/\lG j.tag=true/\(-1000<=j.prio/\j.prio<=1000)/\(0<=j.need/\j.need<=1000000)/\(0<=j.tries/\j.tries<=100):=by
 unfold fG at h;by_cases a:(cP j.name && lG j.tag)=true
 · rw [if_pos a] at h;by_cases b:(ranged j.prio (-1000) 1000 && ranged j.need 0 1000000 && ranged j.tries 0 100)=true
   · simp only [Bool.and_eq_true] at a b;exact⟨a.1,a.2,aM.1 b.1.1,aM.1 b.1.2,aM.1 b.2⟩
   · rw [if_neg b] at h; exact absurd h (by decide)
 · rw [if_neg a] at h; exact absurd h (by decide)
theorem pE {n:av} (h:dE n=0):cP n.name=true/\lG n.zone=true/\(0<=n.room/\n.room<=1000000):=by
 unfold dE at h;by_cases a:(cP n.name && lG n.zone)=true
 · rw [if_pos a] at h;by_cases b:ranged n.room 0 1000000=true
   · simp only [Bool.and_eq_true] at a;exact⟨a.1,a.2,aM.1 b⟩
   · rw [if_neg b] at h; exact absurd h (by decide)
 · rw [if_neg a] at h; exact absurd h (by decide)
theorem Me {l:ak} (h:lsE l=0):cP l.job=true/\cP l.node=true/\(0<=l.till/\l.till<=1099511627776):=by
 unfold lsE at h;by_cases a:(cP l.job && cP l.node)=true
 · rw [if_pos a] at h;by_cases b:ranged l.till 0 1099511627776=true
   · simp only [Bool.and_eq_true] at a;exact⟨a.1,a.2,aM.1 b⟩
   · rw [if_neg b] at h; exact absurd h (by decide)
 · rw [if_neg a] at h; exact absurd h (by decide)
def vD (s:ByteArray):ByteArray × Int:=if 16<s.size then (⟨#[]⟩,2) else if validD s.data.toList=true then (⟨#[UInt8.ofNat s.size]⟩ ++ s,0) else (⟨#[]⟩,4)
def jB (s:ByteArray) (w:World) (e:Ending) (w':World):Prop:=e = .returned (.tuple #[.string (vD s).1,.int .i64 (vD s).2])/\Below w w w'
theorem jB.large {s:ByteArray} {w w':World} (h:16<s.size) (a:Below w w w'):jB s w (.returned (.tuple #[.string ⟨#[]⟩,(2:Int)])) w':=⟨by unfold vD; rw [if_pos h],a⟩
theorem jB.form {s:ByteArray} {w w':World} (h:¬ 16<s.size) (b:validD s.data.toList=false) (a:Below w w w'):jB s w (.returned (.tuple #[.string ⟨#[]⟩,(4:Int)])) w':=⟨by unfold vD; rw [if_neg h,if_neg (by rw [b]; simp)],a⟩
theorem jB.ok {s x:ByteArray} {w w':World} (h:¬ 16<s.size) (b:validD s.data.toList=true) (c:x=⟨#[UInt8.ofNat s.size]⟩ ++ s) (a:Below w w w'):jB s w (.returned (.tuple #[x,(0:Int)])) w':=⟨by unfold vD; rw [if_neg h,if_pos b,c],a⟩
theorem Mf (s:ByteArray) (w:World) (p:s.size<=9223372036854775807) (m:Tabs w):ψ 212 #[s] w (jB s w):=by
 by_cases h:16<s.size
 · have a:=ω (jB.large (w:=w) (w':=w) h θ);go_enter Tryz.func212,Tryz.ntmps212;go_wp2;go_ret2;exact a
 · have c:=ω (yG s w p m);cases d:validD s.data.toList
   · have a:=ω (fun w'=>jB.form (w:=w) (w':=w') h d);rw [d] at c;go_enter Tryz.func212,Tryz.ntmps212
     go_wp2_with fail
     refine c.mono ?_;rintro e j ⟨rfl,b⟩;go_wp2;go_ret2;exact a.z _ b
   · have a:=ω (fun x w'=>jB.ok (x:=x) (w:=w) (w':=w') h d);rw [d] at c;have q:=ω (vN (n:=s.size) (by omega));go_enter Tryz.func212,Tryz.ntmps212
     go_wp2_with fail
     refine c.mono ?_;rintro e j ⟨rfl,b⟩
     go_wp2_with fail
     refine Calls.mono (Bt (s.size:Int) j (by omega) (by omega)) ?_;rintro e r ⟨rfl,i⟩;rw [show ((s.size:Int)).toNat=s.size from by omega,q.z];have o:=ω (b.trans (i.mono b.size));clear b i;go_wp2;go_ret2;exact a.z _ _ rfl o.z
theorem JH (s:ByteArray) (w:World) (m:s.size<=9223372036854775807):ψ 126 #[s] w (jB s w):=by
 by_cases h:16<s.size
 · have a:=ω (jB.large (w:=w) (w':=w) h θ);go_enter Tryz.func126,Tryz.ntmps126;go_wp2;go_ret2;exact a
 · have b:=ω (AB s w (by omega));cases c:validD s.data.toList
   · have a:=ω (fun w'=>jB.form (w:=w) (w':=w') h c);rw [c] at b;go_enter Tryz.func126,Tryz.ntmps126
     go_wp2_with fail
     refine b.mono ?_;rintro e j ⟨rfl,rfl⟩;go_wp2;go_ret2;exact a.z _ θ
   · have a:=ω (fun x w'=>jB.ok (x:=x) (w:=w) (w':=w') h c);rw [c] at b;go_enter Tryz.func126,Tryz.ntmps126
     go_wp2_with fail
     refine b.mono ?_;rintro e j ⟨rfl,rfl⟩
     go_wp2_with fail
     refine Calls.mono (p9 (s.size:Int) w (by omega) (by omega)) ?_;rintro e n ⟨rfl,d⟩;rw [show ((s.size:Int)).toNat=s.size from by omega];have i:=ω d;clear d;go_wp2;go_ret2;exact a.z _ _ rfl i.z
structure dF (base g:Nat) (w w':World):Prop where
 os:w'.os=w.os
 tape:w'.tape=w.tape
 output:w'.output=w.output
 size:w.heap.size<=w'.heap.size
 block:∀ k,k<w.heap.size->k≠g->(k<base\/∀ cs fz,w.heap[k]? ≠ some (.cells cs 5 fz))->w'.heap[k]? = w.heap[k]?
section
variable {base g:Nat} {w w' w'':World}
theorem dF.refl (w:World):dF base g w w:=⟨rfl,rfl,rfl,lQ,fun _ _ _ _=>rfl⟩
theorem dF.trans (h:dF base g w w') (b:dF base g w' w''):dF base g w w'':=
 ⟨b.os.trans h.os,b.tape.trans h.tape,b.output.trans h.output,v6 h.size b.size,fun k c d a=>by
  have e:=h.block k c d a;refine (b.block k (uI c h.size) d ?_).trans e;rcases a with a | a
  · exact .inl a
  · exact .inr (fun f i j=>a f i (e.symm.trans j))⟩
theorem dF.drew (w:World):dF base g w w.drew:=⟨rfl,rfl,rfl,lQ,fun _ _ _ _=>rfl⟩
theorem dF.of_below (a:Below w w w'):dF base g w w':=⟨a.os,a.tape,a.output,a.size,fun k b _ _=>a.block k b⟩
theorem dF.below (h:dF base g w w') (c:base<=g) (b:base<=w.heap.size):Below base w w':=
 ⟨h.os,h.tape,h.output,h.size,fun k a=>h.block k (uI a b) (by omega) (.inl a)⟩
theorem dF.blk {k:Nat} {t:TypeId} {cs:Array Value} (h:dF base g w w') (a:Blk w k t cs) (d:t ≠ 5) (c:k≠g):Blk w' k t cs:=
 (h.block k a.lt c (.inr (fun e f b=>by
  unfold Blk at a;rw [a] at b;simp only [Option.some.injEq,Obj.cells.injEq] at b;exact d b.2.1))).trans a
theorem yI {v:Value} {n:Nat} {xs:List Value} (d:w.ownsRow base 5 1 v n xs) {k:Nat} (a:v.ownBlock=some k):base<=k/\∃ cs,w.heap[k]? = some (.cells cs 5 (0,0)):=by
 rcases d.2 with ⟨rfl,_⟩ | ⟨q,e,f,rfl,b,c,_⟩
 · simp [Value.ownBlock] at a
 · simp [Value.ownBlock] at a;subst a;exact⟨b,_,c⟩
theorem dF.mP {v:Value} {n:Nat} {xs:List Value} (f:w.ownsRow base 5 1 v n xs) (a:w.grownBy w' v.ownBlock):dF base g w w':=
 ⟨a.os,a.tape,a.output,a.size,fun k d _ b=>a.block k d (fun e=>by
  obtain⟨i,h,c⟩:=yI f e.symm;rcases b with b | b
  · omega
  · exact b _ _ c)⟩
theorem dF.set (w:World) (i:Nat) (u:Value):dF base g w (sQ w g i u):=
 ⟨rfl,rfl,rfl,by simp [World.setCell],fun k _ a _=>Below.heap_setCell w ⟨g,i,none⟩ u k a⟩
end
def tC (w:World) (base g:Nat) (l:List UInt8):Prop:=base<=g/\∃ A m c,Blk w g 239 #[.slice A m c]/\w.ownsRow base 5 1 (.slice A m c) m (bM l)
theorem JR {w:World} {base:Nat} {v:Value} {n:Nat} {xs:List Value} (a:w.ownsRow base 5 1 v n xs):∃ A c,v = .slice A n c:=by
 rcases a.2 with ⟨rfl,h⟩ | ⟨q,b,d,rfl,_⟩
 · subst h; exact⟨_,_,rfl⟩
 · exact⟨_,_,rfl⟩
theorem own_below {w w':World} {base:Nat} {v:Value} {n:Nat} {xs:List Value} (f:w.ownsRow base 5 1 v n xs) (e:Below w w w'):w'.ownsRow base 5 1 v n xs:=by
 rcases f with ⟨a,h | ⟨q,c,d,j,i,b,r⟩⟩
 · exact⟨a,.inl h⟩
 · have hlt:q<w.heap.size:=(Array.getElem?_eq_some_iff.1 b).1;exact⟨a,.inr ⟨q,c,d,j,i,(e.block q hlt).trans b,r⟩⟩
theorem tC.below {w w':World} {base g:Nat} {l:List UInt8} (h:tC w base g l) (b:Below w w w'):tC w' base g l:=by
 obtain⟨d,A,m,c,a,e⟩:=h;exact⟨d,A,m,c,a.below b a.lt,own_below e b⟩
theorem tC.lt {w:World} {base g:Nat} {l:List UInt8} (h:tC w base g l):g<w.heap.size:=by
 obtain⟨_,A,m,c,a,_⟩:=h;exact a.lt
theorem uo {w:World} {base:Nat} {A:Option Addr} {m c:Nat} {l:List UInt8} (h:w.ownsRow base 5 1 (.slice A m c) m (bM l)):l.length=m:=by
 have:=h.1;rw [fI,Nat.mul_one] at this;exact this
def Mg (base g:Nat) (l:List UInt8) (w:World) (e:Ending) (w':World):Prop:=e = .returned (.tuple #[])/\tC w' base g l/\dF base g w w'
theorem NH {w:World} {base:Nat} {v:Value} {n:Nat} {xs:List Value} {a:Addr} (j:w.ownsRow base 5 1 v n xs) (ha:v.ownBlock≠some a.block) (u:Value):(w.setCell a u).ownsRow base 5 1 v n xs:=by
 rcases j with ⟨b,h | ⟨q,d,e,c,m,i,r⟩⟩
 · exact⟨b,.inl h⟩
 · refine⟨b,.inr ⟨q,d,e,c,m,?_,r⟩⟩;rw [Below.heap_setCell w a u q (fun f=>ha (by rw [c]; simp [Value.ownBlock,f]))];exact i
theorem tC.put {w b:World} {base g:Nat} {A e:Option Addr} {m c d f:Nat} {l q:List UInt8} (u:base<=g) (h:Blk w g 239 #[.slice A m c]) (o:w.ownsRow base 5 1 (.slice A m c) m (bM l))
 (p:b.ownsRow base 5 1 (.slice e d f) d (bM q)) (n:w.grownBy b (Value.slice A m c).ownBlock) :
 Blk b g 239 #[.slice A m c]/\tC (sQ b g 0 (.slice e d f)) base g q/\dF base g w (sQ b g 0 (.slice e d f)):=by
 have v:some g≠(Value.slice A m c).ownBlock:=fun j=>by
  obtain⟨_,r,a⟩:=yI o j.symm;unfold Blk at h;rw [h] at a;simp only [Option.some.injEq,Obj.cells.injEq] at a;exact absurd a.2.1 (by decide)
 have i:Blk b g 239 #[.slice A m c]:=(n.block g h.lt v).trans h;refine⟨i,⟨u,e,d,f,Blk.eq (i.set 0 _) (by simp),NH p (fun j=>?_) _⟩,(dF.mP o n).trans (dF.set b 0 _)⟩;obtain⟨_,r,a⟩:=yI p j;unfold Blk at i;rw [i] at a;simp only [Option.some.injEq,Obj.cells.injEq] at a;exact absurd a.2.1 (by decide)
theorem AY (base g:Nat) (l:List UInt8) (n:Int) (w:World) (v:0<=n) (E:n<=9223372036854775807) (u:tC w base g l) (G:l.length<=100000000) :
 ψ 159 #[π g 0,n] w (Mg base g (l ++ bf n.toNat) w):=by
 obtain⟨x,A,m,c,a,b⟩:=u;have y:=uo b;have z:ζ w g 0 (.slice A m c):=a.cell 0;have F:=a.lt;have h:=ω (Dr base A m c l n w v (by omega) b (by omega) (by omega));have r:=ω a;have t:=ω b;clear a b y;go_enter Tryz.func159,Tryz.ntmps159
 go_wp2_with fail
 refine h.mono ?_;rintro D q ⟨B,H,C,rfl,p,j⟩;obtain⟨d,i,o⟩:=tC.put x r.z t.z p j.grown;have I:ζ q g 0 (.slice A m c):=d.cell 0;have J:κ q g 0:=d.thaw 0;have e:=ω (And.intro i o);clear h p j i o d z;go_wp2;go_end0;exact⟨rfl,e.z.1,e.z.2⟩
theorem JF (base g:Nat) (l:List UInt8) (s:ByteArray) (w:World) (E:s.size<=9223372036854775807) (n:Tabs w) (j:tC w base g l) (S:l.length<=100000000) (Q:base<=w.heap.size) :
 ψ 172 #[π g 0,s] w (Mg base g (l ++ (vD s).1.data.toList) w):=by
 have o:=ω (Mf s w E n);have H:=ω j;clear j n;go_enter Tryz.func172,Tryz.ntmps172
 go_wp2_with fail
 refine o.mono ?_;rintro O q ⟨rfl,b⟩;obtain⟨z,A,m,i,a,d⟩:=H.below b
 have F:(vD s).1.size<=17:=by
  unfold vD
  split
  · show (0:Nat)<=17; omega
  · split
    · rw [ByteArray.size_append]; show 1+s.size<=17; omega
    · show (0:Nat)<=17; omega
 generalize p:(vD s).1=t at F |-;have x:=ω p;clear p;generalize (vD s).2=M;have T:=uo d;have W:ζ q g 0 (.slice A m i):=a.cell 0;have R:=a.lt;have u:=ω a;have h:=ω d;have P:=b.size;have v:=ω b;have U:m<=100000000:=by omega
 clear o a d b;have B:base<=q.heap.size:=by omega
 obtain⟨K,D,G,I,J⟩:=info_parts Tryz.infoU8;have y:bM l ++ Lib.strCells t=bM (l ++ t.data.toList):=by rw [iN]; rfl
 go_wp2_with (at_builtin; refine Lib.wpList_append_own_string _ rfl _ _ _ _ rfl base 5 K Tryz.underlying56 Tryz.underlying9 D G I J _ m _ rfl h.z t rfl (by unfold maxLen; omega) (by omega) B ?_; intro V r e C _; obtain⟨L,N,rfl⟩:=JR e; rw [y] at e; have c:=tC.put z u.z h.z e C; have X:ζ r g 0 (.slice A m i):=c.1.cell 0; have Y:κ r g 0:=c.1.thaw 0)
 all_goals (go_end0; exact⟨rfl,by rw [x.z]; exact c.2.1,(dF.of_below v.z).trans c.2.2⟩)
theorem EQ (base g:Nat) (l:List UInt8) (n:Int) (w:World) (u : -9223372036854775808<=n) (v:n<=9223372036854775807) (t:tC w base g l) (I:l.length<=100000000) (y:base<=w.heap.size) :
 ψ 211 #[π g 0,n] w (Mg base g (l ++ bf (mU n).toNat) w):=by
 obtain⟨x,A,m,d,a,b⟩:=t;have D:=uo b;have K:ζ w g 0 (.slice A m d):=a.cell 0;have H:=a.lt;have h:0<=mU n/\mU n<18446744073709551616:=by unfold mU; split <;> omega
 generalize j:mU n=z at h |-;have i:∀ W,ψ 235 #[n] W fun e w'=>e = .returned (.int .u64 z)/\W=w':=fun W=>by rw [<- j]; exact NI n u v W
 have B:=ω (Dr base A m d l z w.drew h.1 h.2 b (by omega) y);have r:=ω i;have p:=ω a;have q:=ω b;clear a b D i j;go_enter Tryz.func211,Tryz.ntmps211
 go_wp2_with fail
 go_region_with (first
  | (go_at_call 235; refine (r.z _).mono ?_; rintro e w' ⟨rfl,rfl⟩)
  | (go_at_call 201; refine (B.z).mono ?_; rintro e o ⟨F,J,G,rfl,E,C⟩; have c:=tC.put (w:=w.drew) x p.z q.z E C.grown; have L:ζ o g 0 (.slice A m d):=c.1.cell 0; have M:κ o g 0:=c.1.thaw 0))
 all_goals (go_end0; exact⟨rfl,c.2.1,(dF.drew w).trans c.2.2⟩)
theorem qc:∀ (f:Nat) (n:Int) (w:World),0<=n->n<18446744073709551616->n.toNat<128 ^ f->0<f ->
 ψ 122 #[.int .u64 n] w (wT n.toNat w)
 | 0,_,_,_,_,_,h=>absurd h (by omega)
 | f+1,n,w,j,m,a,_=>by
  by_cases hlt:n<128
  · have d:=ω (vN (n:=n.toNat) (by omega));clear a;go_enter Tryz.func122,Tryz.ntmps122
    go_wp2_with (go_at_call 127; refine (p9 n _ j m).mono ?_; rintro e w' ⟨rfl,b⟩)
    go_ret;exact⟨kW (by rw [d.z]),b⟩
  · have d:=ω (Cw (n:=n.toNat) (by omega) (by omega));have q:=ω (qc f (n / 128))
    have o:=ω (show (n / 128).toNat<128 ^ f from by
     rw [Nat.pow_succ,Nat.mul_comm] at a;rw [show (n / 128).toNat=n.toNat / 128 from by omega];exact Nat.div_lt_of_lt_mul a)
    have p:=ω (show 0<f from by
     rcases Nat.eq_zero_or_pos f with h | h
     · subst h; simp at a; omega
     · exact h)
    clear a;go_enter Tryz.func122,Tryz.ntmps122
    go_wp2_with fail
    refine Calls.mono (p9 (n % 128+128) _ (by omega) (by omega)) ?_;rintro e r ⟨rfl,c⟩
    go_wp2_with fail
    refine Calls.mono (q.z r (by omega) (by omega) o.z p.z) ?_;rintro e u ⟨rfl,i⟩;have b:=c.trans (i.mono c.size);have t:=(dR (n / 128).toNat).2;clear c i;go_wp2;go_ret;refine⟨kW ?_,b⟩;rw [d.z,show (n % 128+128).toNat=n.toNat % 128+128 from by omega,show (n / 128).toNat=n.toNat / 128 from by omega,ByteArray.mk_append_mk];simp
end Go.Proofs.YtimglglgcgpjgabGreatDoor
