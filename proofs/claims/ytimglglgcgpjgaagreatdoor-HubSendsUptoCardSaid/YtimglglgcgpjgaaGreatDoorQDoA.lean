/- Of the proof of a statement: DelFunc, Work, DoA, RcA, RcB. -/
import Derived.Deep.DeepCutAuto
import Derived.Test.YtimglglgcgpjgaaGreatDoorQDelete
import Derived.Test.YtimglglgcgpjgaaGreatDoorQFrsR
set_option linter.unusedVariables false
set_option linter.unusedSimpArgs false
set_option maxRecDepth 100000
set_option maxHeartbeats 8000000
namespace Go.Proofs.YtimglglgcgpjgaaGreatDoor
open List (foldl_cons foldl_nil setIfInBounds_toArray set_cons_succ set_cons_zero)
open Go.RowKit
def zH (p:ak->Bool) (F:FuncId) (b:Array Value) (w:World) (g:Option Nat):Prop:=
 ∀ W,w.grownBy W g->∀ x,ψ F (#[.agg (aB x).toArray] ++ b) W fun e a=>e = .returned (.bool (p x))/\Below W.heap.size W a
theorem zH.next {p:ak->Bool} {F:FuncId} {c:Array Value} {w w':World} {g:Option Nat} (h:zH p F c w g) (a:w.grownBy w' g):zH p F c w' g:=fun W b x=>
 h W ⟨b.os.trans a.os,b.tape.trans a.tape,b.output.trans a.output,v6 a.size b.size,fun k d e=>(b.block k (u7 d a.size) e).trans (a.block k d e)⟩ x
theorem zf {w a b:World} {g:Option Nat} (h:w.grownBy a g) (c:Below a a b):w.grownBy b g:=
 ⟨c.os.trans h.os,c.tape.trans h.tape,c.output.trans h.output,v6 h.size c.size,fun k d e=>(c.block k (u7 d h.size)).trans (h.block k d e)⟩
theorem IS {α:Type} {p:α->Bool} {xs:List α} {k:Nat} {x:α} (h:xs[k]? = some x) (b:(xs.take k).any p=false) (a:p x=false):(xs.take (k+1)).any p=false:=by
 rw [List.take_add_one,h,List.any_append,b]; simp [a]
theorem Kv {α:Type} {p:α->Bool} {xs:List α} {k:Nat} (b:(xs.take k).any p=false) (a:xs.length<=k):xs.any p=false:=by rwa [List.take_of_length_le a] at b
def CR (p:ak->Bool) (xs:List ak) (w:World) (e:Ending) (w':World):Prop:=
 Below w w w'/\((xs.any p=false/\e = .returned (.int .i64 (-1)))\/∃ (k:Nat) (x:ak),e = .returned (.int .i64 k)/\xs[k]? = some x/\p x=true/\(xs.take k).any p=false)
def On (p:ak->Bool) (xs:List ak) (n:Nat) (w:World) (i:Value) (wr:World):Prop:=∃ k:Nat,k<=n/\i = .int .i64 k/\(xs.take k).any p=false/\Below w w wr
theorem IT (p:ak->Bool) (F:FuncId) (h:Array Value) (xs:List ak) (A:Option Addr) (n c:Nat) (w:World) (N:∀ args w,(callFunc F args).run Tryz.prog w = .ok (.enter F args) w) (m:bC w w 3 A n (au aB xs)) (B:xs.length=n) (P:n<=9223372036854775807) (D:zH p F h w none) :
 ψ 222 #[.slice A n c,.func (.func F) #[] h] w (CR p xs w):=by
 have e:=ω B;have E:=ω D;clear B D;go_enter Tryz.func222,Tryz.ntmps222;go_wp2
 go_loopw [4,5,8,16] (fun _ _ o _ wr=>On p xs n w o wr) (fun _ _ o _ _=>n - (intOf o).toNat)
 case atStart=>exact⟨0,Nat.zero_le _,rfl,by simp,θ⟩
 case round=>
  obtain⟨k,z,rfl,C,a⟩:=hrel;have i:=ω C;have d:=ω a;have Q:=a.size;clear C;by_cases hlt:k<n
  · obtain⟨x,j⟩:∃ x,xs[k]? = some x:=⟨_,gO (by rw [e.z]; exact hlt)⟩;obtain⟨H,R,rfl,M,y⟩:=(m.below a).eC aI e.z j;have r:=ω j;have b:=ω (E.z wr ⟨a.os,a.tape,a.output,a.size,fun k z _=>a.block k z⟩ x);obtain⟨t,l⟩:∃ t,p x=t:=⟨_,rfl⟩;rw [l] at b;have s:=ω l;obtain⟨job,node,J⟩:=x;obtain⟨c0,L,c2⟩:=rc3 y;have b:=ω (show ψ F (#[.agg #[job,node,J]] ++ h) wr fun u G=>u = .returned (.bool t)/\Below wr wr G from b.z);clear y j m a l;have O:H<wr.heap.size:=by omega
    go_wp2_with fail
    refine b.mono ?_;rintro u K ⟨rfl,v⟩;have q:=ω (d.trans (v.mono d.size));clear b v;cases t
    · have I:=ω (IS r.z i.z s.z);go_wp2
      go_roundw
      case rel=>exact⟨k+1,by omega,by go_num,I.z,q.z⟩
      case measure=>simp [intOf]; omega
    · have g:=ω (show CR p xs w (.returned (.int .i64 k)) K from ⟨q,.inr ⟨k,_,rfl,r,s,i⟩⟩);go_wp2;go_ret;exact g
  · have g:=ω (show CR p xs w (.returned (.int .i64 (-1))) wr from ⟨d,.inl ⟨Kv i.z (by rw [e.z]; omega),rfl⟩⟩);clear m;go_wp2;go_ret;exact g
structure DfL (p:ak->Bool) (l m:List ak) (i j:Nat):Prop where
 len:m.length=l.length
 lt:i<j
 le:j<=l.length
 front:m.take i=(l.take j).filter fun x=>!p x
 back:m.drop j=l.drop j
theorem DfL.start {p:ak->Bool} {l:List ak} {k:Nat} {x:ak} (a:l[k]? = some x) (e:p x=true) (d:(l.take k).any p=false):DfL p l l k (k+1):=by
 refine⟨rfl,by omega,(List.getElem?_eq_some_iff.1 a).1,?_,rfl⟩;rw [List.take_add_one,a,List.filter_append]
 have c:(l.take k).filter (fun x=>!p x)=l.take k:=List.filter_eq_self.2 fun b ha=>by
  have:=List.any_eq_false.1 d b ha;simpa using this
 rw [c];simp [e]
theorem DfL.at_ {p:ak->Bool} {l m:List ak} {i j:Nat} (h:DfL p l m i j) {x:ak} (a:l[j]? = some x):m[j]? = some x:=by
 have:=congrArg (fun r=>r[0]?) h.back;simp only [List.getElem?_drop,Nat.add_zero] at this;rw [this,a]
theorem DfL.skip {p:ak->Bool} {l m:List ak} {i j:Nat} (h:DfL p l m i j) {x:ak} (a:l[j]? = some x) (b:p x=true):DfL p l m i (j+1):=by
 refine⟨h.len,by have:=h.lt; omega,(List.getElem?_eq_some_iff.1 a).1,?_,?_⟩
 · rw [List.take_add_one,a,List.filter_append,h.front];simp [b]
 · have:=congrArg (List.drop 1) h.back;rwa [List.drop_drop,List.drop_drop] at this
theorem DfL.stay {p:ak->Bool} {l m:List ak} {i j:Nat} (h:DfL p l m i j) {x:ak} (b:l[j]? = some x) (d:p x=false):DfL p l (m.take i ++ x :: m.drop (i+1)) (i+1) (j+1):=by
 have c:=(List.getElem?_eq_some_iff.1 b).1;have e:=h.lt;have a:(m.take i).length=i:=by rw [List.length_take,h.len]; omega
 refine⟨?_,by omega,c,?_,?_⟩
 · rw [List.length_append,a,List.length_cons,List.length_drop,h.len]; omega
 · rw [List.take_append,a,Nat.add_sub_cancel_left,List.take_of_length_le (by omega),h.front,List.take_add_one (l:=l),b,List.filter_append];simp [d]
 · rw [List.drop_append,a,List.drop_eq_nil_of_le (by omega),List.nil_append,show j+1 - i=(j - i)+1 by omega,List.drop_succ_cons,List.drop_drop,show i+1+(j - i)=j+1 by omega];have:=congrArg (List.drop 1) h.back;rwa [List.drop_drop,List.drop_drop] at this
theorem DfL.done {p:ak->Bool} {l m:List ak} {i:Nat} (h:DfL p l m i l.length):m.take i=l.filter fun x=>!p x:=by
 rw [h.front,List.take_length]
theorem cQ.z {α:Type} {enc:α->List Value} {base:Nat} {T:TypeId} {sz:Nat} {A b:Option Addr} {n c a d:Nat} {l:List α} {w w':World} (i:cQ enc base T sz A n c l w (.returned (.slice b a d)) w') :
 a=l.length/\w'.ownsRow base T sz (.slice b a d) a (au enc l)/\cY w w' (.slice A n c) (.slice b a d):=by
 obtain⟨o,q,p,e,k,m,j⟩:=i;injection e with e;injection e with f g h;subst f; subst g; subst h;exact⟨k,m,j⟩
theorem zH.none_ {p:ak->Bool} {F:FuncId} {b:Array Value} {w:World} {g:Option Nat} (h:zH p F b w g):zH p F b w none:=fun W a x=>
 h W ⟨a.os,a.tape,a.output,a.size,fun k c _=>a.block k c (by simp)⟩ x
def Py (p:ak->Bool) (l:List ak) (base g n c:Nat) (w:World) (a b:Value) (wr:World):Prop:=
 ∃ (i j:Nat) (m:List ak),a = .int .i64 i/\b = .int .i64 j/\DfL p l m i j/\wr.ownsRow base 66 3 (.slice (some ⟨g,0,none⟩) n c) n (au aB m)/\w.grownBy wr (some g)
theorem Kw {base g n c i:Nat} {m:List ak} {W:World} (l:W.ownsRow base 66 3 (.slice (some ⟨g,0,none⟩) n c) n (au aB m)) (v:m.length=n) (hi:i<n) :
 ∃ e,(∀ ty f,(Builtin.clear_ #[24] ty #[.slice (some ⟨g,i*3,none⟩) (n - i) f]).run Tryz.prog W = .ok (.tuple #[]) e)/\e.ownsRow base 66 3 (.slice (some ⟨g,0,none⟩) i c) i (au aB (m.take i))/\W.grownBy e (some g):=by
 obtain⟨b,d,w,p⟩:=eX.of l;have s:b.toList.length=c*3:=by rw [Array.length_toList,d.size]
 obtain⟨Z,j⟩:∃ Z,(Builtin.zeroCells (Value.cells (.agg #[.string ⟨#[]⟩,.string ⟨#[]⟩,(0:Int)])) (n - i)).toList=Z:=⟨_,rfl⟩;have r:Z.length=(n - i)*3:=by rw [<- j,mM]; rfl
 obtain⟨a,h⟩:∃ a,(b.toList.take (i*3) ++ Z ++ b.toList.drop (i*3+Z.length)).toArray=a:=⟨_,rfl⟩;have o:a.size=c*3:=by rw [<- h]; simp only [List.size_toArray,List.length_append,List.length_take,List.length_drop,s,r]; omega
 refine⟨W.setRow g a,fun ty f=>?_,(d.set a o).own (by omega) ?_,wG W g a⟩
 · have k:=gI (P:=Tryz.prog) W 24 66 ty (.agg #[.string ⟨#[]⟩,.string ⟨#[]⟩,(0:Int)]) g (i*3) (n - i) f Tryz.underlying24 Tryz.zeroValue66 (iD _ _ (fun u q=>gy ⟨⟨#[]⟩,⟨#[]⟩,0⟩ u q)) (by omega) b 66 d.blk (by rw [d.size]; show i*3+(n - i)*3<=_; omega);rw [k,j,h]
 · rw [<- eA aI,<- p,<- h,List.append_assoc,List.take_append_of_le_length (by rw [List.length_take]; omega),List.take_take,List.take_take,Nat.min_self,Nat.min_eq_left (by omega)]
theorem IU (p:ak->Bool) (F:FuncId) (C:Array Value) (base:Nat) (A:Option Addr) (n c:Nat) (l:List ak) (w:World) (ay:∀ args w,(callFunc F args).run Tryz.prog w = .ok (.enter F args) w) (d:w.ownsRow base 66 3 (.slice A n c) n (au aB l)) (U:l.length=n) (hn:n<=999) (W:zH p F C w (Value.slice A n c).ownBlock) :
 ψ 185 #[.slice A n c,.func (.func F) #[] C] w (cQ aB base 66 3 A n c (l.filter fun x=>!p x) w):=by
 have HI:=ω (IT p F C l A n c w ay (cS d) U (by omega) W.none_);have s:=ω d;have o:=ω U;have Hp:=ω W;clear d U W;obtain⟨Q,N⟩:∃ Q,l.filter (fun x=>!p x)=Q:=⟨_,rfl⟩;rw [N];have ab:=ω N;clear N;go_enter Tryz.func185,Tryz.ntmps185
 go_wp2_with fail
 refine HI.mono ?_;rintro P w1 ⟨a,ax⟩;rcases ax with ⟨ac,rfl⟩ | ⟨k,x,rfl,Y,ai,ah⟩
 · have af:l.filter (fun x=>!p x)=l:=List.filter_eq_self.2 fun ar ha=>by
    have:=List.any_eq_false.1 ac ar ha;simpa using this
   rw [ab.z] at af;subst af;have q:=ω (show cQ aB base 66 3 A n c _ w (.returned (.slice A n c)) w1 from ⟨A,n,c,rfl,o.symm,aF s.z a,cY.after a (cY.refl _ _)⟩);clear ac a;go_wp2;go_ret;exact q
 · have a9:k<n:=by have:=(List.getElem?_eq_some_iff.1 Y).1; have:=o.z; omega
   obtain⟨g,a2,m,a5⟩:=s.form (by omega);injection m with m _ r;subst m; subst r;have aA:n<=c:=by obtain⟨_,_,R,_⟩:=eX.of s.z; exact R
   have a4:c<=9223372036854775807:=by obtain⟨_,R,_,_⟩:=eX.of s.z; have:=R.cap_; unfold maxLen at this; omega
   have H0:=ω (DfL.start Y ai ah);have am:=ω (show w.grownBy w1 (some g) from ⟨a.os,a.tape,a.output,a.size,fun a1 hq _=>a.block a1 hq⟩);have ap:=ω (aF s.z a);have a8:((k:Int) == -1)=false:=by rw [beq_eq_false_iff_ne]; omega
   clear Y ai ah a;go_wp2
   go_loopw [5,6,7] (fun i j _ wr=>Py p l base g n c w i j wr) (fun _ j _ _=>n - (intOf j).toNat)
   case atStart=>exact⟨k,k+1,l,rfl,by go_num,H0,ap,am⟩
   case round=>
    obtain⟨i,j,I,rfl,rfl,h,d,hg⟩:=hrel;have z:=ω h;have HO:=ω d;have B:=ω hg;have az:=h.lt;have a7:j<=n:=by have:=h.le; have:=o.z; omega
    have H:I.length=n:=by rw [h.len]; exact o
    clear h hg;by_cases hlt:j<n
    · obtain⟨x,T⟩:∃ x,l[j]? = some x:=⟨_,gO (by have:=o.z; omega)⟩;have Hf:=ω T;obtain⟨b,aC,m,_,a3,r⟩:=G8 aI d H (z.at_ T);injection m with m;injection m with av aw;subst av; subst aw;obtain⟨t,X⟩:∃ t,p x=t:=⟨_,rfl⟩;have Ht:=ω X;have y:=Hp.z (wr.alloc (.cells (aB x).toArray 66)) (zf B.z ((θ).alloc lJ _)) x;rw [X] at y;have hB:=n5 wr (.cells (aB x).toArray 66);have HS:=ω (fun aq hb=>wF base g n c i I x wr aq d H (by omega) hb);obtain⟨job,node,e⟩:=x;have c0:ζ wr g (j*3) (.string job):=by have:=r 0 _ rfl; rwa [Nat.zero_add,Nat.add_zero] at this
      have c1:ζ wr g (j*3+1) (.string node):=by have:=r 1 _ rfl; rwa [Nat.zero_add] at this
      have c2:ζ wr g (j*3+2) (.int .i64 e):=by have:=r 2 _ rfl; rwa [Nat.zero_add] at this
      have Z:=ω (show Blk (χ wr #[job,node,e] 66) wr 66 #[job,node,e] from hB);have y:=ω (show ψ F (#[.agg #[job,node,e]] ++ C) (χ wr #[job,node,e] 66) fun P O=>P = .returned (.bool t)/\Below (wr.alloc (.cells #[job,node,e] 66)).heap.size (χ wr #[job,node,e] 66) O from y);have aa:=ω (show Below wr wr (χ wr #[job,node,e] 66) from (θ).alloc lJ _);clear r T X hB d
      go_wp2_with fail
      refine y.mono ?_;rintro P J ⟨rfl,S⟩;have M:=ω (aa.trans (S.mono aa.size));have K:=ω (Z.below S Z.lt);clear y S c0 c1 c2;cases t
      · obtain⟨G,D,ae⟩:=HS.z J M.z;have u:=z.stay Hf.z Ht.z;have q:=ω ae.z;have L:=ω u;have f0:=G (i*3);have f1:=G (i*3+1);have f2:=G (i*3+2);obtain⟨u0,p0⟩:=D (i*3) (by omega);obtain⟨u1,p1⟩:=D (i*3+1) (by omega);obtain⟨u2,p2⟩:=D (i*3+2) (by omega);have d0:ζ J wr 0 (.string job):=K.cell 0;have d1:ζ J wr 1 (.string node):=K.cell 1;have d2:ζ J wr 2 (.int .i64 e):=K.cell 2;clear G D ae u;go_wp2
        go_roundw
        case rel=>exact⟨i+1,j+1,_,by go_num,by go_num,L.z,q.z.2.1,cY.grown (v:=.slice (some ⟨g,0,none⟩) n c) (v':=.slice (some ⟨g,0,none⟩) n c) (cY.trans ⟨B.z,.inl rfl⟩ q.z.2.2)⟩
        case measure=>simp [intOf]; omega
      · have u:=z.skip Hf.z Ht.z;have L:=ω u;have aj:=ω (aF HO.z M.z);have ao:=ω (zf B.z M.z);clear u;go_wp2
        go_roundw
        case rel=>exact⟨i,j+1,I,rfl,by go_num,L.z,aj.z,ao.z⟩
        case measure=>simp [intOf]; omega
    · obtain rfl:j=n:=by omega
      have a0:i<j:=az;obtain⟨O,ad,V,ag⟩:=Kw d H a0;have a6:¬ c=i:=by omega
      have h:=z.z;have E:I.take i=l.filter fun x=>!p x:=DfL.done (by have:=o.z; subst this; exact h);rw [ab.z] at E;rw [E] at V;have q:=ω (show cQ aB base 66 3 (some ⟨g,0,none⟩) j c Q w (.returned (.slice (some ⟨g,0,none⟩) i c)) O from ⟨_,i,c,rfl,by rw [<- E,List.length_take,H]; omega,V,cY.trans (b:=wr) (v:=.slice (some ⟨g,0,none⟩) j c) ⟨B,.inl rfl⟩ ⟨ag,.inl rfl⟩⟩);have al:=ω ad;clear ad V ag h E d hlt
      go_wp2_with (refine cW _ rfl _ 24 rfl _ rfl (al.z _ _) ?_)
      go_ret;exact q
structure uE (w:World) (base:Nat) (st:ah) (x:StA) (N WK:Nat) (now:Int):Prop where
 nb:Blk w N 26 (stC st x)
 wk:Blk w WK 162 #[π N 0,now]
 own:StOwn w base st x
 bN:base<=N
 bW:base<=WK
 bs:base<=w.heap.size
theorem uE.below {w w':World} {base:Nat} {st:ah} {x:StA} {N b:Nat} {now:Int} (h:uE w base st x N b now) (a:Below w w w'):uE w' base st x N b now:=
 ⟨h.nb.below a h.nb.lt,h.wk.below a h.wk.lt,⟨aF h.own.j a,aF h.own.n a,aF h.own.l a,h.own.lj,h.own.ln,h.own.ll⟩,h.bN,h.bW,v6 h.bs a.size⟩
structure rE where
 A:Option Addr
 m:Nat
 c:Nat
 s:Bool
def setSt (st:ah) (a:List ak):ah:=⟨st.rev,st.jobs,st.nodes,a⟩
structure WoAt (w:World) (base:Nat) (st:ah) (x:StA) (N WK:Nat) (now:Int) (ls:List ak) (p:Nat) (γ:rE) (wx:World):Prop where
 wk:Blk wx WK 162 #[π N 0,now]
 nb:Blk wx N 26 #[st.rev,.slice x.aj x.nj x.cj,.slice x.an x.nn x.cn,if p<2 then .slice x.al x.nl x.cl else .slice γ.A γ.m γ.c]
 below:Below base w wx
 j:wx.ownsRow base 85 5 (.slice x.aj x.nj x.cj) x.nj (au aS st.jobs)
 n:wx.ownsRow base 70 3 (.slice x.an x.nn x.cn) x.nn (au aH st.nodes)
 here:p=0->wx=w.drew
 l:0<p->wx.ownsRow base 66 3 (.slice γ.A γ.m γ.c) γ.m (au aB ls)/\γ.m=ls.length
def woV (N a:Nat) (x:StA) (F:FuncId) (d:Array Value) (b:rE):Nat->Value->Prop
 | 0,u=>u = π a 0
 | 1,u=>u = π a 0
 | 2,u=>u = π a 0
 | 3,u=>u = π N 0
 | 4,u=>u = π a 0
 | 5,u=>u = π a 0
 | 6,u=>u = π a 0
 | 7,u=>u = π N 0
 | 8,u=>u = π N 0
 | 9,u=>u = π N 3
 | 10,u=>u = .slice x.al x.nl x.cl
 | 11,u=>u = .func (.func F) #[] d
 | 12,u=>u = .slice b.A b.m b.c
 | 13,u=>u = π N 0
 | 14,u=>u = π N 3
 | 15,u=>True
 | _,_=>False
theorem Oq {N a:Nat} {x:StA} {F:FuncId} {b:Array Value} {d e:rE} {j:Nat} {v:Value} (c:j≠12) (h:woV N a x F b d j v):woV N a x F b e j v:=by
 unfold woV at *
 split at h
 all_goals first | exact h | exact absurd rfl c
def Kx (base:Nat) (st:ah) (x:StA) (N a:Nat) (now:Int) (b:List ak) (w:World) (e:Ending) (w':World):Prop:=
 e = .returned (.tuple #[])/\(∃ c,uE w' base (setSt st b) c N a now)/\Below base w w'
theorem sM (p:ak->Bool) (F:FuncId) (y:Array Value) (base:Nat) (st:ah) (x:StA) (N q:Nat) (now:Int) (w:World) (h:uE w base st x N q now) (Q:x.nl<=999) (M:∀ args w,(callFunc F args).run Tryz.prog w = .ok (.enter F args) w) (a:zH p F y w (Value.slice x.al x.nl x.cl).ownBlock) :
 ψ 145 #[π q 0,.func (.func F) #[] y] w (Kx base st x N q now (st.leases.filter fun l=>!p l) w):=by
 have I:=ω (IU p F y base x.al x.nl x.cl st.leases w.drew M h.own.l.drew h.own.ll Q (fun W u=>a W ⟨u.os,u.tape,u.output,u.size,u.block⟩));have s:=ω (show w.drew.ownsRow base 66 3 (.slice x.al x.nl x.cl) x.nl (au aB st.leases) from h.own.l.drew);have G:=ω (show base<=w.drew.heap.size from h.bs);have J:=ω h.bN;have H:=ω h;clear a;go_enter Tryz.func145,Tryz.ntmps145;go_wp2;refine kZ (n:=19) (by kernel_rfl) (woV N q x F y) [12,15] (WoAt w base st x N q now (st.leases.filter fun l=>!p l)) ⟨none,0,0,false⟩ (by decide +kernel) (by decide +kernel) rfl ?_ ?_ ?_
 · exact⟨h.wk,h.nb,(θ).drew,h.own.j.drew,h.own.n.drew,fun _=>rfl,fun h=>absurd h (by decide)⟩
 · refine⟨?_,?_,?_,?_,?_,?_,?_,?_,?_,?_,?_,?_,?_,?_,?_,?_,trivial⟩
   · refine okP 0 2 fun p i o e _ _ a b=>?_;have d:=b.k 0 rfl;simp [go_sem,Oper.wp,execOp,Act.eval,d];exact⟨_,rfl,rfl,a⟩
   · refine okP 0 2 fun p i o e _ _ a b=>?_;obtain⟨u1,d,rfl⟩:=b.g 0 4 rfl rfl;simp [go_sem,Oper.wp,execOp,Act.eval,d];exact⟨_,rfl,rfl,a⟩
   · refine okP 0 2 fun p i o e _ _ a b=>?_;obtain⟨u1,d,rfl⟩:=b.g 1 5 rfl rfl;simp [go_sem,Oper.wp,execOp,Act.eval,d];exact⟨_,rfl,rfl,a⟩
   · refine okP 0 2 fun p i o e _ _ a b=>?_;obtain⟨u1,d,rfl⟩:=b.g 2 6 rfl rfl;have r:ζ e q 0 (π N 0):=a.wk.cell 0;simp [go_sem,Oper.wp,execOp,Act.eval,d,r];exact⟨_,rfl,rfl,a⟩
   · refine okP 0 2 fun p i o e _ _ a b=>?_;have d:=b.k 0 rfl;simp [go_sem,Oper.wp,execOp,Act.eval,d];exact⟨_,rfl,rfl,a⟩
   · refine okP 0 2 fun p i o e _ _ a b=>?_;obtain⟨u1,d,rfl⟩:=b.g 4 8 rfl rfl;simp [go_sem,Oper.wp,execOp,Act.eval,d];exact⟨_,rfl,rfl,a⟩
   · refine okP 0 2 fun p i o e _ _ a b=>?_;obtain⟨u1,d,rfl⟩:=b.g 5 9 rfl rfl;simp [go_sem,Oper.wp,execOp,Act.eval,d];exact⟨_,rfl,rfl,a⟩
   · refine okP 0 2 fun p i o e _ _ a b=>?_;obtain⟨u1,d,rfl⟩:=b.g 6 10 rfl rfl;have r:ζ e q 0 (π N 0):=a.wk.cell 0;simp [go_sem,Oper.wp,execOp,Act.eval,d,r];exact⟨_,rfl,rfl,a⟩
   · refine okP 0 2 fun p i o e _ _ a b=>?_;obtain⟨u1,d,rfl⟩:=b.g 7 11 rfl rfl;simp [go_sem,Oper.wp,execOp,Act.eval,d];exact⟨_,rfl,rfl,a⟩
   · refine okP 0 2 fun p i o e _ _ a b=>?_;obtain⟨u1,d,rfl⟩:=b.g 8 12 rfl rfl;simp [go_sem,Oper.wp,execOp,Act.eval,d];exact⟨_,rfl,rfl,a⟩
   · refine okP 0 0 fun p i o e _ _ a b=>?_;obtain⟨u1,d,rfl⟩:=b.g 9 13 rfl rfl;have R:p=0:=by omega
     subst R;have r:ζ e N 3 (.slice x.al x.nl x.cl):=a.nb.cell 3;simp [go_sem,Oper.wp,execOp,Act.eval,d,r];exact⟨_,rfl,rfl,a⟩
   · refine okP 0 2 fun p i o e _ _ a b=>?_;have d:=b.k 1 rfl;simp [go_sem,Oper.wp,execOp,Act.eval,d];exact⟨_,rfl,rfl,a⟩
   · refine⟨rfl,.inl ⟨0,rfl,fun i o e a b=>?_⟩⟩;obtain⟨u1,d,rfl⟩:=b.g 10 14 rfl rfl;obtain⟨u2,C,rfl⟩:=b.g 11 15 rfl rfl;simp [go_sem,Oper.wp,execOp,Act.eval,d,C];obtain rfl:=a.here rfl;refine (I.z).mono ?_;rintro V Z ⟨E,m,L,rfl,z,B,v⟩;exact⟨_,rfl,⟨E,m,L,true⟩,fun j Y P h=>Oq P h,rfl,⟨Blk.jZ a.wk v s.z (by decide),Blk.eq (Blk.jZ a.nb v s.z (by decide)) rfl,a.below.trans (v.below G.z (fun U S=>(s.lt U S).1)),cR a.j v s.z (by decide),cR a.n v s.z (by decide),fun h=>absurd h (by decide),fun _=>⟨B,z⟩⟩⟩
   · refine okP 0 2 fun p i o e _ _ a b=>?_;obtain⟨u1,d,rfl⟩:=b.g 3 7 rfl rfl;simp [go_sem,Oper.wp,execOp,Act.eval,d];exact⟨_,rfl,rfl,a⟩
   · refine okP 0 2 fun p i o e _ _ a b=>?_;obtain⟨u1,d,rfl⟩:=b.g 13 17 rfl rfl;simp [go_sem,Oper.wp,execOp,Act.eval,d];exact⟨_,rfl,rfl,a⟩
   · refine⟨rfl,.inl ⟨1,rfl,fun i o e a b=>?_⟩⟩;obtain⟨u1,d,rfl⟩:=b.g 14 18 rfl rfl;obtain⟨u2,C,rfl⟩:=b.g 12 16 rfl rfl;have r:ζ e N 3 (.slice x.al x.nl x.cl):=a.nb.cell 3;have T:κ e N 3:=a.nb.thaw 3;simp [go_sem,Oper.wp,execOp,Act.eval,d,C,r,T];exact⟨.int .i64 0,i,fun _ _ _ h=>h,trivial,⟨bM a.wk a.nb (by decide),Blk.eq (a.nb.set 3 _) rfl,a.below.trans (aZ θ J.z),bF a.j a.nb (by decide),bF a.n a.nb (by decide),fun h=>absurd h (by decide),fun _=>⟨bF (a.l (by decide)).1 a.nb (by decide),(a.l (by decide)).2⟩⟩⟩
 · intro i o e D;have a:=D.ph;obtain⟨X,rfl,O⟩:=D.frame [4,5,6,7,8,9,10,11,12,13,14,15,16,17,18] rfl;obtain⟨B,z⟩:=a.l (by decide);have K:=ω (show Kx base st x N q now (st.leases.filter fun l=>!p l) w (.returned (.tuple #[])) e from ⟨rfl,⟨⟨x.aj,x.nj,x.cj,x.an,x.nn,x.cn,i.A,i.m,i.c⟩,⟨a.nb,a.wk,⟨a.j,a.n,B,H.own.lj,H.own.ln,z.symm⟩,H.bN,H.bW,v6 H.bs a.below.size⟩⟩,a.below⟩);clear D a O B z;go_wp2;go_end0;exact K
def aV (q:aK):Array Value:=#[.int .i64 q.kind,.string q.job.name,.int .i64 q.job.prio,.int .i64 q.job.need,.int .i64 q.job.tries,.string q.job.tag,.string q.node.name,.int .i64 q.node.room,.string q.node.zone,.string q.lease.job,.string q.lease.node,.int .i64 q.lease.till,.string q.name,.int .i64 q.n]
def bP (q:aK):Value:=.agg (aV q)
abbrev oL (q:aK):Array Value:=#[.int .i64 q.kind,.string q.job.name,.int .i64 q.job.prio,.int .i64 q.job.need,.int .i64 q.job.tries,.string q.job.tag,.string q.node.name,.int .i64 q.node.room,.string q.node.zone,.string q.lease.job,.string q.lease.node,.int .i64 q.lease.till,.string q.name,.int .i64 q.n]
def iE (base:Nat) (N a:Nat) (R:Int × ah × Int) (w:World) (e:Ending) (w':World):Prop:=
 e = .returned (.int .i64 R.1)/\Below base w w'/\(R.1=0->∃ b,uE w' base R.2.1 b N a R.2.2)
theorem StOwn.at2 {w:World} {base:Nat} {st:ah} {x:StA} (h:StOwn w base st x) (bj:x.nj<=1000) (bn:x.nn<=1000) (bl:x.nl<=1000) (oj:oF st.jobs) (on_:mP st.nodes) (ol:lI st.leases):StAt w w st x:=
 ⟨cS h.j,cS h.n,cS h.l,h.lj,h.ln,h.ll,by omega,by omega,by omega,oj,on_,ol⟩
def wH (base:Nat) (w:World):Prop:=∀ W,Below base w W->Tabs W
theorem wH.next {base:Nat} {w w':World} (h:wH base w) (b:Below base w w'):wH base w':=fun W a=>h W (b.trans a)
theorem nX {α:Type} {key:α->ByteArray} {l:List α} {x z:α} (h:z ∈ jI key l x):z=x\/z ∈ l:=by
 unfold jI at h;rw [lY] at h;rcases h with h | h
 · exact .inl h.2
 · exact .inr h.1
structure G9 (w W:World) (base:Nat) (st:ah) (x:StA) (N WK BP Q:Nat) (now:Int) (q:aK) (ls:List aC) (p:Nat) (γ:rE) (wx:World):Prop where
 bp:Blk wx BP 159 #[π WK 0]
 q:Blk wx Q 87 (aV q)
 wk:Blk wx WK 162 #[π N 0,now]
 nb:Blk wx N 26 #[st.rev,if p<2 then .slice x.aj x.nj x.cj else .slice γ.A γ.m γ.c,.slice x.an x.nn x.cn,.slice x.al x.nl x.cl]
 below:Below base w wx
 n:wx.ownsRow base 70 3 (.slice x.an x.nn x.cn) x.nn (au aH st.nodes)
 l:wx.ownsRow base 66 3 (.slice x.al x.nl x.cl) x.nl (au aB st.leases)
 here:p=0->wx=W.drew
 unset:p=0->γ.s=false
 r:0<p->wx.ownsRow base 85 5 (.slice γ.A γ.m γ.c) γ.m (au aS ls)/\γ.m=ls.length
structure H8 (w W:World) (base:Nat) (st:ah) (x:StA) (N WK BP Q:Nat) (now:Int) (q:aK) (ls:List av) (p:Nat) (γ:rE) (wx:World):Prop where
 bp:Blk wx BP 159 #[π WK 0]
 q:Blk wx Q 87 (aV q)
 wk:Blk wx WK 162 #[π N 0,now]
 nb:Blk wx N 26 #[st.rev,.slice x.aj x.nj x.cj,if p<2 then .slice x.an x.nn x.cn else .slice γ.A γ.m γ.c,.slice x.al x.nl x.cl]
 below:Below base w wx
 j:wx.ownsRow base 85 5 (.slice x.aj x.nj x.cj) x.nj (au aS st.jobs)
 l:wx.ownsRow base 66 3 (.slice x.al x.nl x.cl) x.nl (au aB st.leases)
 here:p=0->wx=W.drew
 unset:p=0->γ.s=false
 r:0<p->wx.ownsRow base 70 3 (.slice γ.A γ.m γ.c) γ.m (au aH ls)/\γ.m=ls.length
structure NY (w W:World) (base:Nat) (st:ah) (x:StA) (N WK BP Q:Nat) (now:Int) (q:aK) (ls:List ak) (p:Nat) (γ:rE) (wx:World):Prop where
 bp:Blk wx BP 159 #[π WK 0]
 q:Blk wx Q 87 (aV q)
 wk:Blk wx WK 162 #[π N 0,now]
 nb:Blk wx N 26 #[st.rev,.slice x.aj x.nj x.cj,.slice x.an x.nn x.cn,if p<2 then .slice x.al x.nl x.cl else .slice γ.A γ.m γ.c]
 below:Below base w wx
 j:wx.ownsRow base 85 5 (.slice x.aj x.nj x.cj) x.nj (au aS st.jobs)
 n:wx.ownsRow base 70 3 (.slice x.an x.nn x.cn) x.nn (au aH st.nodes)
 here:p=0->wx=W.drew
 unset:p=0->γ.s=false
 r:0<p->wx.ownsRow base 66 3 (.slice γ.A γ.m γ.c) γ.m (au aB ls)/\γ.m=ls.length
def MO (N a d Q:Nat) (st:ah) (x:StA) (now:Int) (q:aK) (b:rE):Nat->Value->Prop
 | 0,u=>u = π a 0
 | 1,u=>u = π a 0
 | 2,u=>u = π a 0
 | 3,u=>u = π N 0
 | 4,u=>u = π a 0
 | 5,u=>u = π a 0
 | 6,u=>u = π a 0
 | 7,u=>u = π N 0
 | 8,u=>u = π N 0
 | 9,u=>u = π N 1
 | 10,u=>u = .slice x.aj x.nj x.cj
 | 11,u=>u = π Q 1
 | 12,u=>u = .agg #[.string q.job.name,.int .i64 q.job.prio,.int .i64 q.job.need,.int .i64 q.job.tries,.string q.job.tag]
 | 13,u=>b.s=true/\u = .slice b.A b.m b.c
 | 14,u=>u = π N 0
 | 15,u=>u = π N 1
 | 16,_=>True
 | _,_=>False
theorem MP {N b a Q:Nat} {st:ah} {x:StA} {now:Int} {q:aK} {d f:rE} {j:Nat} {v:Value} (e:d.s=false) (h:MO N b a Q st x now q d j v):MO N b a Q st x now q f j v:=by
 unfold MO at *
 split at h
 all_goals first | exact h | (obtain⟨c,_⟩:=h; rw [e] at c; cases c)
structure An (w:World) (base:Nat) (st:ah) (x:StA) (N WK:Nat) (now:Int):Prop where
 w:uE w base st x N WK now
 nj:x.nj<=40
 nn:x.nn<=40
 nl:x.nl<=40
 oj:oF st.jobs
 on_:mP st.nodes
 ol:lI st.leases
 sj:cH aC.name st.jobs
 sn:cH av.name st.nodes
 sl:cH ak.job st.leases
def MQ (N a d Q:Nat) (st:ah) (x:StA) (now:Int) (q:aK) (b:rE):Nat->Value->Prop
 | 0,u=>u = π a 0
 | 1,u=>u = π a 0
 | 2,u=>u = π a 0
 | 3,u=>u = π N 0
 | 4,u=>u = π a 0
 | 5,u=>u = π a 0
 | 6,u=>u = π a 0
 | 7,u=>u = π N 0
 | 8,u=>u = π N 0
 | 9,u=>u = π N 2
 | 10,u=>u = .slice x.an x.nn x.cn
 | 11,u=>u = π Q 6
 | 12,u=>u = .agg #[.string q.node.name,.int .i64 q.node.room,.string q.node.zone]
 | 13,u=>b.s=true/\u = .slice b.A b.m b.c
 | 14,u=>u = π N 0
 | 15,u=>u = π N 2
 | 16,_=>True
 | _,_=>False
theorem MR {N b a Q:Nat} {st:ah} {x:StA} {now:Int} {q:aK} {d f:rE} {j:Nat} {v:Value} (e:d.s=false) (h:MQ N b a Q st x now q d j v):MQ N b a Q st x now q f j v:=by
 unfold MQ at *
 split at h
 all_goals first | exact h | (obtain⟨c,_⟩:=h; rw [e] at c; cases c)
theorem Ky :
 (∀ (base:Nat) (st:ah) (x:StA) (N p:Nat) (now:Int) (q:aK) (w:World) (i:An w base st x N p now) (E:q.kind=1) (O:q.job.name.size<=9223372036854775807/\q.job.tag.size<=9223372036854775807) (K:wH base w),ψ 81 #[π p 0,bP q] w (iE base N p (aE (mJ st q.job),mJ st q.job,now) w)) /\
 (∀ (base:Nat) (st:ah) (x:StA) (N p:Nat) (now:Int) (q:aK) (w:World) (i:An w base st x N p now) (E:q.kind=2) (O:q.node.name.size<=9223372036854775807/\q.node.zone.size<=9223372036854775807) (K:wH base w),ψ 81 #[π p 0,bP q] w (iE base N p (aE (mK st q.node),mK st q.node,now) w)):=by
 refine⟨@fun base st x N p now q w i E O K=>(fun(o:Unit)=>?_) (),@fun base st x N p now q w i E O K=>(fun(aa:Unit)=>?_) ()⟩<;>(
 first|(guard_hyp o;have ai:Tg 9:=⟨⟩;have ab:Tg 10:=⟨⟩)|(have ai:Tg 11:=⟨⟩;have ab:Tg 12:=⟨⟩)
 obtain⟨W,F⟩:∃ W,(w.alloc (.cells #[π p 0] 159)).alloc (.cells (aV q) 87)=W:=⟨_,rfl⟩;have M:Below w w W:=by rw [<- F]; exact ((θ).alloc lJ _).alloc (by simp) _
 have X:Blk W w 159 #[π p 0]:=by rw [<- F]; exact Blk.alloc (show Blk _ _ _ _ from n5 w _) _
 have U:Blk W (w.heap.size+1) 87 (aV q):=by
  rw [<- F];have:=n5 (χ w #[π p 0] 159) (.cells (aV q) 87);rwa [show (w.alloc (.cells #[π p 0] 159)).heap.size=w.heap.size+1 by simp] at this
 have s:=i.w.below M;have ao:ζ W (w.heap.size+1) 0 (.int .i64 ai):=by rw [U.cell 0,<- E]; rfl
 first|(guard_hyp o;have HD:=ω (Kt base x.aj x.nj x.cj st.jobs q.job W.drew s.own.j.drew s.own.lj (by have:=i.nj; omega) i.sj s.bs))|have HD:=ω (IP base x.an x.nn x.cn st.nodes q.node W.drew s.own.n.drew s.own.ln (by have:=i.nn; omega) i.sn s.bs)
 first|(guard_hyp o;have v:=ω (show W.drew.ownsRow base 85 5 (.slice x.aj x.nj x.cj) x.nj (au aS st.jobs) from s.own.j.drew))|have v:=ω (show W.drew.ownsRow base 70 3 (.slice x.an x.nn x.cn) x.nn (au aH st.nodes) from s.own.n.drew)
 have ad:=ω (show base<=W.drew.heap.size from s.bs);have ae:=ω s.bN;have H:=ω i;have aw:=ω (M.mono i.w.bs);have HT:=ω K
 first|(guard_hyp o;have R:G9 w W base st x N p w (w.heap.size+1) now q (jI aC.name st.jobs q.job) 0 ⟨none,0,0,false⟩ W.drew:=⟨X,U,s.wk,s.nb,(M.mono i.w.bs).drew,s.own.n.drew,s.own.l.drew,fun _=>rfl,fun _=>rfl,fun i=>absurd i (by decide)⟩)|have R:H8 w W base st x N p w (w.heap.size+1) now q (jI av.name st.nodes q.node) 0 ⟨none,0,0,false⟩ W.drew:=⟨X,U,s.wk,s.nb,(M.mono i.w.bs).drew,s.own.j.drew,s.own.l.drew,fun _=>rfl,fun _=>rfl,fun i=>absurd i (by decide)⟩
 clear M X U s K;unfold bP;unfold aV at F |-;clear E;go_enter Tryz.func81,Tryz.ntmps81
 go_wp2_with fail
 try rw [F]
 clear F ao
 first|(guard_hyp o;refine kZ (n:=157) (by kernel_rfl) (MO N p w (w.heap.size+1) st x now q) [13,16] (G9 w W base st x N p w (w.heap.size+1) now q (jI aC.name st.jobs q.job)) ⟨none,0,0,false⟩ (by decide +kernel) (by decide +kernel) rfl R ?_ ?_)|refine kZ (n:=157) (by kernel_rfl) (MQ N p w (w.heap.size+1) st x now q) [13,16] (H8 w W base st x N p w (w.heap.size+1) now q (jI av.name st.nodes q.node)) ⟨none,0,0,false⟩ (by decide +kernel) (by decide +kernel) rfl R ?_ ?_
 · refine⟨?_,?_,?_,?_,?_,?_,?_,?_,?_,?_,?_,?_,?_,?_,?_,?_,?_,trivial⟩
   · refine okP 0 2 fun y e u h D C a b=>?_;have d:=b.k 2 rfl;have z:ζ h w 0 (π p 0):=a.bp.cell 0;simp [go_sem,Oper.wp,execOp,Act.eval,d,z];exact⟨_,rfl,rfl,a⟩
   · refine okP 0 2 fun y e u h D C a b=>?_
     first|(guard_hyp o;obtain⟨u1,d,rfl⟩:=b.g 0 10 rfl rfl)|obtain⟨u1,d,rfl⟩:=b.g 0 35 rfl rfl
     simp [go_sem,Oper.wp,execOp,Act.eval,d];exact⟨_,rfl,rfl,a⟩
   · refine okP 0 2 fun y e u h D C a b=>?_
     first|(guard_hyp o;obtain⟨u1,d,rfl⟩:=b.g 1 11 rfl rfl)|obtain⟨u1,d,rfl⟩:=b.g 1 36 rfl rfl
     simp [go_sem,Oper.wp,execOp,Act.eval,d];exact⟨_,rfl,rfl,a⟩
   · refine okP 0 2 fun y e u h D C a b=>?_
     first|(guard_hyp o;obtain⟨u1,d,rfl⟩:=b.g 2 12 rfl rfl)|obtain⟨u1,d,rfl⟩:=b.g 2 37 rfl rfl
     have z:ζ h p 0 (π N 0):=a.wk.cell 0;simp [go_sem,Oper.wp,execOp,Act.eval,d,z];exact⟨_,rfl,rfl,a⟩
   · refine okP 0 2 fun y e u h D C a b=>?_;have d:=b.k 2 rfl;have z:ζ h w 0 (π p 0):=a.bp.cell 0;simp [go_sem,Oper.wp,execOp,Act.eval,d,z];exact⟨_,rfl,rfl,a⟩
   · refine okP 0 2 fun y e u h D C a b=>?_
     first|(guard_hyp o;obtain⟨u1,d,rfl⟩:=b.g 4 14 rfl rfl)|obtain⟨u1,d,rfl⟩:=b.g 4 39 rfl rfl
     simp [go_sem,Oper.wp,execOp,Act.eval,d];exact⟨_,rfl,rfl,a⟩
   · refine okP 0 2 fun y e u h D C a b=>?_
     first|(guard_hyp o;obtain⟨u1,d,rfl⟩:=b.g 5 15 rfl rfl)|obtain⟨u1,d,rfl⟩:=b.g 5 40 rfl rfl
     simp [go_sem,Oper.wp,execOp,Act.eval,d];exact⟨_,rfl,rfl,a⟩
   · refine okP 0 2 fun y e u h D C a b=>?_
     first|(guard_hyp o;obtain⟨u1,d,rfl⟩:=b.g 6 16 rfl rfl)|obtain⟨u1,d,rfl⟩:=b.g 6 41 rfl rfl
     have z:ζ h p 0 (π N 0):=a.wk.cell 0;simp [go_sem,Oper.wp,execOp,Act.eval,d,z];exact⟨_,rfl,rfl,a⟩
   · refine okP 0 2 fun y e u h D C a b=>?_
     first|(guard_hyp o;obtain⟨u1,d,rfl⟩:=b.g 7 17 rfl rfl)|obtain⟨u1,d,rfl⟩:=b.g 7 42 rfl rfl
     simp [go_sem,Oper.wp,execOp,Act.eval,d];exact⟨_,rfl,rfl,a⟩
   · refine okP 0 2 fun y e u h D C a b=>?_
     first|(guard_hyp o;obtain⟨u1,d,rfl⟩:=b.g 8 18 rfl rfl)|obtain⟨u1,d,rfl⟩:=b.g 8 43 rfl rfl
     simp [go_sem,Oper.wp,execOp,Act.eval,d];exact⟨_,rfl,rfl,a⟩
   · refine okP 0 0 fun y e u h D C a b=>?_
     first|(guard_hyp o;obtain⟨u1,d,rfl⟩:=b.g 9 19 rfl rfl)|obtain⟨u1,d,rfl⟩:=b.g 9 44 rfl rfl
     obtain rfl:y=0:=by omega
     first|(guard_hyp o;have z:ζ h N 1 (.slice x.aj x.nj x.cj):=a.nb.cell 1)|have z:ζ h N 2 (.slice x.an x.nn x.cn):=a.nb.cell 2
     simp [go_sem,Oper.wp,execOp,Act.eval,d,z];exact⟨_,rfl,rfl,a⟩
   · refine okP 0 2 fun y e u h D C a b=>?_;have d:=b.k 3 rfl;simp [go_sem,Oper.wp,execOp,Act.eval,d];exact⟨_,rfl,rfl,a⟩
   · refine okP 0 2 fun y e u h D C a b=>?_
     first|(guard_hyp o;obtain⟨u1,d,rfl⟩:=b.g 11 21 rfl rfl)|obtain⟨u1,d,rfl⟩:=b.g 11 46 rfl rfl
     first|(guard_hyp o;have z:ζ h (w.heap.size+1) 1 (.string q.job.name):=a.q.cell 1)|have z:ζ h (w.heap.size+1) 6 (.string q.node.name):=a.q.cell 6
     first|(guard_hyp o;have Y:ζ h (w.heap.size+1) 2 (.int .i64 q.job.prio):=a.q.cell 2)|have Y:ζ h (w.heap.size+1) 7 (.int .i64 q.node.room):=a.q.cell 7
     first
      |(
       guard_hyp o
       have Z:ζ h (w.heap.size+1) 3 (.int .i64 q.job.need):=a.q.cell 3;have ak:ζ h (w.heap.size+1) 4 (.int .i64 q.job.tries):=a.q.cell 4)
      |skip
     first|(guard_hyp o;have am:ζ h (w.heap.size+1) 5 (.string q.job.tag):=a.q.cell 5)|have Z:ζ h (w.heap.size+1) 8 (.string q.node.zone):=a.q.cell 8
     first
      |(
       guard_hyp o
       simp [go_sem,Oper.wp,execOp,Act.eval,d,z,Y,Z,ak,am])
      |(
       guard_hyp aa
       simp [go_sem,Oper.wp,execOp,Act.eval,d,z,Y,Z])
     exact⟨_,rfl,rfl,a⟩
   · refine⟨rfl,.inl ⟨0,rfl,fun e u h a b=>?_⟩⟩
     first|(guard_hyp o;obtain⟨u1,d,rfl⟩:=b.g 10 20 rfl rfl)|obtain⟨u1,d,rfl⟩:=b.g 10 45 rfl rfl
     first|(guard_hyp o;obtain⟨u2,J,rfl⟩:=b.g 12 22 rfl rfl)|obtain⟨u2,J,rfl⟩:=b.g 12 47 rfl rfl
     simp [go_sem,Oper.wp,execOp,Act.eval,d,J];obtain rfl:=a.here rfl;refine (HD.z).mono ?_;rintro I w' ⟨A',m,c',rfl,hm,ho,B⟩
     first|(guard_hyp o;exact⟨_,rfl,⟨A',m,c',true⟩,fun j ar hj i=>MP (a.unset rfl) i,⟨rfl,rfl⟩,⟨Blk.jZ a.bp B v.z (by decide),Blk.jZ a.q B v.z (by decide),Blk.jZ a.wk B v.z (by decide),Blk.eq (Blk.jZ a.nb B v.z (by decide)) rfl,a.below.trans (B.below ad.z (fun q E=>(v.lt q E).1)),cR a.n B v.z (by decide),cR a.l B v.z (by decide),fun i=>absurd i (by decide),fun i=>absurd i (by decide),fun _=>⟨ho,hm⟩⟩⟩)|exact⟨_,rfl,⟨A',m,c',true⟩,fun j ar hj i=>MR (a.unset rfl) i,⟨rfl,rfl⟩,⟨Blk.jZ a.bp B v.z (by decide),Blk.jZ a.q B v.z (by decide),Blk.jZ a.wk B v.z (by decide),Blk.eq (Blk.jZ a.nb B v.z (by decide)) rfl,a.below.trans (B.below ad.z (fun q E=>(v.lt q E).1)),cR a.j B v.z (by decide),cR a.l B v.z (by decide),fun i=>absurd i (by decide),fun i=>absurd i (by decide),fun _=>⟨ho,hm⟩⟩⟩
   · refine okP 0 2 fun y e u h D C a b=>?_
     first|(guard_hyp o;obtain⟨u1,d,rfl⟩:=b.g 3 13 rfl rfl)|obtain⟨u1,d,rfl⟩:=b.g 3 38 rfl rfl
     simp [go_sem,Oper.wp,execOp,Act.eval,d];exact⟨_,rfl,rfl,a⟩
   · refine okP 0 2 fun y e u h D C a b=>?_
     first|(guard_hyp o;obtain⟨u1,d,rfl⟩:=b.g 14 24 rfl rfl)|obtain⟨u1,d,rfl⟩:=b.g 14 49 rfl rfl
     simp [go_sem,Oper.wp,execOp,Act.eval,d];exact⟨_,rfl,rfl,a⟩
   · refine⟨rfl,.inl ⟨1,rfl,fun e u h a b=>?_⟩⟩
     first|(guard_hyp o;obtain⟨u1,d,rfl⟩:=b.g 15 25 rfl rfl)|obtain⟨u1,d,rfl⟩:=b.g 15 50 rfl rfl
     first|(guard_hyp o;obtain⟨u2,J,aq,rfl⟩:=b.g 13 23 rfl rfl)|obtain⟨u2,J,aq,rfl⟩:=b.g 13 48 rfl rfl
     first|(guard_hyp o;have hc:ζ h N 1 (.slice x.aj x.nj x.cj):=a.nb.cell 1)|have hc:ζ h N 2 (.slice x.an x.nn x.cn):=a.nb.cell 2
     have Q:κ h N ab:=a.nb.thaw ab;simp [go_sem,Oper.wp,execOp,Act.eval,d,J,hc,Q]
     first|(guard_hyp o;exact⟨.int .i64 0,e,fun _ _ _ i=>i,trivial,⟨bM a.bp a.nb (by decide),bM a.q a.nb (by decide),bM a.wk a.nb (by decide),Blk.eq (a.nb.set 1 _) rfl,a.below.trans (aZ θ ae.z),bF a.n a.nb (by decide),bF a.l a.nb (by decide),fun i=>absurd i (by decide),fun i=>absurd i (by decide),fun _=>⟨bF (a.r (by decide)).1 a.nb (by decide),(a.r (by decide)).2⟩⟩⟩)|exact⟨.int .i64 0,e,fun _ _ _ i=>i,trivial,⟨bM a.bp a.nb (by decide),bM a.q a.nb (by decide),bM a.wk a.nb (by decide),Blk.eq (a.nb.set 2 _) rfl,a.below.trans (aZ θ ae.z),bF a.j a.nb (by decide),bF a.l a.nb (by decide),fun i=>absurd i (by decide),fun i=>absurd i (by decide),fun _=>⟨bF (a.r (by decide)).1 a.nb (by decide),(a.r (by decide)).2⟩⟩⟩
 · intro e u h T;have a:=T.ph
   first|(guard_hyp o;obtain⟨fv,rfl,ag⟩:=T.frame [10,11,12,13,14,15,16,17,18,19,20,21,22,23,24,25] rfl)|obtain⟨fv,rfl,ag⟩:=T.frame [35,36,37,38,39,40,41,42,43,44,45,46,47,48,49,50] rfl
   first
    |(
     guard_hyp o
     have G:Blk h N 26 #[st.rev,.slice e.A e.m e.c,.slice x.an x.nn x.cn,.slice x.al x.nl x.cl]:=a.nb;have P:uE h base (mJ st q.job) ⟨e.A,e.m,e.c,x.an,x.nn,x.cn,x.al,x.nl,x.cl⟩ N p now:=⟨G,a.wk,⟨(a.r (by decide)).1,a.n,a.l,(a.r (by decide)).2.symm,H.w.own.ln,H.w.own.ll⟩,H.w.bN,H.w.bW,v6 H.w.bs a.below.size⟩)
    |(
     guard_hyp aa
     have G:Blk h N 26 #[st.rev,.slice x.aj x.nj x.cj,.slice e.A e.m e.c,.slice x.al x.nl x.cl]:=a.nb;have P:uE h base (mK st q.node) ⟨x.aj,x.nj,x.cj,e.A,e.m,e.c,x.al,x.nl,x.cl⟩ N p now:=⟨G,a.wk,⟨a.j,(a.r (by decide)).1,a.l,H.w.own.lj,(a.r (by decide)).2.symm,H.w.own.ll⟩,H.w.bN,H.w.bW,v6 H.w.bs a.below.size⟩)
   have ap:=(a.r (by decide)).2
   first|(guard_hyp o;have xU:=sN (key:=aC.name) (x:=q.job) H.sj)|have xU:=sN (key:=av.name) (x:=q.node) H.sn
   first
    |(
     guard_hyp o
     have V:=ω (show ψ 37 #[.agg #[st.rev,.slice e.A e.m e.c,.slice x.an x.nn x.cn,.slice x.al x.nl x.cl]] h _ from pI (mJ st q.job) ⟨e.A,e.m,e.c,x.an,x.nn,x.cn,x.al,x.nl,x.cl⟩ h (P.own.at2 (by have:=H.w.own.lj; have:=H.nj; show e.m<=1000; omega) (by have:=H.nn; show x.nn<=1000; omega) (by have:=H.nl; show x.nl<=1000; omega) (fun ac Q=>(nX Q).elim (fun I=>by rw [I]; exact O) (H.oj ac)) (H.on_) H.ol) (HT.z _ a.below)))
    |(
     guard_hyp aa
     have V:=ω (show ψ 37 #[.agg #[st.rev,.slice x.aj x.nj x.cj,.slice e.A e.m e.c,.slice x.al x.nl x.cl]] h _ from pI (mK st q.node) ⟨x.aj,x.nj,x.cj,e.A,e.m,e.c,x.al,x.nl,x.cl⟩ h (P.own.at2 (by have:=H.nj; show x.nj<=1000; omega) (by have:=H.w.own.ln; have:=H.nn; show e.m<=1000; omega) (by have:=H.nl; show x.nl<=1000; omega) (H.oj) (fun ac Q=>(nX Q).elim (fun I=>by rw [I]; exact O) (H.on_ ac)) H.ol) (HT.z _ a.below)))
   have af:=ω P;have S:=ω a.below;have b0:ζ h w 0 (π p 0):=a.bp.cell 0;have b1:ζ h p 0 (π N 0):=a.wk.cell 0;obtain⟨n0,n1,n2,n3⟩:=Blk.c4 (G);have ax:=G.lt;clear T a ag G P ap xU R;simp only [foldl_cons,foldl_nil,setIfInBounds_toArray,set_cons_succ,set_cons_zero]
   go_wp2_with fail
   refine V.mono ?_;rintro I w5 ⟨rfl,L⟩
   first|(guard_hyp o;have aW:=ω (show iE base N p (aE (mJ st q.job),mJ st q.job,now) w (.returned (.int .i64 (aE (mJ st q.job)))) w5 from ⟨rfl,S.trans (L.mono (v6 H.w.bs S.size)),fun _=>⟨_,af.below L⟩⟩))|have aW:=ω (show iE base N p (aE (mK st q.node),mK st q.node,now) w (.returned (.int .i64 (aE (mK st q.node)))) w5 from ⟨rfl,S.trans (L.mono (v6 H.w.bs S.size)),fun _=>⟨_,af.below L⟩⟩)
   clear L b0 b1 n0 n1 n2 n3 V;go_wp2;go_ret;exact aW)
def nW (T t:TypeId) (cs:Array Value) (w:World) (e:Ending) (w':World):Prop:=
 ∃ P,e = .returned (.iface T (π P 0))/\w.heap.size<=P/\Blk w' P t cs/\Below w w w'
def qJ (S:Nat) (q:aK) (w:World) (e:Ending) (w':World):Prop:=
 e = .returned (.tuple #[])/\Blk w' S 87 (aV q)/\(∀ g,g<w.heap.size->g≠S->w'.heap[g]? = w.heap[g]?)/\Below S w w'
def dH (k:Int):aK:=⟨k,bJ,aU,aN,⟨#[]⟩,0⟩
theorem gX :
 (∀ (q:aK) (w:World) (b:q.kind=1),ψ 77 #[bP q] w (nW 205 207 #[q.job.name,q.job.prio,q.job.need,q.job.tries,q.job.tag] w)) /\
 (∀ (q:aK) (w:World) (b:q.kind=2),ψ 77 #[bP q] w (nW 208 210 #[q.node.name,q.node.room,q.node.zone] w)) /\
 (∀ (q:aK) (w:World) (b:q.kind=5),ψ 77 #[bP q] w (nW 211 213 #[q.lease.job,q.lease.node,q.lease.till] w)) /\
 (∀ (q:aK) (w:World) (b:q.kind=3),ψ 77 #[bP q] w (nW 215 214 #[q.name] w)) /\
 (∀ (q:aK) (w:World) (b:q.kind=4),ψ 77 #[bP q] w (nW 215 214 #[q.name] w)) /\
 (∀ (q:aK) (w:World) (b:q.kind=6),ψ 77 #[bP q] w (nW 215 214 #[q.name] w)) /\
 (∀ (q:aK) (w:World) (b:q.kind=7),ψ 77 #[bP q] w (nW 217 216 #[q.n] w)):=by
 refine⟨@fun q w b=>(fun(i:Unit)=>?_) (),@fun q w b=>(fun(j:Unit)=>?_) (),@fun q w b=>(fun(k:Unit)=>?_) (),@fun q w b=>(fun(l g:Unit)=>?_) () (),@fun q w b=>(fun(m g:Unit)=>?_) () (),@fun q w b=>(fun(o g:Unit)=>?_) () (),@fun q w b=>(fun(p:Unit)=>?_) ()⟩<;>(
 first|(guard_hyp i;have c:Tg 9:=⟨⟩)|(guard_hyp j;have c:Tg 11:=⟨⟩)|(guard_hyp k;have c:Tg 24:=⟨⟩)|(guard_hyp l;have c:Tg 25:=⟨⟩)|(guard_hyp m;have c:Tg 26:=⟨⟩)|(guard_hyp o;have c:Tg 27:=⟨⟩)|(have c:Tg 28:=⟨⟩)
 obtain⟨W,d⟩:∃ W,w.alloc (.cells (aV q) 87)=W:=⟨_,rfl⟩;have a:Blk W w 87 (aV q):=by rw [<- d]; exact n5 w _
 have h:Below w w W:=by rw [<- d]; exact (θ).alloc lJ _
 have r:ζ W w 0 (.int .i64 c):=by rw [a.cell 0,<- b]; rfl
 first
  |(
   guard_hyp i
   have s:ζ W w 1 (.string q.job.name):=a.cell 1;have z:ζ W w 2 (.int .i64 q.job.prio):=a.cell 2;have B:ζ W w 3 (.int .i64 q.job.need):=a.cell 3;have C:ζ W w 4 (.int .i64 q.job.tries):=a.cell 4;have D:ζ W w 5 (.string q.job.tag):=a.cell 5)
  |(
   guard_hyp j
   have E:ζ W w 6 (.string q.node.name):=a.cell 6;have F:ζ W w 7 (.int .i64 q.node.room):=a.cell 7;have G:ζ W w 8 (.string q.node.zone):=a.cell 8)
  |(
   guard_hyp k
   have H:ζ W w 9 (.string q.lease.job):=a.cell 9;have u:ζ W w 10 (.string q.lease.node):=a.cell 10;have v:ζ W w 11 (.int .i64 q.lease.till):=a.cell 11)
  |(
   guard_hyp g
   have x:ζ W w 12 (.string q.name):=a.cell 12)
  |(
   guard_hyp p
   have y:ζ W w 13 (.int .i64 q.n):=a.cell 13)
 have e:=ω h;unfold bP;unfold aV at d |-;clear b a h;go_enter Tryz.func77,Tryz.ntmps77;go_wp2
 try rw [d]
 clear d;go_ret;exact⟨_,rfl,e.size,n5 W _,e.alloc e.size _⟩)
theorem Kz (q:aK) (P S:Nat) (w:World) (c:Blk w P 207 #[q.job.name,q.job.prio,q.job.need,q.job.tries,q.job.tag]) (a:Blk w S 87 (aV (dH q.kind))):ψ 263 #[π P 0,π S 0] w (qJ S ⟨q.kind,q.job,aU,aN,⟨#[]⟩,0⟩ w):=by
 obtain⟨j,k,l,m,n⟩:=Blk.c5 (c);have o:ζ w S 1 (.string ⟨#[]⟩):=a.cell 1;have p:ζ w S 2 (.int .i64 0):=a.cell 2;have r:ζ w S 3 (.int .i64 0):=a.cell 3;have s:ζ w S 4 (.int .i64 0):=a.cell 4;have u:ζ w S 5 (.string ⟨#[]⟩):=a.cell 5;have v:κ w S 1:=a.thaw 1;have z2:κ w S 2:=a.thaw 2;have x:κ w S 3:=a.thaw 3;have z4:κ w S 4:=a.thaw 4;have y:κ w S 5:=a.thaw 5;have h:=c.lt;have i:=a.lt;have d:=ω a;clear c a;go_enter Tryz.func263,Tryz.ntmps263;go_wp2;go_end0;exact⟨rfl,Blk.eq (Blk.set (Blk.set (Blk.set (Blk.set (Blk.set d.z 1 _) 2 _) 3 _) 4 _) 5 _) rfl,fun g e b=>(Below.heap_setCell _ ⟨S,5,none⟩ _ g b).trans ((Below.heap_setCell _ ⟨S,4,none⟩ _ g b).trans ((Below.heap_setCell _ ⟨S,3,none⟩ _ g b).trans ((Below.heap_setCell _ ⟨S,2,none⟩ _ g b).trans ((Below.heap_setCell _ ⟨S,1,none⟩ _ g b).trans (rfl))))),aZ (aZ (aZ (aZ (aZ θ lJ) lJ) lJ) lJ) lJ⟩
theorem IV (q:aK) (P S:Nat) (w:World) (b:Blk w P 210 #[q.node.name,q.node.room,q.node.zone]) (a:Blk w S 87 (aV (dH q.kind))):ψ 272 #[π P 0,π S 0] w (qJ S ⟨q.kind,bJ,q.node,aN,⟨#[]⟩,0⟩ w):=by
 have j:ζ w P 0 (.string q.node.name):=b.cell 0;have k:ζ w P 1 (.int .i64 q.node.room):=b.cell 1;have l:ζ w P 2 (.string q.node.zone):=b.cell 2;have m:ζ w S 6 (.string ⟨#[]⟩):=a.cell 6;have n:ζ w S 7 (.int .i64 0):=a.cell 7;have o:ζ w S 8 (.string ⟨#[]⟩):=a.cell 8;have p:κ w S 6:=a.thaw 6;have r:κ w S 7:=a.thaw 7;have z8:κ w S 8:=a.thaw 8;have h:=b.lt;have i:=a.lt;have d:=ω a;clear b a;go_enter Tryz.func272,Tryz.ntmps272;go_wp2;go_end0;exact⟨rfl,Blk.eq (Blk.set (Blk.set (Blk.set d.z 6 _) 7 _) 8 _) rfl,fun g e c=>(Below.heap_setCell _ ⟨S,8,none⟩ _ g c).trans ((Below.heap_setCell _ ⟨S,7,none⟩ _ g c).trans ((Below.heap_setCell _ ⟨S,6,none⟩ _ g c).trans (rfl))),aZ (aZ (aZ θ lJ) lJ) lJ⟩
theorem FQ (q:aK) (P S:Nat) (w:World) (b:Blk w P 213 #[q.lease.job,q.lease.node,q.lease.till]) (a:Blk w S 87 (aV (dH q.kind))):ψ 277 #[π P 0,π S 0] w (qJ S ⟨q.kind,bJ,aU,q.lease,⟨#[]⟩,0⟩ w):=by
 have j:ζ w P 0 (.string q.lease.job):=b.cell 0;have k:ζ w P 1 (.string q.lease.node):=b.cell 1;have l:ζ w P 2 (.int .i64 q.lease.till):=b.cell 2;have o:ζ w S 9 (.string ⟨#[]⟩):=a.cell 9;have m:ζ w S 10 (.string ⟨#[]⟩):=a.cell 10;have n:ζ w S 11 (.int .i64 0):=a.cell 11;have s:κ w S 9:=a.thaw 9;have p:κ w S 10:=a.thaw 10;have r:κ w S 11:=a.thaw 11;have h:=b.lt;have i:=a.lt;have d:=ω a;clear b a;go_enter Tryz.func277,Tryz.ntmps277;go_wp2;go_end0;exact⟨rfl,Blk.eq (Blk.set (Blk.set (Blk.set d.z 9 _) 10 _) 11 _) rfl,fun g e c=>(Below.heap_setCell _ ⟨S,11,none⟩ _ g c).trans ((Below.heap_setCell _ ⟨S,10,none⟩ _ g c).trans ((Below.heap_setCell _ ⟨S,9,none⟩ _ g c).trans (rfl))),aZ (aZ (aZ θ lJ) lJ) lJ⟩
theorem IW (q:aK) (P S:Nat) (w:World) (b:Blk w P 214 #[q.name]) (a:Blk w S 87 (aV (dH q.kind))):ψ 282 #[π P 0,π S 0] w (qJ S ⟨q.kind,bJ,aU,aN,q.name,0⟩ w):=by
 have j:ζ w P 0 (.string q.name):=b.cell 0;have k:ζ w S 12 (.string ⟨#[]⟩):=a.cell 12;have l:κ w S 12:=a.thaw 12;have h:=b.lt;have i:=a.lt;have c:=ω a;clear b a;go_enter Tryz.func282,Tryz.ntmps282;go_wp2;go_end0;exact⟨rfl,Blk.eq (Blk.set c.z 12 _) rfl,fun g e d=>(Below.heap_setCell _ ⟨S,12,none⟩ _ g d).trans (rfl),aZ θ lJ⟩
theorem FR (q:aK) (P S:Nat) (w:World) (b:Blk w P 216 #[q.n]) (a:Blk w S 87 (aV (dH q.kind))):ψ 286 #[π P 0,π S 0] w (qJ S ⟨q.kind,bJ,aU,aN,⟨#[]⟩,q.n⟩ w):=by
 have j:ζ w P 0 (.int .i64 q.n):=b.cell 0;have k:ζ w S 13 (.int .i64 0):=a.cell 13;have l:κ w S 13:=a.thaw 13;have h:=b.lt;have i:=a.lt;have c:=ω a;clear b a;go_enter Tryz.func286,Tryz.ntmps286;go_wp2;go_end0;exact⟨rfl,Blk.eq (Blk.set c.z 13 _) rfl,fun g e d=>(Below.heap_setCell _ ⟨S,13,none⟩ _ g d).trans (rfl),aZ θ lJ⟩
def mQ (w:World) (S:Nat) (h:aK):World:=World.setCell (World.setCell (World.setCell (World.setCell (World.setCell (World.setCell (World.setCell (World.setCell (World.setCell (World.setCell (World.setCell (World.setCell (World.setCell (World.setCell w ⟨S,0,none⟩ (.int .i64 h.kind)) ⟨S,1,none⟩ (.string h.job.name)) ⟨S,2,none⟩ (.int .i64 h.job.prio)) ⟨S,3,none⟩ (.int .i64 h.job.need)) ⟨S,4,none⟩ (.int .i64 h.job.tries)) ⟨S,5,none⟩ (.string h.job.tag)) ⟨S,6,none⟩ (.string h.node.name)) ⟨S,7,none⟩ (.int .i64 h.node.room)) ⟨S,8,none⟩ (.string h.node.zone)) ⟨S,9,none⟩ (.string h.lease.job)) ⟨S,10,none⟩ (.string h.lease.node)) ⟨S,11,none⟩ (.int .i64 h.lease.till)) ⟨S,12,none⟩ (.string h.name)) ⟨S,13,none⟩ (.int .i64 h.n)
theorem ny {w:World} {S:Nat} {c:aK} (h:aK) (a:Blk w S 87 (aV c)):Blk (mQ w S h) S 87 (aV h):=by
 have b:=Blk.set (Blk.set (Blk.set (Blk.set (Blk.set (Blk.set (Blk.set (Blk.set (Blk.set (Blk.set (Blk.set (Blk.set (Blk.set (Blk.set a 0 (.int .i64 h.kind)) 1 (.string h.job.name)) 2 (.int .i64 h.job.prio)) 3 (.int .i64 h.job.need)) 4 (.int .i64 h.job.tries)) 5 (.string h.job.tag)) 6 (.string h.node.name)) 7 (.int .i64 h.node.room)) 8 (.string h.node.zone)) 9 (.string h.lease.job)) 10 (.string h.lease.node)) 11 (.int .i64 h.lease.till)) 12 (.string h.name)) 13 (.int .i64 h.n);refine Blk.eq b ?_;simp [aV]
theorem lg (w:World) (S:Nat) (h:aK):Below S w (mQ w S h):=aZ (aZ (aZ (aZ (aZ (aZ (aZ (aZ (aZ (aZ (aZ (aZ (aZ (aZ θ lJ) lJ) lJ) lJ) lJ) lJ) lJ) lJ) lJ) lJ) lJ) lJ) lJ) lJ
theorem oU (k:Int) (h:aK) (T:TypeId) (F:FuncId) (v:Value) (w:World)
 (I : ∀ w, (method 415 T v "bracken/req.into").run Tryz.prog w = .ok (F, v) w)
 (E:∀ a (w:World),(callFunc F a).run Tryz.prog w = .ok (.enter F a) w)
 (d:∀ W S,Below w w W->w.heap.size<=S->Blk W S 87 (aV (dH k))->ψ F #[v,π S 0] W (qJ S h W)) :
 ψ 79 #[k,.iface T v] w fun s w'=>s = .returned (bP h)/\Below w w w':=by
 obtain⟨W,b⟩:∃ W,(w.alloc (.cells (aV (dH 0)) 87)).alloc (.cells (aV (dH k)) 87)=W:=⟨_,rfl⟩;have j:Below w w W:=by rw [<- b]; exact ((θ).alloc lJ _).alloc (by simp) _
 have y:Blk W w 87 (aV (dH 0)):=by rw [<- b]; exact Blk.alloc (show Blk _ _ _ _ from n5 w _) _
 have z:Blk W (w.heap.size+1) 87 (aV (dH k)):=by
  rw [<- b];have:=n5 (χ w (aV (dH 0)) 87) (.cells (aV (dH k)) 87);rwa [show (w.alloc (.cells (aV (dH 0)) 87)).heap.size=w.heap.size+1 by simp] at this
 have d:=ω (d W (w.heap.size+1) j (Nat.le_succ _) z);have D:=ω j;have p:=ω y;clear j y z;unfold dH aV bJ aU aN at b;have o:=ω b;clear b;unfold bP aV;go_enter Tryz.func79,Tryz.ntmps79
 go_wp2_with fail
 rw [o.z];clear o;refine d.mono ?_;rintro s g ⟨rfl,m,x,u⟩;have c:Blk g w 87 (aV (dH 0)):=(x _ p.lt (by omega)).trans p.z;have r:=ω ((D.trans (u.mono (Nat.le_succ _))));obtain⟨Z,s1,s2,s3,s4,s5,s6,s7,s8,s9,aa,ab,ac,ad⟩:=Blk.c14 (m);obtain⟨J,K,Q,R,r4,r5,U,V,X,Y,L,N,O,P⟩:=Blk.c14 (show Blk g (w.heap.size) _ #[(0:Int),.string ⟨#[]⟩,(0:Int),(0:Int),(0:Int),.string ⟨#[]⟩,.string ⟨#[]⟩,(0:Int),.string ⟨#[]⟩,.string ⟨#[]⟩,.string ⟨#[]⟩,(0:Int),.string ⟨#[]⟩,(0:Int)] from c);obtain⟨z0,z1,z2,z3,z4,z5,z6,z7,z8,z9,ae,af,ag,ah⟩:=Blk.z14 (c);have G:=m.lt;have H:=c.lt;have q:=ω c;clear m x u c d;go_wp2;have l:=ny h q.z;have i:=r.trans (lg g w h);obtain⟨B,e⟩:∃ B,mQ g w h=B:=⟨_,rfl⟩;rw [e] at l i;unfold mQ at e;simp only [e];clear e Z J z0 s1 K z1 s2 Q z2 s3 R z3 s4 r4 z4 s5 r5 z5 s6 U z6 s7 V z7 s8 X z8 s9 Y z9 aa L ae ab N af ac O ag ad P ah G H I E q r;obtain⟨f0,f1,f2,f3,f4,f5,f6,f7,f8,f9,ai,aj,ak,al⟩:=Blk.c14 (l);have C:=ω i;clear l i;refine bodyPost_ret (v:=.agg #[.int .i64 h.kind,.string h.job.name,.int .i64 h.job.prio,.int .i64 h.job.need,.int .i64 h.job.tries,.string h.job.tag,.string h.node.name,.int .i64 h.node.room,.string h.node.zone,.string h.lease.job,.string h.lease.node,.int .i64 h.lease.till,.string h.name,.int .i64 h.n]) (by simp [results,Tryz.results79,go_sem, *]) rfl ?_;exact⟨rfl,C⟩
theorem B2 (q:aK) (P:Nat) (w:World) (a:Blk w P 207 #[q.job.name,q.job.prio,q.job.need,q.job.tries,q.job.tag]):ψ 79 #[q.kind,.iface 205 (π P 0)] w fun e d=>e = .returned (bP ⟨q.kind,q.job,aU,aN,⟨#[]⟩,0⟩)/\Below w w d:=
 oU q.kind _ _ 263 _ w (fun _=>by kernel_rfl) (fun _ _=>by kernel_rfl) (fun W S b _ c=>Kz q P S W (a.below b a.lt) c)
theorem Aj (q:aK) (P:Nat) (w:World) (a:Blk w P 210 #[q.node.name,q.node.room,q.node.zone]):ψ 79 #[q.kind,.iface 208 (π P 0)] w fun e d=>e = .returned (bP ⟨q.kind,bJ,q.node,aN,⟨#[]⟩,0⟩)/\Below w w d:=
 oU q.kind _ _ 272 _ w (fun _=>by kernel_rfl) (fun _ _=>by kernel_rfl) (fun W S b _ c=>IV q P S W (a.below b a.lt) c)
theorem za (q:aK) (P:Nat) (w:World) (a:Blk w P 213 #[q.lease.job,q.lease.node,q.lease.till]):ψ 79 #[q.kind,.iface 211 (π P 0)] w fun e d=>e = .returned (bP ⟨q.kind,bJ,aU,q.lease,⟨#[]⟩,0⟩)/\Below w w d:=
 oU q.kind _ _ 277 _ w (fun _=>by kernel_rfl) (fun _ _=>by kernel_rfl) (fun W S b _ c=>FQ q P S W (a.below b a.lt) c)
theorem Ak (q:aK) (P:Nat) (w:World) (a:Blk w P 214 #[q.name]):ψ 79 #[q.kind,.iface 215 (π P 0)] w fun e d=>e = .returned (bP ⟨q.kind,bJ,aU,aN,q.name,0⟩)/\Below w w d:=
 oU q.kind _ _ 282 _ w (fun _=>by kernel_rfl) (fun _ _=>by kernel_rfl) (fun W S b _ c=>IW q P S W (a.below b a.lt) c)
theorem ze (q:aK) (P:Nat) (w:World) (a:Blk w P 216 #[q.n]):ψ 79 #[q.kind,.iface 217 (π P 0)] w fun e d=>e = .returned (bP ⟨q.kind,bJ,aU,aN,⟨#[]⟩,q.n⟩)/\Below w w d:=
 oU q.kind _ _ 286 _ w (fun _=>by kernel_rfl) (fun _ _=>by kernel_rfl) (fun W S b _ c=>FR q P S W (a.below b a.lt) c)
end Go.Proofs.YtimglglgcgpjgaaGreatDoor
