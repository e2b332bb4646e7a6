/- Of the proof of a statement: Take, OwnSet, StOwn, OwnMore, Gone, RowsC, DChk. -/
import Derived.Lib.QuietBelow
import Derived.Deep.QuietTactic
import Derived.BigQuiet
import Derived.Test.YtimglglgcgpjgaaGreatDoorQEqRows
import Derived.Test.YtimglglgcgpjgaaGreatDoorQRdr
set_option linter.unusedVariables false
set_option linter.unusedSimpArgs false
set_option maxRecDepth 100000
set_option maxHeartbeats 8000000
namespace Go.Proofs.YtimglglgcgpjgaaGreatDoor
open List (foldl_cons foldl_nil setIfInBounds_toArray set_cons_succ set_cons_zero)
open Go.RowKit
theorem mI:(Tryz.prog.info? 85).map (fun i=>(i.zero,i.size,i.bytes))=some (some (.agg #[.string ⟨#[]⟩,(0:Int),(0:Int),(0:Int),.string ⟨#[]⟩]),5,56):=by kernel_rfl
theorem kW:(Tryz.prog.info? 70).map (fun i=>(i.zero,i.size,i.bytes))=some (some (.agg #[.string ⟨#[]⟩,(0:Int),.string ⟨#[]⟩]),3,40):=by kernel_rfl
theorem jB:(Tryz.prog.info? 66).map (fun i=>(i.zero,i.size,i.bytes))=some (some (.agg #[.string ⟨#[]⟩,.string ⟨#[]⟩,(0:Int)]),3,40):=by kernel_rfl
theorem sK:(Tryz.prog.info? 9).map (fun i=>(i.zero,i.size,i.bytes))=some (some (.string ⟨#[]⟩),1,16):=by kernel_rfl
theorem kV (x:aC):∀ u ∈ aS x,u.oneCell'=true:=by intro u a; simp [aS] at a; rcases a with rfl | rfl | rfl | rfl | rfl <;> rfl
theorem jA (x:av):∀ u ∈ aH x,u.oneCell'=true:=by intro u a; simp [aH] at a; rcases a with rfl | rfl | rfl <;> rfl
theorem gY (x:ak):∀ u ∈ aB x,u.oneCell'=true:=by intro u a; simp [aB] at a; rcases a with rfl | rfl | rfl <;> rfl
theorem qI (x:ByteArray):∀ u ∈ lR x,u.oneCell'=true:=by intro u a; simp [lR] at a; subst a; rfl
theorem cu {w w':World} {base g n sz:Nat} {e:TypeId} {v:Value} {xs:List Value} (i:w.ownsRow base e sz v n xs) (f:w.grownBy w' (some g)) (l:g<base):w'.ownsRow base e sz v n xs:=by
 rcases i with ⟨a,h | ⟨q,c,d,k,j,b,r⟩⟩
 · exact⟨a,.inl h⟩
 · have hlt:q<w.heap.size:=(Array.getElem?_eq_some_iff.1 b).1;exact⟨a,.inr ⟨q,c,d,k,j,(f.block q hlt (by simp; omega)).trans b,r⟩⟩
theorem KT {w:World} {base sz n g c:Nat} {e:TypeId} {xs:List Value} (r:w.ownsRow base e sz (.slice (some ⟨g,0,none⟩) n c) n xs) (j:Nat) (x:j<n*sz) (u:Value) :
 (w.setCell ⟨g,j,none⟩ u).ownsRow base e sz (.slice (some ⟨g,0,none⟩) n c) n (xs.set j u)/\κ w g j/\g<w.heap.size/\base<=g:=by
 obtain⟨k,i | ⟨y,t,d,s,f,q,l,m,o,p⟩⟩:=r
 · cases i.1
 · injection s with a v h;injection a with a;injection a with a;subst a;subst h;have b:Blk w g e d:=q;refine⟨⟨by simpa using k,.inr ⟨g,c,d.setIfInBounds j u,rfl,f,b.set j u,l,m,by simpa using o,?_⟩⟩,b.thaw j,b.lt,f⟩;rw [Array.toList_setIfInBounds,List.take_set,p]
theorem Cd {α:Type} {enc:α->List Value} {sz:Nat} (h:∀ a,(enc a).length=sz):∀ (l:List α) (i k:Nat) (a b:α) (u:Value),l[i]? = some a->k<sz->(enc a).set k u=enc b->(au enc l).set (i*sz+k) u=au enc (l.set i b)
 | [],i,k,a,b,u,c,_,_=>by simp at c
 | g :: l,0,k,a,b,u,c,e,d=>by
  simp only [List.getElem?_cons_zero,Option.some.injEq] at c;subst c;unfold au;rw [List.set_cons_zero,List.flatMap_cons,List.flatMap_cons,Nat.zero_mul,Nat.zero_add,List.set_append_left _ _ (by rw [h]; exact e),d]
 | g :: l,i+1,k,a,b,u,c,e,d=>by
  have f:=Cd h l i k a b u (by simpa using c) e d;unfold au at f |-;rw [List.set_cons_succ,List.flatMap_cons,List.flatMap_cons,List.set_append_right _ _ (by rw [h,Nat.add_mul]; omega),h,show (i+1)*sz+k - sz=i*sz+k from by rw [Nat.add_mul]; omega,f]
structure StOwn (w:World) (base:Nat) (st:ah) (x:StA):Prop where
 j:w.ownsRow base 85 5 (.slice x.aj x.nj x.cj) x.nj (au aS st.jobs)
 n:w.ownsRow base 70 3 (.slice x.an x.nn x.cn) x.nn (au aH st.nodes)
 l:w.ownsRow base 66 3 (.slice x.al x.nl x.cl) x.nl (au aB st.leases)
 lj:st.jobs.length=x.nj
 ln:st.nodes.length=x.nn
 ll:st.leases.length=x.nl
theorem StOwn.grow {w w':World} {base g:Nat} {st:ah} {x:StA} (h:StOwn w base st x) (b:w.grownBy w' (some g)) (a:g<base):StOwn w' base st x:=
 ⟨cu h.j b a,cu h.n b a,cu h.l b a,h.lj,h.ln,h.ll⟩
theorem StOwn.at_ {w:World} {base:Nat} {st:ah} {x:StA} (h:StOwn w base st x) (bj:x.nj<=40) (bn:x.nn<=20) (bl:x.nl<=40) (oj:oF st.jobs) (on_:mP st.nodes) (ol:lI st.leases):StAt w w st x:=
 ⟨cS h.j,cS h.n,cS h.l,h.lj,h.ln,h.ll,by omega,by omega,by omega,oj,on_,ol⟩
theorem cZ {w:World} {base b n sz:Nat} {e:TypeId} {v:Value} {xs:List Value} (i:w.ownsRow base e sz v n xs) (f:b<=base):w.ownsRow b e sz v n xs:=by
 rcases i with ⟨a,h | ⟨q,c,d,k,j,g,r⟩⟩
 · exact⟨a,.inl h⟩
 · exact⟨a,.inr ⟨q,c,d,k,v6 f j,g,r⟩⟩
theorem cU {w0 w w':World} {b:Nat} (h:Below w0 w0 w) (a:w.grownBy w' (some b)) (d:w0.heap.size<=b):Below w0 w0 w':=
 ⟨a.os.trans h.os,a.tape.trans h.tape,a.output.trans h.output,v6 h.size a.size,fun k c=>(a.block k (u7 c h.size) (by simp; omega)).trans (h.block k c)⟩
theorem aF {w w':World} {base n sz:Nat} {e:TypeId} {v:Value} {xs:List Value} (g:w.ownsRow base e sz v n xs) (f:Below w w w'):w'.ownsRow base e sz v n xs:=by
 rcases g with ⟨a,h | ⟨q,c,d,j,i,b,r⟩⟩
 · exact⟨a,.inl h⟩
 · have hlt:q<w.heap.size:=(Array.getElem?_eq_some_iff.1 b).1;exact⟨a,.inr ⟨q,c,d,j,i,(f.block q hlt).trans b,r⟩⟩
theorem Ce {w:World} {base sz n b d c:Nat} {e:TypeId} {xs:List Value} (f:w.ownsRow base e sz (.slice (some ⟨b,d,none⟩) n c) n xs) (j:Nat) (v:j<n*sz) (u:Value) :
 (w.setCell ⟨b,d+j,none⟩ u).ownsRow base e sz (.slice (some ⟨b,d,none⟩) n c) n (xs.set j u)/\κ w b (d+j)/\b<w.heap.size/\base<=b/\∃ cs,w.heap[b]? = some (.cells cs e (0,0)):=by
 have o:d=0:=by
  rcases f.2 with ⟨h,_⟩ | ⟨x,i,k,g,_⟩
  · cases h
  · injection g with a l m;injection a with a;injection a
 subst o;obtain⟨p,q,r,s⟩:=KT f j v u;refine⟨by rw [Nat.zero_add]; exact p,by rw [Nat.zero_add]; exact q,r,s,?_⟩;rcases f.2 with ⟨h,_⟩ | ⟨x,i,k,g,_,t,_⟩
 · cases h
 · injection g with a l m;injection a with a;injection a with a;subst a;exact⟨_,t⟩
theorem bF {w:World} {base sz n b i:Nat} {e d:TypeId} {v u:Value} {xs:List Value} {cs:Array Value} (m:w.ownsRow base e sz v n xs) (k:w.heap[b]? = some (.cells cs d (0,0))) (l:e≠d):(w.setCell ⟨b,i,none⟩ u).ownsRow base e sz v n xs:=by
 rcases m with ⟨f,j | ⟨q,g,h,p,o,a,r⟩⟩
 · exact⟨f,.inl j⟩
 · refine⟨f,.inr ⟨q,g,h,p,o,?_,r⟩⟩;rw [Below.heap_setCell w ⟨b,i,none⟩ u q (fun c=>?_)]
   · exact a
   · have c:q=b:=c;rw [c,k] at a;simp only [Option.some.injEq,Obj.cells.injEq] at a;exact l a.2.1.symm
theorem G8 {α:Type} {enc:α->List Value} {w:World} {base sz n c:Nat} {T:TypeId} {A:Option Addr} {l:List α} (q:∀ a,(enc a).length=sz) (h:w.ownsRow base T sz (.slice A n c) n (au enc l)) (o:l.length=n) {i:Nat} {a:α} (hi:l[i]? = some a) :
 ∃ b e,A=some ⟨b,e,none⟩/\base<=b/\b<w.heap.size/\∀ j u,(enc a)[j]? = some u->ζ w b (e+i*sz+j) u:=by
 obtain⟨b,e,f,k,m⟩:=(cS h).eC q o hi;refine⟨b,e,f,?_,k,m⟩;subst f;rcases h.2 with ⟨g,_⟩ | ⟨v,r,s,p,t,_⟩
 · cases g
 · injection p with d;injection d with d;injection d with d;omega
theorem bM {w:World} {S b i:Nat} {T e:TypeId} {u:Value} {cs c:Array Value} (h:Blk w S T cs) (d:w.heap[b]? = some (.cells c e (0,0))) (f:T≠e):Blk (sX w b i u) S T cs:=by
 unfold Blk at h |-;rw [Below.heap_setCell w ⟨b,i,none⟩ u S (fun a=>?_)]
 · exact h
 · have a:S=b:=a;rw [a,d] at h;simp only [Option.some.injEq,Obj.cells.injEq] at h;exact f h.2.1.symm
theorem aZ {w0 w:World} {base b i:Nat} {u:Value} (h:Below base w0 w) (c:base<=b):Below base w0 (sX w b i u):=
 ⟨h.os,h.tape,h.output,by have:=h.size; simpa [World.setCell] using this,fun k a=>(Below.heap_setCell w ⟨b,i,none⟩ u k (by show k≠b; omega)).trans (h.block k a)⟩
theorem cR {w w':World} {base g sz x n s:Nat} {e d:TypeId} {v u y:Value} {xs z:List Value} (m:w.ownsRow base e sz v n xs) (k:cY w w' u y) (p:w.ownsRow g d x u s z) (l:e≠d):w'.ownsRow base e sz v n xs:=by
 rcases m with ⟨f,j | ⟨q,h,i,r,o,c,t⟩⟩
 · exact⟨f,.inl j⟩
 · have hlt:q<w.heap.size:=(Array.getElem?_eq_some_iff.1 c).1;refine⟨f,.inr ⟨q,h,i,r,o,(k.grown.block q hlt ?_).trans c,t⟩⟩;intro b;rcases p.2 with ⟨rfl,_⟩ | ⟨C,A,B,rfl,_,a,_⟩
   · simp [Value.ownBlock] at b
   · simp [Value.ownBlock] at b;subst b;rw [c] at a;simp only [Option.some.injEq,Obj.cells.injEq] at a;exact l a.2.1
theorem Blk.jZ {w w':World} {base n g sz:Nat} {e t:TypeId} {v v':Value} {xs:List Value} {cs:Array Value} (h:Blk w g t cs) (f:cY w w' v v') (j:w.ownsRow base e sz v n xs) (i:t≠e):Blk w' g t cs:=by
 refine (f.grown.block g h.lt fun a=>?_).trans h;rcases j.2 with ⟨c,_⟩ | ⟨q,l,m,k,_,b,_⟩
 · rw [c] at a; cases a
 · rw [k] at a;have:q=g:=by simpa [Value.ownBlock] using a.symm
   subst this;unfold Blk at h;rw [h] at b;injection b with b;injection b with _ d;exact i d
def nM (xs:List ByteArray):Prop:=∀ x ∈ xs,x.size<=9223372036854775807
theorem rH :
 (∀ (name:ByteArray) (prio:Int) (need:Int) (tries:Int) (tag:ByteArray) (s:ByteArray) (e g:Nat) (w:World) (i:ζ w e 0 (.func (.func 129) #[] #[])) (j:ζ w g 0 (.string s)),ψ 231 #[.agg #[name,prio,need,tries,tag],π e 0,π g 0] w fun m o=>m = .returned (.bool (name.toList == s.toList))/\Below w w o) /\
 (∀ (name:ByteArray) (room:Int) (zone:ByteArray) (s:ByteArray) (e g:Nat) (w:World) (i:ζ w e 0 (.func (.func 132) #[] #[])) (j:ζ w g 0 (.string s)),ψ 232 #[.agg #[name,room,zone],π e 0,π g 0] w fun m o=>m = .returned (.bool (name.toList == s.toList))/\Below w w o) /\
 (∀ (job:ByteArray) (node:ByteArray) (till:Int) (s:ByteArray) (e g:Nat) (w:World) (i:ζ w e 0 (.func (.func 135) #[] #[])) (j:ζ w g 0 (.string s)),ψ 233 #[.agg #[job,node,till],π e 0,π g 0] w fun m o=>m = .returned (.bool (job.toList == s.toList))/\Below w w o):=by
 refine⟨@fun name prio need tries tag s e g w i j=>(fun(k:Unit)=>?_) (),@fun name room zone s e g w i j=>(fun(l B:Unit)=>?_) () (),@fun job node till s e g w i j=>(fun(n B:Unit)=>?_) () ()⟩<;>(
 first
  |(
   guard_hyp k
   have h:=(Below.refl w w).alloc lJ (.cells #[name,prio,need,tries,tag] 85))
  |(
   guard_hyp l
   have h:=(Below.refl w w).alloc lJ (.cells #[name,room,zone] 70))
  |(
   guard_hyp n
   have h:=(Below.refl w w).alloc lJ (.cells #[job,node,till] 66))
 have y:=block_lt_of_cell i;have z:=block_lt_of_cell j
 first
  |(
   guard_hyp k
   generalize b:w.alloc (.cells #[name,prio,need,tries,tag] 85)=c at h)
  |(
   guard_hyp l
   generalize b:w.alloc (.cells #[name,room,zone] 70)=c at h)
  |(
   guard_hyp n
   generalize b:w.alloc (.cells #[job,node,till] 66)=c at h)
 first|(guard_hyp n;have u:=fun d a=>cell_regrown (show ζ c w 0 (.string job) by rw [<- b]; simp [go_sem]) d a)|have u:=fun d a=>cell_regrown (show ζ c w 0 (.string name) by rw [<- b]; simp [go_sem]) d a
 first
  |(
   guard_hyp k
   have q:=fun d a=>cell_regrown (show ζ c w 1 (.int .i64 prio) by rw [<- b]; simp [go_sem]) d a;have r:=fun d a=>cell_regrown (show ζ c w 2 (.int .i64 need) by rw [<- b]; simp [go_sem]) d a)
  |(
   guard_hyp n
   have q:=fun d a=>cell_regrown (show ζ c w 1 (.string node) by rw [<- b]; simp [go_sem]) d a)
  |skip
 first|(guard_hyp k;have F:=fun d a=>cell_regrown (show ζ c w 3 (.int .i64 tries) by rw [<- b]; simp [go_sem]) d a)|(guard_hyp l;have q:=fun d a=>cell_regrown (show ζ c w 1 (.int .i64 room) by rw [<- b]; simp [go_sem]) d a)|have r:=fun d a=>cell_regrown (show ζ c w 2 (.int .i64 till) by rw [<- b]; simp [go_sem]) d a
 first
  |(
   guard_hyp k
   have G:=fun d a=>cell_regrown (show ζ c w 4 (.string tag) by rw [<- b]; simp [go_sem]) d a)
  |(
   guard_hyp l
   have r:=fun d a=>cell_regrown (show ζ c w 2 (.string zone) by rw [<- b]; simp [go_sem]) d a)
  |skip
 have C:=fun d a=>cell_regrown ((h.cell (p:=⟨e,0,none⟩) y).trans i) d a;have D:=fun d a=>cell_regrown ((h.cell (p:=⟨g,0,none⟩) z).trans j) d a;have v:=ω h;have E:=ω b;clear h b i j y z
 first|(guard_hyp k;go_enter Tryz.func231,Tryz.ntmps231)|(guard_hyp l;go_enter Tryz.func232,Tryz.ntmps232)|go_enter Tryz.func233,Tryz.ntmps233
 go_wp2_with fail
 rw [E.z];refine wp_region_quiet_below (by kernel_rfl) (by kernel_rfl) ?_
 first
  |(
   guard_hyp k
   repeat (go_big_quiet_step ((go_at_call 129; exact Calls.regrown_of (kF _ _ _ _ _ _)))))
  |(
   guard_hyp l
   repeat (go_big_quiet_step ((go_at_call 132; exact Calls.regrown_of (ji _ _ _ _)))))
  |(
   guard_hyp n
   repeat (go_big_quiet_step ((go_at_call 135; exact Calls.regrown_of (fG _ _ _ _)))))
 refine wpQuiet_nil ?_;intro _ H;obtain⟨⟨nq,osq⟩,hw''⟩:=H;subst hw'';have x:=ω (v.trans ((below_regrown c nq osq).mono v.size))
 first
  |(
   guard_hyp k
   clear u q r F G C D)
  |(
   guard_hyp B
   clear u q r C D)
 dsimp only;generalize Sort.grow (redrawn c nq) osq=I at x |-;go_wp2;go_ret;exact⟨rfl,x⟩)
def I6 (xs:List aC) (s:ByteArray) (w:World) (e:Ending) (w':World):Prop:=
 ∃ i:Int,e = .returned (.int .i64 i)/\Below w w w'/\((i = -1/\(cC xs s).isSome=false)\/(0<=i/\(cC xs s).isSome=true))
def KU (xs:List aC) (s:ByteArray) (n:Nat) (w:World) (i:Value) (wr:World):Prop:=∃ k:Nat,k<=n/\i = .int .i64 k/\(xs.take k).find? (fun x=>decide (x.name=s))=none/\Below w w wr
def F0 (xs:List av) (s:ByteArray) (w:World) (e:Ending) (w':World):Prop:=
 ∃ i:Int,e = .returned (.int .i64 i)/\Below w w w'/\((i = -1/\(bU xs s).isSome=false)\/(0<=i/\(bU xs s).isSome=true))
def I7 (xs:List av) (s:ByteArray) (n:Nat) (w:World) (i:Value) (wr:World):Prop:=∃ k:Nat,k<=n/\i = .int .i64 k/\(xs.take k).find? (fun x=>decide (x.name=s))=none/\Below w w wr
def Ej (xs:List ak) (s:ByteArray) (w:World) (e:Ending) (w':World):Prop:=
 ∃ i:Int,e = .returned (.int .i64 i)/\Below w w w'/\((i = -1/\(cD xs s).isSome=false)\/(0<=i/\(cD xs s).isSome=true))
def F1 (xs:List ak) (s:ByteArray) (n:Nat) (w:World) (i:Value) (wr:World):Prop:=∃ k:Nat,k<=n/\i = .int .i64 k/\(xs.take k).find? (fun x=>decide (x.job=s))=none/\Below w w wr
theorem sY :
 (∀ (xs:List aC) (s:ByteArray) (A:Option Addr) (n c a b:Nat) (w:World) (j:bC w w 5 A n (au aS xs)) (l:xs.length=n) (r:n<=9223372036854775807) (g:ζ w a 0 (.func (.func 129) #[] #[])) (h:ζ w b 0 (.string s)),ψ 227 #[.slice A n c,.func (.func 231) #[] #[π a 0,π b 0]] w (I6 xs s w)) /\
 (∀ (xs:List av) (s:ByteArray) (A:Option Addr) (n c a b:Nat) (w:World) (j:bC w w 3 A n (au aH xs)) (l:xs.length=n) (r:n<=9223372036854775807) (g:ζ w a 0 (.func (.func 132) #[] #[])) (h:ζ w b 0 (.string s)),ψ 229 #[.slice A n c,.func (.func 232) #[] #[π a 0,π b 0]] w (F0 xs s w)) /\
 (∀ (xs:List ak) (s:ByteArray) (A:Option Addr) (n c a b:Nat) (w:World) (j:bC w w 3 A n (au aB xs)) (l:xs.length=n) (r:n<=9223372036854775807) (g:ζ w a 0 (.func (.func 135) #[] #[])) (h:ζ w b 0 (.string s)),ψ 222 #[.slice A n c,.func (.func 233) #[] #[π a 0,π b 0]] w (Ej xs s w)):=by
 refine⟨@fun xs s A n c a b w j l r g h=>(fun(m:Unit)=>?_) (),@fun xs s A n c a b w j l r g h=>(fun(o:Unit)=>?_) (),@fun xs s A n c a b w j l r g h=>(fun(J:Unit)=>?_) ()⟩<;>(
 first|(guard_hyp m;have K:=@aT)|(guard_hyp o;have K:=@aO)|(have K:=@aI)
 have D:=ω l;have C:=ω g;have E:=ω h;have H:=block_lt_of_cell g;have I:=block_lt_of_cell h;clear l g h
 first|(guard_hyp m;go_enter Tryz.func227,Tryz.ntmps227)|(guard_hyp o;go_enter Tryz.func229,Tryz.ntmps229)|go_enter Tryz.func222,Tryz.ntmps222
 go_wp2
 first|(guard_hyp m;go_loopw [4,5,8,16] (fun _ _ i _ wr=>KU xs s n w i wr) (fun _ _ i _ _=>n - (intOf i).toNat))|(guard_hyp o;go_loopw [4,5,8,16] (fun _ _ i _ wr=>I7 xs s n w i wr) (fun _ _ i _ _=>n - (intOf i).toNat))|go_loopw [4,5,8,16] (fun _ _ i _ wr=>F1 xs s n w i wr) (fun _ _ i _ _=>n - (intOf i).toNat)
 case atStart=>exact⟨0,Nat.zero_le _,rfl,by simp,θ⟩
 case round=>
  obtain⟨k,hk,rfl,O,d⟩:=hrel;have F:=ω O;have q:=ω d;have ab:=d.size;clear O;by_cases hlt:k<n
  · obtain⟨x,G⟩:∃ x,xs[k]? = some x:=⟨_,gO (by rw [D.z]; exact hlt)⟩;obtain⟨P,ac,rfl,Z,y⟩:=(j.below d).eC K D.z G;have L:=ω G
    first
     |(
      guard_hyp m
      obtain⟨t,R,Q,V,T⟩:=x;obtain⟨c0,M,c2,X,c4⟩:=rc5 y;have z:=ω (rH.1 t R Q V T s a b wr ((d.cell (p:=⟨a,0,none⟩) H).trans C.z) ((d.cell (p:=⟨b,0,none⟩) I).trans E.z)))
     |(
      guard_hyp o
      obtain⟨t,S,W⟩:=x;obtain⟨c0,M,c2⟩:=rc3 y;have z:=ω (rH.2.1 t S W s a b wr ((d.cell (p:=⟨a,0,none⟩) H).trans C.z) ((d.cell (p:=⟨b,0,none⟩) I).trans E.z)))
     |(
      guard_hyp J
      obtain⟨job,node,U⟩:=x;obtain⟨c0,M,c2⟩:=rc3 y;have z:=ω (rH.2.2 job node U s a b wr ((d.cell (p:=⟨a,0,none⟩) H).trans C.z) ((d.cell (p:=⟨b,0,none⟩) I).trans E.z)))
    clear y G j d;have aa:P<wr.heap.size:=by omega
    go_wp2_with fail
    refine z.mono ?_;rintro Y w2 ⟨rfl,N⟩;have u:=ω (q.trans (N.mono q.size));clear z N
    first|(guard_hyp J;by_cases B:job=s)|by_cases B:t=s
    · subst B
      first|(guard_hyp J;have v:=qM job)|have v:=qM t
      have e:=ω (As F.z L.z (by simp));rw [v];go_wp2;go_ret
      first|(guard_hyp m;exact⟨_,rfl,u,.inr ⟨by omega,by unfold cC; rw [e.z]; rfl⟩⟩)|(guard_hyp o;exact⟨_,rfl,u,.inr ⟨by omega,by unfold bU; rw [e.z]; rfl⟩⟩)|exact⟨_,rfl,u,.inr ⟨by omega,by unfold cD; rw [e.z]; rfl⟩⟩
    · have v:=sQ B;have e:=ω (xY F.z L.z (by simp [B]));rw [v];go_wp2
      go_roundw
      case rel=>exact⟨k+1,by omega,by go_num,e.z,u.z⟩
      case measure=>simp [intOf]; omega
  · have e:=ω (Au F.z (by rw [D.z]; omega));clear j;go_wp2;go_ret
    first|(guard_hyp m;exact⟨_,rfl,q,.inl ⟨rfl,by unfold cC; rw [e.z]; rfl⟩⟩)|(guard_hyp o;exact⟨_,rfl,q,.inl ⟨rfl,by unfold bU; rw [e.z]; rfl⟩⟩)|exact⟨_,rfl,q,.inl ⟨rfl,by unfold cD; rw [e.z]; rfl⟩⟩)
theorem F4 (xs:List aC) (s:ByteArray) (A:Option Addr) (n c b d:Nat) (w:World) (k:bC w w 5 A n (au aS xs)) (i:xs.length=n) (a:n<=9223372036854775807)
 (h:ζ w b 0 (.func (.func 129) #[] #[])) (j:ζ w d 0 (.string s)) :
 ψ 191 #[.slice A n c,.func (.func 231) #[] #[π b 0,π d 0]] w fun e q=>e = .returned (.bool (cC xs s).isSome)/\Below w w q:=by
 have l:=ω (sY.1 xs s A n c b d w k i a h j);clear k i a h j;go_enter Tryz.func191,Tryz.ntmps191
 go_wp2_with fail
 refine l.mono ?_;rintro e t ⟨p,rfl,g,m⟩;rcases m with ⟨rfl,a⟩ | ⟨o,a⟩
 · go_wp2;go_ret;exact⟨bB a.symm,g⟩
 · have r:decide (0<=p)=true:=t8 o;go_wp2;go_ret;exact⟨bB a.symm,g⟩
def KV (xs:List aC) (a:List ByteArray) (n:Nat) (R:Int) (w:World) (i:Value) (wr:World):Prop:=
 ∃ k:Nat,k<=n/\i = .int .i64 k/\fW (fun s=>(cC xs s).isSome) (prevK rW a k) (a.drop k)=R/\Below w w wr/\ζ wr w 0 (.func (.func 129) #[] #[])
theorem Ek (xs:List av) (s:ByteArray) (A:Option Addr) (n c b d:Nat) (w:World) (k:bC w w 3 A n (au aH xs)) (i:xs.length=n) (a:n<=9223372036854775807)
 (h:ζ w b 0 (.func (.func 132) #[] #[])) (j:ζ w d 0 (.string s)) :
 ψ 194 #[.slice A n c,.func (.func 232) #[] #[π b 0,π d 0]] w fun e q=>e = .returned (.bool (bU xs s).isSome)/\Below w w q:=by
 have l:=ω (sY.2.1 xs s A n c b d w k i a h j);clear k i a h j;go_enter Tryz.func194,Tryz.ntmps194
 go_wp2_with fail
 refine l.mono ?_;rintro e t ⟨p,rfl,g,m⟩;rcases m with ⟨rfl,a⟩ | ⟨o,a⟩
 · go_wp2;go_ret;exact⟨bB a.symm,g⟩
 · have r:decide (0<=p)=true:=t8 o;go_wp2;go_ret;exact⟨bB a.symm,g⟩
def I8 (xs:List av) (a:List ByteArray) (n:Nat) (R:Int) (w:World) (i:Value) (wr:World):Prop:=
 ∃ k:Nat,k<=n/\i = .int .i64 k/\fW (fun s=>(bU xs s).isSome) (prevK rW a k) (a.drop k)=R/\Below w w wr/\ζ wr w 0 (.func (.func 132) #[] #[])
theorem C0 (xs:List ak) (s:ByteArray) (A:Option Addr) (n c b d:Nat) (w:World) (k:bC w w 3 A n (au aB xs)) (i:xs.length=n) (a:n<=9223372036854775807)
 (h:ζ w b 0 (.func (.func 135) #[] #[])) (j:ζ w d 0 (.string s)) :
 ψ 197 #[.slice A n c,.func (.func 233) #[] #[π b 0,π d 0]] w fun e q=>e = .returned (.bool (cD xs s).isSome)/\Below w w q:=by
 have l:=ω (sY.2.2 xs s A n c b d w k i a h j);clear k i a h j;go_enter Tryz.func197,Tryz.ntmps197
 go_wp2_with fail
 refine l.mono ?_;rintro e t ⟨p,rfl,g,m⟩;rcases m with ⟨rfl,a⟩ | ⟨o,a⟩
 · go_wp2;go_ret;exact⟨bB a.symm,g⟩
 · have r:decide (0<=p)=true:=t8 o;go_wp2;go_ret;exact⟨bB a.symm,g⟩
def F5 (xs:List ak) (a:List ByteArray) (n:Nat) (R:Int) (w:World) (i:Value) (wr:World):Prop:=
 ∃ k:Nat,k<=n/\i = .int .i64 k/\fW (fun s=>(cD xs s).isSome) (prevK rW a k) (a.drop k)=R/\Below w w wr/\ζ wr w 0 (.func (.func 135) #[] #[])
theorem qw :
 (∀ (a:List ByteArray) (xs:List aC) (A e:Option Addr) (n c b o:Nat) (w:World) (q:bC w w 1 A n (au lR a)) (C:a.length=n) (U:n<=9223372036854775807) (F:nM a) (I:bC w w 5 e b (au aS xs)) (D:xs.length=b) (E:b<=9223372036854775807) (z:Tabs w),ψ 207 #[.slice A n c,.slice e b o,.func (.func 129) #[] #[]] w fun r X=>r = .returned (.int .i64 (jL (fun s=>(cC xs s).isSome) a))/\Below w w X) /\
 (∀ (a:List ByteArray) (xs:List av) (A e:Option Addr) (n c b o:Nat) (w:World) (q:bC w w 1 A n (au lR a)) (C:a.length=n) (U:n<=9223372036854775807) (F:nM a) (I:bC w w 3 e b (au aH xs)) (D:xs.length=b) (E:b<=9223372036854775807) (z:Tabs w),ψ 208 #[.slice A n c,.slice e b o,.func (.func 132) #[] #[]] w fun r X=>r = .returned (.int .i64 (jL (fun s=>(bU xs s).isSome) a))/\Below w w X) /\
 (∀ (a:List ByteArray) (xs:List ak) (A e:Option Addr) (n c b o:Nat) (w:World) (q:bC w w 1 A n (au lR a)) (C:a.length=n) (U:n<=9223372036854775807) (F:nM a) (I:bC w w 3 e b (au aB xs)) (D:xs.length=b) (E:b<=9223372036854775807) (z:Tabs w),ψ 209 #[.slice A n c,.slice e b o,.func (.func 135) #[] #[]] w fun r X=>r = .returned (.int .i64 (jL (fun s=>(cD xs s).isSome) a))/\Below w w X):=by
 refine⟨@fun a xs A e n c b o w q C U F I D E z=>(fun(u:Unit)=>?_) (),@fun a xs A e n c b o w q C U F I D E z=>(fun(v:Unit)=>?_) (),@fun a xs A e n c b o w q C U F I D E z=>?_⟩<;>(
 first|(guard_hyp u;have ac:Tg 18:=⟨⟩;have ah:=@F4)|(guard_hyp v;have ac:Tg 20:=⟨⟩;have ah:=@Ek)|(have ac:Tg 22:=⟨⟩;have ah:=@C0)
 first|(guard_hyp u;obtain⟨R,P⟩:∃ R,jL (fun s=>(cC xs s).isSome) a=R:=⟨_,rfl⟩)|(guard_hyp v;obtain⟨R,P⟩:∃ R,jL (fun s=>(bU xs s).isSome) a=R:=⟨_,rfl⟩)|obtain⟨R,P⟩:∃ R,jL (fun s=>(cD xs s).isSome) a=R:=⟨_,rfl⟩
 rw [P];have HR:=ω P;have K:=ω C;have ay:=ω F;have HT:=ω z;have HX:=ω (And.intro I (And.intro D E));have ax:=ω (show ∀ t,ζ (χ w #[.func (.func ac) #[] #[]] t) w 0 (.func (.func ac) #[] #[]) from fun t=>by simp [go_sem]);clear P C F z I D E
 first|(guard_hyp u;go_enter Tryz.func207,Tryz.ntmps207)|(guard_hyp v;go_enter Tryz.func208,Tryz.ntmps208)|go_enter Tryz.func209,Tryz.ntmps209
 go_wp2
 first|(guard_hyp u;go_loopw [6,7,8,11,18,20,35] (fun _ _ _ i _ _ _ wr=>KV xs a n R w i wr) (fun _ _ _ i _ _ _ _=>n - (intOf i).toNat))|(guard_hyp v;go_loopw [6,7,8,11,18,20,35] (fun _ _ _ i _ _ _ wr=>I8 xs a n R w i wr) (fun _ _ _ i _ _ _ _=>n - (intOf i).toNat))|go_loopw [6,7,8,11,18,20,35] (fun _ _ _ i _ _ _ wr=>F5 xs a n R w i wr) (fun _ _ _ i _ _ _ _=>n - (intOf i).toNat)
 case atStart=>exact⟨0,Nat.zero_le _,rfl,by rw [<- HR.z]; rfl,(θ).alloc lJ _,ax.z _⟩
 case round=>
  obtain⟨k,hk,rfl,aq,Q,ag⟩:=hrel;have x:=ω aq;have Hb:=ω Q;have al:=ω ag;have a5:=Q.size;have ap:=block_lt_of_cell ag;clear aq ag;by_cases hlt:k<n
  · obtain⟨s,hf⟩:∃ s,a[k]? = some s:=⟨_,gO (by rw [K.z]; exact hlt)⟩;obtain⟨L,W,rfl,a8,hc⟩:=(q.below Q).eC iY K.z hf;have a4:=ω (ay.z s (m8 hf));have h:=ω hf;have c0:ζ wr L (W+k*1) (.string s):=hc 0 _ rfl;rw [Nat.mul_one] at c0;have a9:L<wr.heap.size:=by omega
    have aa:=(Below.refl wr wr).alloc lJ (.cells #[s] 9);have ad:=ω (Hb.trans (aa.mono a5));have a1:=ω (HT.below ad.z);have ao:=((aa.cell (p:=⟨w,0,none⟩) ap).trans al.z);have aj:=ω aa;have a7:=ω ao;clear hc hf aa ao
    go_wp2_with fail
    refine Calls.mono (kr s _ a4.z a1.z) ?_;rintro r Y ⟨rfl,ab⟩;have aw:=ω (aj.trans (ab.mono aj.size));have M:=ω (ad.trans (ab.mono ad.size));have ar:ζ Y wr 0 (.string s):=by rw [(dD ab).1 _ _ (by simp)]; simp [go_sem]
    have az:=ω ar;have S:=ω ((aw.cell (p:=⟨w,0,none⟩) ap).trans al.z);have a6:=ω ((HX.z.1.below M.z).more M.size);have aD:wr.heap.size<Y.heap.size:=block_lt_of_cell ar;clear ab Q;cases l:cP s
    · have h4:=ω (show R=4 by rw [<- x.z]; exact Cf h.z l);go_wp2;go_ret;exact⟨aY h4.symm,M⟩
    have NZ:k=0\/∃ y,a[k - 1]? = some y:=by
     by_cases g:k=0
     · exact .inl g
     · exact .inr ⟨_,gO (by rw [K.z]; omega)⟩
    have N:=ω M.drew;have J:=ω (ah xs s e b o w wr Y.drew a6.drew HX.z.2.1 HX.z.2.2 S.z az.z);have aA:∀ (fn:Fn) (first am:Array Value) (w:World),(Instr.makeFunc fn first am).run Tryz.prog w = .ok (.func fn first am) w:=fun _ _ _ _=>rfl
    have OC:(k=0)\/(k≠0/\∃ y,a[k - 1]? = some y/\Op.bytesLess y.toList s.toList=true)\/(k≠0/\∃ y,a[k - 1]? = some y/\Op.bytesLess y.toList s.toList=false):=by
     rcases NZ with a0 | ⟨y,m⟩
     · exact .inl a0
     · by_cases g:k=0
       · exact .inl g
       · cases j:Op.bytesLess y.toList s.toList
         · exact .inr (.inr ⟨g,y,m,j⟩)
         · exact .inr (.inl ⟨g,y,m,j⟩)
    clear NZ;rcases OC with g | ⟨g,y,m,j⟩ | ⟨g,y,m,j⟩
    · subst g
      first|(guard_hyp u;obtain⟨H,d⟩:∃ H,(cC xs s).isSome=H:=⟨_,rfl⟩)|(guard_hyp v;obtain⟨H,d⟩:∃ H,(bU xs s).isSome=H:=⟨_,rfl⟩)|obtain⟨H,d⟩:∃ H,(cD xs s).isSome=H:=⟨_,rfl⟩
      go_wp2_with fail
      go_region
      go_wp2_with fail
      rw [d] at J;refine J.mono ?_;rintro r w3 ⟨rfl,B⟩;have O:=ω (N.trans (B.mono N.size));have af:=ω ((B.cell (p:=⟨w,0,none⟩) (block_lt_of_cell S.z)).trans S.z);clear B J;cases H
      · first|(guard_hyp u;have G:=ω (l7 (has:=fun s=>(cC xs s).isSome) h.z l (.inl rfl) d))|(guard_hyp v;have G:=ω (l7 (has:=fun s=>(bU xs s).isSome) h.z l (.inl rfl) d))|have G:=ω (l7 (has:=fun s=>(cD xs s).isSome) h.z l (.inl rfl) d)
        go_wp2
        go_roundw
        case rel=>exact⟨1,by omega,by go_num,by rw [<- G.z]; exact x.z,O.z,af.z⟩
        case measure=>simp [intOf]; omega
      · have h7:=ω (show R=7 by rw [<- x.z]; exact rI h.z l (.inl rfl) d);go_wp2;go_ret;exact⟨aY h7.symm,O⟩
    · obtain⟨b',ai,ae,Az,V⟩:=(q.below M.z).eC iY K.z m;obtain⟨rfl,rfl⟩:L=b'/\W=ai:=by simpa using ae
      have p0:ζ Y L (W+(k - 1)*1) (.string y):=V 0 _ rfl;rw [Nat.mul_one] at p0;have a3:decide ((0:Int)<(k:Int))=true:=t8 (by omega);have a2:0<k:=by omega
      have T:=kK y.toList s.toList;have e1:(Op.bytesLess s.toList y.toList || s.toList == y.toList)=false:=by rw [<- T,j]; rfl
      first|(guard_hyp u;obtain⟨H,d⟩:∃ H,(cC xs s).isSome=H:=⟨_,rfl⟩)|(guard_hyp v;obtain⟨H,d⟩:∃ H,(bU xs s).isSome=H:=⟨_,rfl⟩)|obtain⟨H,d⟩:∃ H,(cD xs s).isSome=H:=⟨_,rfl⟩
      have Hy:=ω m;have Z:=ω j;clear V T m j
      go_wp2_with fail
      go_region
      go_wp2_with fail
      rw [d] at J;refine J.mono ?_;rintro r w3 ⟨rfl,B⟩;have O:=ω (N.trans (B.mono N.size));have af:=ω ((B.cell (p:=⟨w,0,none⟩) (block_lt_of_cell S.z)).trans S.z);clear B J;cases H
      · first|(guard_hyp u;have G:=ω (l7 (has:=fun s=>(cC xs s).isSome) h.z l (.inr ⟨_,Hy,Z⟩) d))|(guard_hyp v;have G:=ω (l7 (has:=fun s=>(bU xs s).isSome) h.z l (.inr ⟨_,Hy,Z⟩) d))|have G:=ω (l7 (has:=fun s=>(cD xs s).isSome) h.z l (.inr ⟨_,Hy,Z⟩) d)
        go_wp2
        go_roundw
        case rel=>exact⟨k+1,by omega,by go_num,by rw [<- G.z]; exact x.z,O.z,af.z⟩
        case measure=>simp [intOf]; omega
      · have h7:=ω (show R=7 by rw [<- x.z]; exact rI h.z l (.inr ⟨_,Hy,Z⟩) d);go_wp2;go_ret;exact⟨aY h7.symm,O⟩
    · obtain⟨b',ai,ae,Az,V⟩:=(q.below M.z).eC iY K.z m;obtain⟨rfl,rfl⟩:L=b'/\W=ai:=by simpa using ae
      have p0:ζ Y L (W+(k - 1)*1) (.string y):=V 0 _ rfl;rw [Nat.mul_one] at p0;have a3:decide ((0:Int)<(k:Int))=true:=t8 (by omega);have a2:0<k:=by omega
      have T:=kK y.toList s.toList;have e1:(Op.bytesLess s.toList y.toList || s.toList == y.toList)=true:=by rw [<- T,j]; rfl
      have h8:=ω (show R=8 by rw [<- x.z]; exact AI h.z l g m j);clear V T J m j;go_wp2
      go_region
      go_wp2;go_ret;exact⟨aY h8.symm,N⟩
  · have g:=ω (show R=0 by rw [<- x.z]; exact El (by rw [K.z]; omega) _);clear Q q;go_wp2;go_ret;exact⟨aY g.symm,Hb⟩)
theorem sZ (n lo hi:Int) (w:World):ψ 205 #[n,lo,hi] w fun e c=>e = .returned (.bool (ranged n lo hi))/\w=c:=by
 cases h:ranged n lo hi
 · have h:=fT.1 h;by_cases a:lo<=n
   · have b:decide (n<=hi)=false:=fK (by omega);clear h;go_enter Tryz.func205,Tryz.ntmps205;go_wp2;go_ret;exact⟨rfl,rfl⟩
   · have d:decide (lo<=n)=false:=fK a;clear h;go_enter Tryz.func205,Tryz.ntmps205;go_wp2;go_ret;exact⟨rfl,rfl⟩
 · have h:=aM.1 h;have a:=h.1;have b:decide (n<=hi)=true:=t8 h.2;clear h;go_enter Tryz.func205,Tryz.ntmps205;go_wp2;go_ret;exact⟨rfl,rfl⟩
theorem AJ (l:ak) (w:World) (s:l.job.size<=9223372036854775807) (u:l.node.size<=9223372036854775807) (x:Tabs w) :
 ψ 206 #[.agg (aB l).toArray] w fun e C=>e = .returned (.int .i64 (lsE l))/\Below w w C:=by
 obtain⟨E,j⟩:∃ E,lsE l=E:=⟨_,rfl⟩;rw [j];have c:=ω j;clear j;obtain⟨job,node,p⟩:=l;unfold aB;simp only at s u |-;have m:Below w w (χ w #[job,node,p] 66):=(θ).alloc lJ _;have k:=x.below m;have v:=ω (kr job _ s k);have q:=ω k;have h:=ω m;clear k m x;go_enter Tryz.func206,Tryz.ntmps206
 go_wp2_with fail
 refine v.mono ?_;rintro e g ⟨rfl,a⟩;have D:ζ g w 1 (.string node):=by rw [(dD a).1 _ _ (by simp)]; simp [go_sem]
 have B:ζ g w 2 (.int .i64 p):=by rw [(dD a).1 _ _ (by simp)]; simp [go_sem]
 have b:=ω (h.trans (a.mono h.size));have r:=ω (q.below a);have z:w.heap.size<g.heap.size:=by have:=a.size; simp at this; omega
 clear a h q v;cases d:cP job
 · go_wp2;go_ret;exact⟨aY (by rw [<- c.z]; simp [lsE,d]),b⟩
 go_wp2_with fail
 refine Calls.mono (kr node g u r.z) ?_;rintro e F ⟨rfl,n⟩;replace B:=((dD n).1 _ _ z).trans B;have i:=ω (b.trans (n.mono b.size));clear D n b r z;cases o:cP node
 · go_wp2;go_ret;exact⟨aY (by rw [<- c.z]; simp [lsE,d,o]),i⟩
 go_wp2_with fail
 refine Calls.mono (sZ _ _ _ _) ?_;rintro e G ⟨rfl,rfl⟩;cases y:ranged p 0 1099511627776
 · go_wp2;go_ret;exact⟨aY (by rw [<- c.z]; simp [lsE,d,o,y]),i⟩
 · go_wp2;go_ret;exact⟨aY (by rw [<- c.z]; simp [lsE,d,o,y]),i⟩
def I9 (xs:List ak):Prop:=∀ x ∈ xs,x.job.size<=9223372036854775807/\x.node.size<=9223372036854775807
def Jb (xs:List ak) (n:Nat) (R:Int) (w:World) (i:Value) (wr:World):Prop:=∃ k:Nat,k<=n/\i = .int .i64 k/\eG lsE ak.job (prevK ak.job xs k) (xs.drop k)=R/\Below w w wr
theorem AK (xs:List ak) (A:Option Addr) (n c:Nat) (w:World) (o:bC w w 3 A n (au aB xs)) (hl:xs.length=n) (hn:n<=9223372036854775807) (ac:I9 xs) (hT:Tabs w) :
 ψ 134 #[.slice A n c,.func (.func 135) #[] #[],.func (.func 206) #[] #[]] w fun U w'=>U = .returned (.int .i64 (cE lsE ak.job xs))/\Below w w w':=by
 obtain⟨R,K⟩:∃ R,cE lsE ak.job xs=R:=⟨_,rfl⟩;rw [K];have HR:=ω K;have q:=ω hl;have HT:=ω hT;have af:=ω ac;clear hl K hT ac;go_enter Tryz.func134,Tryz.ntmps134;go_wp2
 go_loopw [6,7,8,9,12,19,28,35] (fun _ _ _ _ N _ _ _ wr=>Jb xs n R w N wr) (fun _ _ _ _ N _ _ _ _=>n - (intOf N).toNat)
 case atStart=>exact⟨0,Nat.zero_le _,rfl,by rw [<- HR.z]; rfl,θ⟩
 case round=>
  obtain⟨k,hk,rfl,ad,z⟩:=hrel;have s:=ω ad;have p:=ω z;have aq:=z.size;clear ad;by_cases hlt:k<n
  · obtain⟨x,H⟩:∃ x,xs[k]? = some x:=⟨_,gO (by rw [q.z]; exact hlt)⟩;obtain⟨r,I,rfl,am,hc⟩:=(o.below z).eC aI q.z H;have ae:=ω (af.z x (m8 H));have F:=ω H;have aj:x.job=ak.job x:=rfl;obtain⟨E,Z⟩:∃ E,lsE x=E:=⟨_,rfl⟩;have l:=ω Z;obtain⟨X,hX⟩:∃ X,X=x:=⟨_,rfl⟩;have HX:=ω hX;obtain⟨job,node,D⟩:=x;obtain⟨c0,J,c2⟩:=rc3 hc;clear hc H Z hX aj;have L:r<wr.heap.size:=by omega
    have ah:=ω (HT.below (p.alloc p.size (.cells #[job,node,D] 66)));have W:=ω (p.alloc p.size (.cells #[job,node,D] 66))
    go_wp2_with fail
    refine Calls.mono (AJ ⟨job,node,D⟩ _ ae.z.1 ae.z.2 ah.z) ?_;rintro U b ⟨rfl,e⟩;rw [l.z];have u:=(Below.refl wr wr).alloc lJ (.cells #[job,node,D] 66);have m:=u.trans (e.mono u.size);have h:=ω (W.trans (e.mono W.size));by_cases G:E=0
    · subst G;have O:∀ d a,ζ (Sort.grow (redrawn b d) a) wr 0 (.string job):=fun d a=>cell_regrown (by rw [(dD e).1 _ _ (by simp)]; simp [go_sem]) d a;have P:∀ d a,ζ (Sort.grow (redrawn b d) a) wr 1 (.string node):=fun d a=>cell_regrown (by rw [(dD e).1 _ _ (by simp)]; simp [go_sem]) d a;have Q:∀ d a,ζ (Sort.grow (redrawn b d) a) wr 2 (.int .i64 D):=fun d a=>cell_regrown (by rw [(dD e).1 _ _ (by simp)]; simp [go_sem]) d a;by_cases aa:k=0
      · subst aa;have i:=ω (gC (key:=ak.job) F.z l.z (.inl rfl));clear c0 J c2 e o u m
        go_wp2_with fail
        refine wp_region_quiet_below (by kernel_rfl) (by kernel_rfl) ?_
        repeat (go_big_quiet_step (fail))
        refine wpQuiet_nil ?_;intro _ C;obtain⟨⟨nq,osq⟩,hw''⟩:=C;subst hw'';have g:=ω (h.trans ((below_regrown b nq osq).mono h.size));clear O P Q;dsimp only;generalize Sort.grow (redrawn b nq) osq=w2 at g |-;go_wp2
        go_roundw
        case rel=>exact⟨1,by omega,by go_num,by rw [<- i.z]; exact s.z,g.z⟩
        case measure=>simp [intOf]; omega
      · obtain⟨y,M⟩:∃ y,xs[k - 1]? = some y:=⟨_,gO (by rw [q.z]; omega)⟩;obtain⟨b',al,ai,Az,hp⟩:=(o.below z).eC aI q.z M;obtain⟨rfl,rfl⟩:r=b'/\I=al:=by simpa using ai
        have T:=ω M;obtain⟨Y,hY⟩:∃ Y,Y=y:=⟨_,rfl⟩;obtain⟨j,Ec,Ed⟩:=y;obtain⟨q0,q1,q2⟩:=rc3 hp;have p0:∀ d a,ζ (Sort.grow (redrawn b d) a) r (I+(k - 1)*3) (.string j):=fun d a=>cell_regrown (((dD m).1 _ _ L).trans q0) d a;have p1:∀ d a,ζ (Sort.grow (redrawn b d) a) r (I+(k - 1)*3+1) (.string Ec):=fun d a=>cell_regrown (((dD m).1 _ _ L).trans q1) d a;have p2:∀ d a,ζ (Sort.grow (redrawn b d) a) r (I+(k - 1)*3+2) (.int .i64 Ed):=fun d a=>cell_regrown (((dD m).1 _ _ L).trans q2) d a;clear q0 q1 q2 c0 J c2 hp M hY e o u m;have ap:decide ((0:Int)<(k:Int))=true:=t8 (by omega);have ao:0<k:=by omega
        have ab:=ω (kK j.toList job.toList);obtain⟨B,v⟩:∃ B,Op.bytesLess j.toList job.toList=B:=⟨_,rfl⟩;have S:=ω v;cases B
        · have V:(Op.bytesLess job.toList j.toList || job.toList == j.toList)=true:=by rw [<- ab.z,v]; rfl
          have i:=ω (kJ (key:=ak.job) F.z l.z aa T.z S.z);clear v
          go_wp2_with fail
          refine wp_region_quiet_below (by kernel_rfl) (by kernel_rfl) ?_
          repeat (go_big_quiet_step ((go_at_call 135; exact Calls.regrown_of (fG _ _ _ _))))
          refine wpQuiet_nil ?_;intro _ C;obtain⟨⟨nq,osq⟩,hw''⟩:=C;subst hw'';have g:=ω (h.trans ((below_regrown b nq osq).mono h.size));clear O P Q p0 p1 p2;dsimp only;generalize Sort.grow (redrawn b nq) osq=w2 at g |-;go_wp2;go_ret;exact⟨aY (by rw [<- s.z]; exact i.symm),g⟩
        · have V:(Op.bytesLess job.toList j.toList || job.toList == j.toList)=false:=by rw [<- ab.z,v]; rfl
          have i:=ω (gC (key:=ak.job) F.z l.z (.inr ⟨_,T,S⟩));clear v
          go_wp2_with fail
          refine wp_region_quiet_below (by kernel_rfl) (by kernel_rfl) ?_
          repeat (go_big_quiet_step ((go_at_call 135; exact Calls.regrown_of (fG _ _ _ _))))
          refine wpQuiet_nil ?_;intro _ C;obtain⟨⟨nq,osq⟩,hw''⟩:=C;subst hw'';have g:=ω (h.trans ((below_regrown b nq osq).mono h.size));clear O P Q p0 p1 p2;dsimp only;generalize Sort.grow (redrawn b nq) osq=w2 at g |-;go_wp2
          go_roundw
          case rel=>exact⟨k+1,by omega,by go_num,by rw [<- i.z]; exact s.z,g.z⟩
          case measure=>simp [intOf]; omega
    · have i:=ω (nZ (E:=lsE) (key:=ak.job) F.z (by rw [l.z]; exact G));have V:(E == 0)=false:=beq_eq_false_iff_ne.2 G;have e2:(E != 0)=true:=bne_iff_ne.2 G;clear c0 J c2 e o u m;go_wp2;go_ret;exact⟨aY (by rw [<- s.z,i.z]; exact l.symm),h⟩
  · obtain rfl:k=n:=by omega
    have ag:=ω (show R=0 by rw [<- s.z]; exact sU (by rw [q.z]; exact lJ) _);clear z o;go_wp2;go_ret;exact⟨aY ag.symm,p⟩
structure eF where
 aj:Option Addr
 nj:Nat
 cj:Nat
 an:Option Addr
 nn:Nat
 cn:Nat
 al:Option Addr
 nl:Nat
 cl:Nat
 agj:Option Addr
 ngj:Nat
 cgj:Nat
 agn:Option Addr
 ngn:Nat
 cgn:Nat
 agl:Option Addr
 ngl:Nat
 cgl:Nat
def dC (d:aX) (x:eF):Array Value:=#[.int .i64 d.from_,.int .i64 d.to_,.slice x.aj x.nj x.cj,.slice x.an x.nn x.cn,.slice x.al x.nl x.cl,.slice x.agj x.ngj x.cgj,.slice x.agn x.ngn x.cgn,.slice x.agl x.ngl x.cgl]
structure dz (w:World) (B:Nat) (d:aX) (x:eF):Prop where
 j:bC w B 5 x.aj x.nj (au aS d.jobs)
 n:bC w B 3 x.an x.nn (au aH d.nodes)
 l:bC w B 3 x.al x.nl (au aB d.leases)
 gj:bC w B 1 x.agj x.ngj (au lR d.gj)
 gn:bC w B 1 x.agn x.ngn (au lR d.gn)
 gl:bC w B 1 x.agl x.ngl (au lR d.gl)
 lj:d.jobs.length=x.nj
 ln:d.nodes.length=x.nn
 ll:d.leases.length=x.nl
 lgj:d.gj.length=x.ngj
 lgn:d.gn.length=x.ngn
 lgl:d.gl.length=x.ngl
 bj:x.nj<=9223372036854775807
 bn:x.nn<=9223372036854775807
 bl:x.nl<=9223372036854775807
 bgj:x.ngj<=9223372036854775807
 bgn:x.ngn<=9223372036854775807
 bgl:x.ngl<=9223372036854775807
 oj:oF d.jobs
 on_:mP d.nodes
 ol:lI d.leases
 ogj:nM d.gj
 ogn:nM d.gn
 ogl:nM d.gl
theorem dz.below {w w':World} {B:Nat} {d:aX} {x:eF} (h:dz w B d x) (a:Below B w w'):dz w' B d x:=
 { h with j:=h.j.below a,n:=h.n.below a,l:=h.l.below a,gj:=h.gj.below a,gn:=h.gn.below a,gl:=h.gl.below a }
theorem dz.more {w:World} {B b:Nat} {d:aX} {x:eF} (h:dz w B d x) (a:B<=b):dz w b d x:=
 { h with j:=h.j.more a,n:=h.n.more a,l:=h.l.more a,gj:=h.gj.more a,gn:=h.gn.more a,gl:=h.gl.more a }
theorem dz.up {w w':World} {d:aX} {x:eF} (h:dz w w d x) (a:Below w w w'):dz w' w' d x:=(h.below a).more a.size
def dV (S:Nat) (x:eF) (a c d e f g:Int):Nat->Value->World->Prop
 | 0,u,_=>u = π S 2
 | 1,u,_=>u = .slice x.aj x.nj x.cj
 | 2,u,_=>u = .int .i64 a
 | 3,u,_=>u = π S 3
 | 4,u,_=>u = .slice x.an x.nn x.cn
 | 5,u,_=>u = .int .i64 c
 | 6,u,_=>u = π S 4
 | 7,u,_=>u = .slice x.al x.nl x.cl
 | 8,u,_=>u = .int .i64 d
 | 9,u,_=>u = π S 5
 | 10,u,_=>u = .slice x.agj x.ngj x.cgj
 | 11,u,_=>u = π S 2
 | 12,u,_=>u = .slice x.aj x.nj x.cj
 | 13,u,_=>u = .int .i64 e
 | 14,u,_=>u = π S 6
 | 15,u,_=>u = .slice x.agn x.ngn x.cgn
 | 16,u,_=>u = π S 3
 | 17,u,_=>u = .slice x.an x.nn x.cn
 | 18,u,_=>u = .int .i64 f
 | 19,u,_=>u = π S 7
 | 20,u,_=>u = .slice x.agl x.ngl x.cgl
 | 21,u,_=>u = π S 4
 | 22,u,_=>u = .slice x.al x.nl x.cl
 | 23,u,_=>u = .int .i64 g
 | 24,u,w=>∃ b,u = .slice (some ⟨b,0,none⟩) 6 6/\b<w.heap.size/\jh w b 0 [.int .i64 a,.int .i64 c,.int .i64 d,.int .i64 e,.int .i64 f,.int .i64 g]
 | 25,u,_=>u = .int .i64 6
 | _,u,_=>u = .int .i64 0
theorem Jc (S:Nat) (x:eF) (a b c d e f:Int) (i:Nat) (u:Value) (w w':World) (h:dV S x a b c d e f i u w) (j:Ext w w'):dV S x a b c d e f i u w':=by
 unfold dV at *
 split at h
 case h_25=>obtain⟨k,l,g,m⟩:=h; exact⟨k,l,u7 g j.size,m.below j g⟩
 all_goals exact h
def sH (d:aX) (w:World) (e:Ending) (w':World):Prop:=e = .returned (.int .i64 (gG d))/\Below w w w'
theorem sH.mk' {d:aX} {w w':World} {E:Int} (h:gG d=E) (a:Below w w w'):sH d w (.returned (.int .i64 E)) w':=⟨by rw [h],a⟩
theorem tZ {d:aX} (h:lD d=false):gG d=1:=by unfold gG; rw [if_pos h]
theorem mT {d:aX} (h:lD d=true) (a:jW d=false):gG d=2:=by unfold gG; rw [if_neg (by rw [h]; simp),if_pos a]
theorem CX {d:aX} (h:lD d=true) (a:jW d=true):gG d=iL (AG d):=by unfold gG; rw [if_neg (by rw [h]; simp),if_neg (by rw [a]; simp)]
def mx (a b:Int):Int:=if a<b then b else a
theorem KW (c:Array TypeId) (t:TypeId) (a b:Int) (W:World):(Builtin.max_ c t #[a,b]).run Tryz.prog W = .ok (.int .i64 (mx a b)) W:=rfl
theorem KX (e:Array TypeId) (t:TypeId) (a b c d:Int) (W:World):(Builtin.max_ e t #[a,b,c,d]).run Tryz.prog W = .ok (.int .i64 (mx (mx (mx a b) c) d)) W:=rfl
theorem zh {a b n:Int}:n<mx a b↔n<a\/n<b:=by unfold mx; split <;> omega
theorem Fy (d:aX) (x:eF) (w:World) (c:dz w w d x) (o:Tabs w) (aH : -9223372036854775808<=d.from_) (aI:d.from_<=9223372036854775807) :
 ψ 162 #[.agg (dC d x)] w (sH d w):=by
 have O:Below w w (χ w (dC d x) 95):=(θ).alloc lJ _;have aw:Blk (χ w (dC d x) 95) w 95 (dC d x):=n5 w _;have y:=ω (c.up O);have z:=ω (o.below O);have B:=ω O;have v:=ω aw;have E:=ω (fun (a6:Int) (N:gG d=a6) D=>sH.mk' (w:=w) (w':=D) N);have ay:=c.lj;have a0:=c.ln;have az:=c.ll;have KM:=c.lgj;have KN:=c.lgn;have KO:=c.lgl;have aF:=c.bj;have aG:=c.bn;have a8:=c.bl;have Ou:=c.bgj;have Ov:=c.bgn;have Ow:=c.bgl;clear O aw c o;unfold dC at *;go_enter Tryz.func162,Tryz.ntmps162
 go_wp2_with fail
 refine Calls.mono (sZ _ _ _ _) ?_;rintro e w0 ⟨rfl,rfl⟩;cases I:ranged d.from_ 0 1099511627776
 · have q:=ω (E.z 1 (tZ (by unfold lD; rw [I]; rfl)) _ B.z);go_wp2;go_ret;exact q
 have aK:=aM.1 I
 go_wp2_with fail
 refine Calls.mono (sZ _ _ _ _) ?_;rintro e w0 ⟨rfl,rfl⟩;cases ag:ranged d.to_ (d.from_+1) 1099511627776
 · have q:=ω (E.z 1 (tZ (by
    have:=fT.1 ag;unfold lD;rw [I];by_cases N:d.from_<d.to_
    · rw [decide_eq_true N,decide_eq_false (by omega)]; rfl
    · rw [decide_eq_false N]; rfl)) _ B.z)
   go_wp2;go_ret;exact q
 have aL:=aM.1 ag;have sR:=ω (show lD d=true by unfold lD; rw [I,decide_eq_true (by omega),decide_eq_true (by omega)]; rfl);clear I ag;have a9:=fun T t F b W=>KW T t F b W;have aA:=fun T t F b a7 d W=>KX T t F b a7 d W;by_cases s1:x.nj<=40/\x.nl<=40/\x.ngj<=40/\x.ngl<=40;rotate_left
 · have q:=ω (E.z 2 (mT sR.z (by unfold jW; rw [ay,az,KM,KO]; by_cases q1:x.nj<=40 <;> by_cases q2:x.nl<=40 <;> by_cases q3:x.ngj<=40 <;> by_cases q4:x.ngl<=40 <;> simp [q1,q2,q3,q4] <;> omega)) _ B.z);have d1:decide ((40:Int)<mx (mx (mx (x.nj:Int) (x.nl:Int)) (x.ngj:Int)) (x.ngl:Int))=true:=t8 (by rw [zh,zh,zh]; omega);go_wp2;go_ret;exact q
 have d1:decide ((40:Int)<mx (mx (mx (x.nj:Int) (x.nl:Int)) (x.ngj:Int)) (x.ngl:Int))=false:=fK (by rw [zh,zh,zh]; omega);by_cases s2:x.nn<=20/\x.ngn<=20;rotate_left
 · have q:=ω (E.z 2 (mT sR.z (by unfold jW; rw [a0,KN]; by_cases q1:x.nn<=20 <;> by_cases q2:x.ngn<=20 <;> simp [q1,q2] <;> omega)) _ B.z);have d2:decide ((20:Int)<mx (x.nn:Int) (x.ngn:Int))=true:=t8 (by rw [zh]; omega);go_wp2;go_ret;exact q
 have d2:decide ((20:Int)<mx (x.nn:Int) (x.ngn:Int))=false:=fK (by rw [zh]; omega);have Eb:=ω (CX sR.z (show jW d=true by unfold jW; rw [ay,az,KM,KO,a0,KN]; simp; omega))
 go_wp2_with fail
 clear d1 d2 a9 aA s1 s2;generalize aB:w.alloc (.cells #[d.from_,d.to_,.slice x.aj x.nj x.cj,.slice x.an x.nn x.cn,.slice x.al x.nl x.cl,.slice x.agj x.ngj x.cgj,.slice x.agn x.ngn x.cgn,.slice x.agl x.ngl x.cgl] 95)=w0 at y z B v |-;clear aB;have K:=v.cell 2;have L:=v.cell 3;have M:=v.cell 4;have g5:=v.cell 5;have g6:=v.cell 6;have g7:=v.cell 7;simp only [List.getElem?_toArray,List.getElem?_cons_succ,List.getElem?_cons_zero] at K L M g5 g6 g7;obtain⟨U,aa⟩:∃ e,cE fS aC.name d.jobs=e:=⟨_,rfl⟩;have ai:=ω aa;obtain⟨G,ab⟩:∃ e,cE dP av.name d.nodes=e:=⟨_,rfl⟩;have am:=ω ab;obtain⟨V,ac⟩:∃ e,cE lsE ak.job d.leases=e:=⟨_,rfl⟩;have ao:=ω ac;obtain⟨X,ad⟩:∃ e,jL (fun J=>(cC d.jobs J).isSome) d.gj=e:=⟨_,rfl⟩;have ap:=ω ad;obtain⟨Y,ae⟩:∃ e,jL (fun J=>(bU d.nodes J).isSome) d.gn=e:=⟨_,rfl⟩;have aq:=ω ae;obtain⟨Z,af⟩:∃ e,jL (fun J=>(cD d.leases J).isSome) d.gl=e:=⟨_,rfl⟩;have ar:=ω af;have rG:=ω (show gG d=iL [U,G,V,X,Y,Z] by rw [Eb.z]; unfold AG; rw [aa,ab,ac,ad,ae,af]);clear aa ab ac ad ae af Eb;refine oJ (n:=78) (by kernel_rfl) (dV w x U G V X Y Z) (by decide +kernel) rfl (Jc _ _ _ _ _ _ _ _) ?_ ?_
 · refine⟨?_,?_,?_,?_,?_,?_,?_,?_,?_,?_,?_,?_,?_,?_,?_,?_,?_,?_,?_,?_,?_,?_,?_,?_,?_,?_,?_,trivial⟩
   all_goals (intro F r h u i; refine⟨rfl,?_⟩)
   · have g:=u 1 _ rfl (by decide +kernel);simp [go_sem,Oper.wp,execOp,Act.eval,g];exact⟨_,rfl,θ,rfl⟩
   · obtain⟨u1,g,a⟩:=i 0 _ 44 rfl rfl (by decide +kernel);replace a:u1=_:=a;subst a;have m:=gF K h;simp [go_sem,Oper.wp,execOp,Act.eval,g,m];exact⟨_,rfl,θ,rfl⟩
   · obtain⟨u1,g,a⟩:=i 1 _ 45 rfl rfl (by decide +kernel);replace a:u1=_:=a;subst a;simp [go_sem,Oper.wp,execOp,Act.eval,g];have c:=(y.below h).more h.size;have o:=z.below h;refine (gA.1 d.jobs x.aj x.nj x.cj r (c.j) c.lj c.bj c.oj o).mono ?_;rintro e D ⟨rfl,p⟩;exact⟨_,rfl,p,congrArg (Value.int .i64) ai.z⟩
   · have g:=u 1 _ rfl (by decide +kernel);simp [go_sem,Oper.wp,execOp,Act.eval,g];exact⟨_,rfl,θ,rfl⟩
   · obtain⟨u1,g,a⟩:=i 3 _ 47 rfl rfl (by decide +kernel);replace a:u1=_:=a;subst a;have m:=gF L h;simp [go_sem,Oper.wp,execOp,Act.eval,g,m];exact⟨_,rfl,θ,rfl⟩
   · obtain⟨u1,g,a⟩:=i 4 _ 48 rfl rfl (by decide +kernel);replace a:u1=_:=a;subst a;simp [go_sem,Oper.wp,execOp,Act.eval,g];have c:=(y.below h).more h.size;have o:=z.below h;refine (gA.2.1 d.nodes x.an x.nn x.cn r (c.n) c.ln c.bn c.on_ o).mono ?_;rintro e D ⟨rfl,p⟩;exact⟨_,rfl,p,congrArg (Value.int .i64) am.z⟩
   · have g:=u 1 _ rfl (by decide +kernel);simp [go_sem,Oper.wp,execOp,Act.eval,g];exact⟨_,rfl,θ,rfl⟩
   · obtain⟨u1,g,a⟩:=i 6 _ 50 rfl rfl (by decide +kernel);replace a:u1=_:=a;subst a;have m:=gF M h;simp [go_sem,Oper.wp,execOp,Act.eval,g,m];exact⟨_,rfl,θ,rfl⟩
   · obtain⟨u1,g,a⟩:=i 7 _ 51 rfl rfl (by decide +kernel);replace a:u1=_:=a;subst a;simp [go_sem,Oper.wp,execOp,Act.eval,g];have c:=(y.below h).more h.size;have o:=z.below h;refine (AK d.leases x.al x.nl x.cl r (c.l) c.ll c.bl c.ol o).mono ?_;rintro e D ⟨rfl,p⟩;exact⟨_,rfl,p,congrArg (Value.int .i64) ao.z⟩
   · have g:=u 1 _ rfl (by decide +kernel);simp [go_sem,Oper.wp,execOp,Act.eval,g];exact⟨_,rfl,θ,rfl⟩
   · obtain⟨u1,g,a⟩:=i 9 _ 53 rfl rfl (by decide +kernel);replace a:u1=_:=a;subst a;have m:=gF g5 h;simp [go_sem,Oper.wp,execOp,Act.eval,g,m];exact⟨_,rfl,θ,rfl⟩
   · have g:=u 1 _ rfl (by decide +kernel);simp [go_sem,Oper.wp,execOp,Act.eval,g];exact⟨_,rfl,θ,rfl⟩
   · obtain⟨u1,g,a⟩:=i 11 _ 55 rfl rfl (by decide +kernel);replace a:u1=_:=a;subst a;have m:=gF K h;simp [go_sem,Oper.wp,execOp,Act.eval,g,m];exact⟨_,rfl,θ,rfl⟩
   · obtain⟨u1,g,a⟩:=i 10 _ 54 rfl rfl (by decide +kernel);replace a:u1=_:=a;subst a;obtain⟨u2,C,rfl⟩:=i 12 _ 56 rfl rfl (by decide +kernel);simp [go_sem,Oper.wp,execOp,Act.eval,g,C];have c:=(y.below h).more h.size;have o:=z.below h;refine (qw.1 d.gj d.jobs x.agj x.aj x.ngj x.cgj x.nj x.cj r c.gj c.lgj c.bgj c.ogj c.j c.lj c.bj o).mono ?_;rintro e D ⟨rfl,p⟩;exact⟨_,rfl,p,congrArg (Value.int .i64) ap.z⟩
   · have g:=u 1 _ rfl (by decide +kernel);simp [go_sem,Oper.wp,execOp,Act.eval,g];exact⟨_,rfl,θ,rfl⟩
   · obtain⟨u1,g,a⟩:=i 14 _ 58 rfl rfl (by decide +kernel);replace a:u1=_:=a;subst a;have m:=gF g6 h;simp [go_sem,Oper.wp,execOp,Act.eval,g,m];exact⟨_,rfl,θ,rfl⟩
   · have g:=u 1 _ rfl (by decide +kernel);simp [go_sem,Oper.wp,execOp,Act.eval,g];exact⟨_,rfl,θ,rfl⟩
   · obtain⟨u1,g,a⟩:=i 16 _ 60 rfl rfl (by decide +kernel);replace a:u1=_:=a;subst a;have m:=gF L h;simp [go_sem,Oper.wp,execOp,Act.eval,g,m];exact⟨_,rfl,θ,rfl⟩
   · obtain⟨u1,g,a⟩:=i 15 _ 59 rfl rfl (by decide +kernel);replace a:u1=_:=a;subst a;obtain⟨u2,C,rfl⟩:=i 17 _ 61 rfl rfl (by decide +kernel);simp [go_sem,Oper.wp,execOp,Act.eval,g,C];have c:=(y.below h).more h.size;have o:=z.below h;refine (qw.2.1 d.gn d.nodes x.agn x.an x.ngn x.cgn x.nn x.cn r c.gn c.lgn c.bgn c.ogn c.n c.ln c.bn o).mono ?_;rintro e D ⟨rfl,p⟩;exact⟨_,rfl,p,congrArg (Value.int .i64) aq.z⟩
   · have g:=u 1 _ rfl (by decide +kernel);simp [go_sem,Oper.wp,execOp,Act.eval,g];exact⟨_,rfl,θ,rfl⟩
   · obtain⟨u1,g,a⟩:=i 19 _ 63 rfl rfl (by decide +kernel);replace a:u1=_:=a;subst a;have m:=gF g7 h;simp [go_sem,Oper.wp,execOp,Act.eval,g,m];exact⟨_,rfl,θ,rfl⟩
   · have g:=u 1 _ rfl (by decide +kernel);simp [go_sem,Oper.wp,execOp,Act.eval,g];exact⟨_,rfl,θ,rfl⟩
   · obtain⟨u1,g,a⟩:=i 21 _ 65 rfl rfl (by decide +kernel);replace a:u1=_:=a;subst a;have m:=gF M h;simp [go_sem,Oper.wp,execOp,Act.eval,g,m];exact⟨_,rfl,θ,rfl⟩
   · obtain⟨u1,g,a⟩:=i 20 _ 64 rfl rfl (by decide +kernel);replace a:u1=_:=a;subst a;obtain⟨u2,C,rfl⟩:=i 22 _ 66 rfl rfl (by decide +kernel);simp [go_sem,Oper.wp,execOp,Act.eval,g,C];have c:=(y.below h).more h.size;have o:=z.below h;refine (qw.2.2 d.gl d.leases x.agl x.al x.ngl x.cgl x.nl x.cl r c.gl c.lgl c.bgl c.ogl c.l c.ll c.bl o).mono ?_;rintro e D ⟨rfl,p⟩;exact⟨_,rfl,p,congrArg (Value.int .i64) ar.z⟩
   · obtain⟨u1,g,a⟩:=i 2 _ 46 rfl rfl (by decide +kernel);replace a:u1=_:=a;subst a;obtain⟨u2,C,rfl⟩:=i 5 _ 49 rfl rfl (by decide +kernel);obtain⟨u3,h3,rfl⟩:=i 8 _ 52 rfl rfl (by decide +kernel);obtain⟨u4,h4,rfl⟩:=i 13 _ 57 rfl rfl (by decide +kernel);obtain⟨u5,h5,rfl⟩:=i 18 _ 62 rfl rfl (by decide +kernel);obtain⟨u6,h6,rfl⟩:=i 23 _ 67 rfl rfl (by decide +kernel);simp [go_sem,Oper.wp,execOp,Act.eval,g,C,h3,h4,h5,h6];exact⟨_,rfl,(θ).alloc lJ _,r.heap.size,rfl,by simp,jh.new r _ _⟩
   · obtain⟨u1,g,b,G,-,-⟩:=i 24 _ 68 rfl rfl (by decide +kernel);subst G;simp [go_sem,Oper.wp,execOp,Act.eval,g];exact⟨_,rfl,θ,rfl⟩
   · simp [go_sem,Oper.wp,execOp,Act.eval];exact⟨_,rfl,θ,rfl⟩
 · intro F r hd;obtain⟨f,R,Q⟩:=hd.frame' [44,45,46,47,48,49,50,51,52,53,54,55,56,57,58,59,60,61,62,63,64,65,66,67,68,69,70] rfl;obtain⟨b,a3,a8,a1⟩:∃ b,f 68=_/\_:=Q 24 _ 68 rfl rfl;have a4:f 69=_:=Q 25 _ 69 rfl rfl;have a5:f 70=_:=Q 26 _ 70 rfl rfl;have au:=ω (B.trans (hd.le.mono B.size));clear hd Q;subst R;simp only [foldl_cons,foldl_nil,setIfInBounds_toArray,set_cons_succ,set_cons_zero,a3,a4,a5];clear a3 a4 a5;obtain⟨s,P⟩:∃ s,s=[U,G,V,X,Y,Z]:=⟨_,rfl⟩;have a2:jh r b 0 (s.map (Value.int .i64)):=by rw [P]; exact a1
   have aJ:s.length=6:=by rw [P]; rfl
   have eT:=ω a2;have HA:=ω (show gG d=iL s by rw [P]; exact rG);clear a1 a2 P rG ai am ao ap aq ar K L M g5 g6 g7
   go_wp2_with fail
   go_loop [2,4,70] (fun _ _ ah=>∃ k:Nat,k<=6/\ah = .int .i64 k/\iL (s.drop k)=iL s) (fun _ _ ah=>6 - (intOf ah).toNat)
   case atStart=>exact⟨0,by omega,rfl,rfl⟩
   case round=>
    obtain⟨k,hk,rfl,R⟩:=hrel;have S:=ω R;clear R;by_cases hlt:k<6
    · obtain⟨e,he⟩:∃ e,s[k]? = some e:=⟨_,gO (by omega)⟩;have c0:ζ r b (0+k) (.int .i64 e):=eT.z k _ (by rw [List.getElem?_map,he]; rfl);rw [Nat.zero_add] at c0;have ax:=ω (drop_cons he);clear he;by_cases H:e=0
      · have hn:=ω (show iL (s.drop (k+1))=iL s by rw [<- S.z,ax.z,kI H]);subst H;go_wp2
        go_round
        case rel=>exact⟨k+1,by omega,by go_num,hn.z⟩
        case measure=>simp [intOf]; omega
      · have q:=ω (E.z e (by rw [HA.z,<- S.z,ax.z,jm H]) _ au.z);have aD:(e == 0)=false:=beq_eq_false_iff_ne.2 H;have aE:(e != 0)=true:=bne_iff_ne.2 H;go_wp2;go_ret;exact q
    · have q:=ω (E.z 0 (by rw [HA.z,<- S.z,List.drop_of_length_le (by omega)]; rfl) _ au.z);go_wp2;go_ret;exact q
end Go.Proofs.YtimglglgcgpjgaaGreatDoor
