/- Of the proof of a statement: CopyK, TextR, Rdr, RdRow. -/
import Derived.Laws.CopyRow
import Derived.Laws.IdiomCopy
import Derived.Lib.AppendZerosOnto
import Derived.Lib.SliceRun
import Derived.Deep.RegionLaw
import Derived.Test.YtimglglgcgpjgaaGreatDoorQPk
import Derived.Test.YtimglglgcgpjgaaGreatDoorQUtf
set_option linter.unusedVariables false
set_option linter.unusedSimpArgs false
set_option maxRecDepth 100000
set_option maxHeartbeats 8000000
namespace Go.Proofs.YtimglglgcgpjgaaGreatDoor
open Go.RowKit
open Go.Lib (validD)
section
variable {P:Program}
theorem dG (w:World) (h A ty d:TypeId) (sz:Nat) (g o c k:Nat) (a:Addr) (f z:Nat) (b:Array Value) (t:TypeId) (cs:List Value)
 (x:P.underlying h=some (.slice d)) (i:(P.info? d).map (·.size)=some sz)
 (n:w.heap[g]? = some (.cells b t (0,0))) (r:cs.length=Nat.min f c*sz)
 (s:∀ j v,cs[j]? = some v->w.cell? (a.add j)=some v) (m:o+cs.length<=b.size) (l:∀ v ∈ cs,v.oneCell'=true) :
 (Builtin.copy_ #[h,A] ty #[.slice (some ⟨g,o,none⟩) c k,.slice (some a) f z]).run P w =
  .ok (.int .i64 (Nat.min f c:Nat)) (w.setRow g (b.toList.take o ++ cs ++ b.toList.drop (o+cs.length)).toArray):=by
 have q:=run_loadCells_list (P:=P) w a cs s;have u:=run_storeCells_at P g o t cs 0 b w n (by simpa using m) l
 cases e:P.info? d with
 | none=>simp [e] at i
 | some y=>
  have p:y.size=sz:=by simpa [e] using i
  simp [Builtin.copy_,run_underlying x,Builtin.lenOf,Builtin.firstCells,sizeOf,typeInfo,e,p,<- r,q,u];rfl
theorem zG (w:World) (t ty e:TypeId) (sz:Nat) (A:P.underlying t=some (.slice e)) (h:(P.info? e).map (·.size)=some sz) (g n d:Nat) (a:Addr) (m c:Nat) (b:Array Value) (k:TypeId) (cs:List Value)
 (r:w.heap[g]? = some (.cells b k (0,0))) (u:cs.length=m*sz) (y:∀ j v,cs[j]? = some v->w.cell? (a.add j)=some v) (x:n+m<=d) (q:n*sz+cs.length<=b.size) (o:∀ v ∈ cs,v.oneCell'=true) :
 (Builtin.append_ #[t,t] ty #[.slice (some ⟨g,0,none⟩) n d,.slice (some a) m c]).run P w = .ok (.slice (some ⟨g,0,none⟩) (n+m) d) (w.setRow g (b.toList.take (n*sz) ++ cs ++ b.toList.drop (n*sz+cs.length)).toArray):=by
 have z:=run_storeCells_at P g (n*sz) k cs 0 b w r (by simpa using q) o
 cases f:P.info? e with
 | none=>simp [f] at h
 | some i=>
  have s:i.size=sz:=by simpa [f] using h
  subst s;have p:=run_firstCells_some (P:=P) w i.size m a m c cs u y;have l:(⟨g,0,none⟩:Addr).add (n*i.size)=⟨g,n*i.size,none⟩:=by unfold Addr.add; split <;> simp_all
  simp [Builtin.append_,run_underlying A,sizeOf,typeInfo,f,Builtin.lenOf,x,p,l,z]
theorem mM (z:Array Value) (n:Nat):(Builtin.zeroCells z n).toList.length=n*z.size:=by simp [Builtin.zeroCells]
theorem iD (z:Array Value) (n:Nat) (h:∀ u ∈ z.toList,u.oneCell'=true):∀ u ∈ (Builtin.zeroCells z n).toList,u.oneCell'=true:=by
 intro u b;unfold Builtin.zeroCells at b;rw [Array.toList_map] at b;obtain⟨i,c,rfl⟩:=List.mem_map.1 b;have d:i<n*z.size:=by simpa using c
 have e:0<z.size:=by
  rcases Nat.eq_zero_or_pos z.size with a | a
  · rw [a,Nat.mul_zero] at d; omega
  · exact a
 rw [getElem!_pos z (i % z.size) (Nat.mod_lt _ e)];exact h _ (Array.getElem_mem_toList _)
theorem gI (w:World) (t e ty:TypeId) (z:Value) (g o n c:Nat) (j:P.underlying t=some (.slice e)) (k:∀ w,(zeroValue e).run P w = .ok z w) (f:∀ u ∈ (Builtin.zeroCells z.cells n).toList,u.oneCell'=true) (l:0<n) (a:Array Value) (d:TypeId)
 (i:w.heap[g]? = some (.cells a d (0,0))) (h:o+n*z.cells.size<=a.size) :
 (Builtin.clear_ #[t] ty #[.slice (some ⟨g,o,none⟩) n c]).run P w = .ok (.tuple #[]) (w.setRow g (a.toList.take o ++ (Builtin.zeroCells z.cells n).toList ++ a.toList.drop (o+(Builtin.zeroCells z.cells n).toList.length)).toArray):=by
 have b:=run_storeCells_at P g o d (Builtin.zeroCells z.cells n).toList 0 a w i (by rw [mM]; simpa using h) f;obtain⟨m,rfl⟩:∃ m,n=m+1:=⟨n - 1,by omega⟩;simp only [Nat.add_zero] at b;simp [Builtin.clear_,run_underlying j,k,b]
end
structure eX (w:World) (base:Nat) (e:TypeId) (sz g cap:Nat) (cur:Array Value):Prop where
 ge:base<=g
 blk:w.heap[g]? = some (.cells cur e (0,0))
 cap_:cap<=maxLen
 size:cur.size=cap*sz
theorem eX.of {w:World} {base n g c sz:Nat} {e:TypeId} {xs:List Value} (h:w.ownsRow base e sz (.slice (some ⟨g,0,none⟩) n c) n xs):∃ b,eX w base e sz g c b/\n<=c/\b.toList.take (n*sz)=xs:=by
 rcases h.2 with ⟨d,_⟩ | ⟨r,q,b,o,d,i,j,k,l,m⟩
 · cases d
 · injection o with a p f;injection a with a;injection a with a;subst a; subst f;exact⟨b,⟨d,i,k,l⟩,j,m⟩
theorem eX.own {w:World} {base g a sz:Nat} {e:TypeId} {b:Array Value} (h:eX w base e sz g a b) {n:Nat} (c:n<=a) {xs:List Value} (d:b.toList.take (n*sz)=xs):w.ownsRow base e sz (.slice (some ⟨g,0,none⟩) n a) n xs:=by
 subst d;refine⟨?_,.inr ⟨g,a,b,rfl,h.ge,h.blk,c,h.cap_,h.size,rfl⟩⟩;rw [List.length_take,Array.length_toList,h.size];have:=Nat.mul_le_mul_right sz c;omega
theorem eX.set {w:World} {base g b sz:Nat} {e:TypeId} {c:Array Value} (h:eX w base e sz g b c) (a:Array Value) (d:a.size=b*sz):eX (w.setRow g a) base e sz g b a:=
 ⟨h.ge,setRow_heap w g c a e _ h.blk,h.cap_,d⟩
theorem wG (w:World) (g:Nat) (a:Array Value):w.grownBy (w.setRow g a) (some g):=⟨rfl,rfl,rfl,by simp [World.setRow],fun k _ b=>setRow_other w g k a (fun e=>b (by simp [e]))⟩
theorem pY (w:World) (g n d c b:Nat) (a:Array Value):cY w (w.setRow g a) (.slice (some ⟨g,0,none⟩) n c) (.slice (some ⟨g,0,none⟩) d b):=
 ⟨wG w g a,.inl rfl⟩
theorem mN (w:World) (g n f c b:Nat) (a:Array Value):cY w (w.drew.setRow g a) (.slice (some ⟨g,0,none⟩) n c) (.slice (some ⟨g,0,none⟩) f b):=
 ⟨⟨rfl,rfl,rfl,by simp [World.setRow],fun k _ d=>setRow_other w.drew g k a (fun e=>d (by simp [Value.ownBlock,e]))⟩,.inl rfl⟩
theorem eX.cells {w:World} {base g c sz:Nat} {e:TypeId} {a:Array Value} (h:eX w base e sz g c a) (o:Nat):∀ j v,(a.toList.drop o)[j]? = some v->w.cell? ((⟨g,o,none⟩:Addr).add j)=some v:=fun j v b=>by
 have d:(⟨g,o,none⟩:Addr).add j=⟨g,o+j,none⟩:=by unfold Addr.add; split <;> simp_all
 rw [d,cell_of_row w g (o+j) a e (0,0) h.blk];rw [List.getElem?_drop,Array.getElem?_toList] at b;exact b
theorem xA {P:Program} (w:World) {o:Oper} {a:Act} {K:Act->World->Prop} {Q:Exit->Act->World->Prop} (d s:Operand) (t b:TypeId)
 (e:o.op = .call { callee:=.builtin .copy,args:=#[d,s],argTypes:=#[t,b] }) (v u:Value) (c:a.eval d=v) (g:a.eval s=u) {v':Value} {w':World}
 (f:(Builtin.copy_ #[t,b] o.type #[v,u]).run P w = .ok v' w') (h:K (a.put o.dst v') w'):o.wp P a w K Q:=by
 unfold Oper.wp execOp;simp only [e,resolve,invoke,builtin,Sem.run_bind,Sem.run_pure,Result.andThen_ok,List.map_toArray,List.map_cons,List.map_nil,c,g,f];exact h
theorem gD {P:Program} (w:World) {c:Array Oper} {e:List Oper} {o:Oper} {a:Act} {Q:Exit->Act->World->Prop} (i:o.guard=none) (d s:Operand) (t b:TypeId)
 (j:o.op = .call { callee:=.builtin .copy,args:=#[d,s],argTypes:=#[t,b] }) (v u:Value) (g:a.eval d=v) (l:a.eval s=u) {v':Value} {w':World}
 (k:(Builtin.copy_ #[t,b] o.type #[v,u]).run P w = .ok v' w') (h:wpList P c Q e (a.put o.dst v') w'):wpList P c Q (o :: e) a w:=
 wpList_plain i fun _ f=>xA w d s t b j v u g l k (f _ _ h)
theorem jc {P:Program} {e:Array Oper} {o:Oper} {a:Act} {w:World} {K:Act->World->Prop} {Q:Exit->Act->World->Prop} {E:Prop}
 (h:o.guard=none) (d x:Operand) (b c:TypeId) (i:o.op=Op.call { callee:=Callee.builtin Builtin.copy,args:=#[d,x],argTypes:=#[b,c] })
 (v u:Value) (g:a.eval d=v) (l:a.eval x=u) {v':Value} {w':World} (j:(Builtin.copy_ #[b,c] o.type #[v,u]).run P w = .ok v' w') (f:K (a.put o.dst v') w') :
 if Region.wanted o (yielded e a.tmps)=true then Oper.wp P o a w K Q else E:=by
 have k:Region.wanted o (yielded e a.tmps)=true:=by simp [Region.wanted,h]
 rw [if_pos k];exact xA w d x b c i v u g l j f
theorem nu {P:Program} {c:Array Oper} {o:Oper} {a:Act} {w:World} {K:Act->World->Prop} {Q:Exit->Act->World->Prop} {E:Prop}
 (h:o.guard=none) (d x:Operand) (b e:TypeId) (i:o.op=Op.call { callee:=Callee.builtin Builtin.append,args:=#[d,x],argTypes:=#[b,e] })
 (v u:Value) (g:a.eval d=v) (l:a.eval x=u) {v':Value} {w':World} (j:(Builtin.append_ #[b,e] o.type #[v,u]).run P w = .ok v' w') (f:K (a.put o.dst v') w') :
 if Region.wanted o (yielded c a.tmps)=true then Oper.wp P o a w K Q else E:=by
 have k:Region.wanted o (yielded c a.tmps)=true:=by simp [Region.wanted,h]
 rw [if_pos k];unfold Oper.wp execOp;simp only [i,resolve,invoke,builtin,Sem.run_bind,Sem.run_pure,Result.andThen_ok,List.map_toArray,List.map_cons,List.map_nil,g,l,j];exact f
theorem cW {P:Program} (w:World) {b:Array Oper} {c:List Oper} {o:Oper} {a:Act} {Q:Exit->Act->World->Prop} (e:o.guard=none) (s:Operand) (t:TypeId)
 (f:o.op = .call { callee:=.builtin .clear,args:=#[s],argTypes:=#[t] }) (v:Value) (i:a.eval s=v) {v':Value} {w':World}
 (g:(Builtin.clear_ #[t] o.type #[v]).run P w = .ok v' w') (h:wpList P b Q c (a.put o.dst v') w'):wpList P b Q (o :: c) a w:=by
 refine wpList_plain e fun _ d=>?_;unfold Oper.wp execOp;simp only [f,resolve,invoke,builtin,Sem.run_bind,Sem.run_pure,Result.andThen_ok,List.map_toArray,List.map_cons,List.map_nil,i,g];exact d _ _ h
theorem eA {α:Type} {enc:α->List Value} {sz:Nat} (h:∀ a,(enc a).length=sz):∀ (l:List α) (k:Nat),(au enc l).take (k*sz)=au enc (l.take k)
 | [],k=>by simp [au]
 | a :: l,0=>by simp [au]
 | a :: l,k+1=>by
  show (enc a ++ au enc l).take ((k+1)*sz)=enc a ++ au enc (l.take k)
  rw [List.take_append,h,show (k+1)*sz - sz=k*sz by rw [Nat.add_mul]; omega,eA h l k,List.take_of_length_le (by rw [h,Nat.add_mul]; omega)]
theorem fB {α:Type} {enc:α->List Value} {sz:Nat} (h:∀ a,(enc a).length=sz):∀ (l:List α) (k:Nat),(au enc l).drop (k*sz)=au enc (l.drop k)
 | [],k=>by simp [au]
 | a :: l,0=>by simp [au]
 | a :: l,k+1=>by
  show (enc a ++ au enc l).drop ((k+1)*sz)=au enc (l.drop k)
  rw [List.drop_append,h,show (k+1)*sz - sz=k*sz by rw [Nat.add_mul]; omega,fB h l k,List.drop_eq_nil_of_le (by rw [h,Nat.add_mul]; omega),List.nil_append]
theorem vG {L X R:List Value} {a b s:Nat} (k:a<=b) (l:b+s<=L.length) (d:X.length=s) (c:L.take b=R) :
 (((L.take (a+s) ++ (L.drop a).take (b - a) ++ L.drop (a+s+(b - a))).take a) ++ X ++ (L.take (a+s) ++ (L.drop a).take (b - a) ++ L.drop (a+s+(b - a))).drop (a+s)).take (b+s)=R.take a ++ X ++ R.drop a:=by
 have j:(L.take (a+s)).length=a+s:=by rw [List.length_take]; omega
 have e:((L.drop a).take (b - a)).length=b - a:=by rw [List.length_take,List.length_drop]; omega
 have g:(L.take (a+s) ++ (L.drop a).take (b - a) ++ L.drop (a+s+(b - a))).take a=R.take a:=by
  rw [List.append_assoc,List.take_append_of_le_length (by omega),List.take_take,<- c,List.take_take]
  congr 1; omega
 have h:(L.take (a+s) ++ (L.drop a).take (b - a) ++ L.drop (a+s+(b - a))).drop (a+s)=(L.drop a).take (b - a) ++ L.drop (a+s+(b - a)):=by
  rw [List.append_assoc,List.drop_append,j,Nat.sub_self,List.drop_zero,List.drop_eq_nil_of_le (by omega),List.nil_append]
 have i:(L.drop a).take (b - a)=R.drop a:=by rw [<- c,List.drop_take]
 have f:(R.take a).length=a:=by rw [<- c,List.length_take,List.length_take]; omega
 rw [g,h,<- List.append_assoc,List.take_append_of_le_length (by simp only [List.length_append,f,d,e]; omega),List.take_of_length_le (by simp only [List.length_append,f,d,e]; omega),i]
theorem yu {L X D:List Value} {a s:Nat} (e:a+s+D.length<=L.length) (d:X.length=s) :
 ((L.take a ++ X ++ L.drop (a+s)).take (a+s) ++ D ++ (L.take a ++ X ++ L.drop (a+s)).drop (a+s+D.length)).take (a+s+D.length)=L.take a ++ X ++ D:=by
 have b:(L.take a ++ X).length=a+s:=by rw [List.length_append,List.length_take,d]; omega
 have c:(L.take a ++ X ++ L.drop (a+s)).take (a+s)=L.take a ++ X:=by
  rw [List.take_append_of_le_length (by omega),List.take_of_length_le (by omega)]
 rw [c,List.take_append_of_le_length (by rw [List.length_append,b]; exact lJ),List.take_of_length_le (by rw [List.length_append,b]; exact lJ)]
theorem vk {L R:List Value} {a b s:Nat} (f:a+s<=b) (g:b<=L.length) (e:L.take b=R) :
 (L.take a ++ (L.drop (a+s)).take (b - (a+s)) ++ L.drop (a+(b - (a+s)))).take (b - s)=R.take a ++ R.drop (a+s):=by
 have c:(L.take a).length=a:=by rw [List.length_take]; omega
 have d:((L.drop (a+s)).take (b - (a+s))).length=b - (a+s):=by rw [List.length_take,List.length_drop]; omega
 rw [List.take_append_of_le_length (by rw [List.length_append,c,d]; omega),List.take_of_length_le (by rw [List.length_append,c,d]; omega),<- e,List.drop_take,List.take_take,Nat.min_eq_left (by omega)]
def iR (s:ByteArray) (w:World) (e:Ending) (w':World):Prop:=e = .returned (.tuple #[.string (oH s).1,((oH s).2.1:Int),((oH s).2.2:Int)])/\Below w w w'
theorem iR.mk' {s a:ByteArray} {n e:Nat} {w w':World} (h:oH s=(a,n,e)) (b:Below w w w'):iR s w (.returned (.tuple #[a,(n:Int),(e:Int)])) w':=⟨by rw [h],b⟩
theorem Dl (s:ByteArray) (w:World) (u:s.size<=9223372036854775807) (t:Tabs w):ψ 269 #[s] w (iR s w):=by
 obtain⟨n,k,e,i⟩:∃ n k e,rdNum s=(n,k,e):=⟨_,_,_,rfl⟩;have d:=ω (tY i w u);obtain⟨l,z,r,m⟩:=gW i;have c:=ω i;clear i;by_cases q:e=0
 · subst q;have B:=m rfl;clear m r;by_cases h:16<n
   · have a:=ω (iR.mk' (w:=w) (w':=w) (vH c.z h) θ);go_enter Tryz.func269,Tryz.ntmps269
     go_wp2_with fail
     refine d.mono ?_;rintro x b ⟨rfl,rfl⟩;go_wp2;refine bodyPost_ret (v:=.tuple #[.string ⟨#[]⟩,.int .i64 0,.int .i64 2]) (by simp [results,Tryz.results269,go_sem]) rfl a.z
   · by_cases p:s.size<k+n
     · have a:=ω (iR.mk' (w:=w) (w':=w) (vI c.z h p) θ);clear l;go_enter Tryz.func269,Tryz.ntmps269
       go_wp2_with fail
       refine d.mono ?_;rintro x b ⟨rfl,rfl⟩;go_wp2;refine bodyPost_ret (v:=.tuple #[.string ⟨#[]⟩,.int .i64 0,.int .i64 3]) (by simp [results,Tryz.results269,go_sem]) rfl a.z
     · clear l;have g:=ω (xG (s.extract k (k+n)) w (by rw [ByteArray.size_extract]; omega) t);cases j:validD (s.extract k (k+n)).data.toList
       · have a:=ω (fun b=>iR.mk' (w:=w) (w':=b) (yC c.z h p j));rw [j] at g;go_enter Tryz.func269,Tryz.ntmps269
         go_wp2_with fail
         refine d.mono ?_;rintro x b ⟨rfl,rfl⟩
         go_wp2_with fail
         refine g.mono ?_;rintro x y ⟨rfl,o⟩;go_wp2;refine bodyPost_ret (v:=.tuple #[.string ⟨#[]⟩,.int .i64 0,.int .i64 4]) (by simp [results,Tryz.results269,go_sem]) rfl (a.z _ o)
       · have a:=ω (fun b=>iR.mk' (w:=w) (w':=b) (C9 c.z h p j));rw [j] at g;go_enter Tryz.func269,Tryz.ntmps269
         go_wp2_with fail
         refine d.mono ?_;rintro x b ⟨rfl,rfl⟩
         go_wp2_with fail
         refine g.mono ?_;rintro x y ⟨rfl,o⟩;go_wp2;refine bodyPost_ret (v:=.tuple #[.string (s.extract k (k+n)),.int .i64 ((k:Int)+n),.int .i64 0]) (by simp [results,Tryz.results269,go_sem]) rfl ?_;have:=a.z _ o;rw [Int.natCast_add] at this;exact this
 · have a:=ω (iR.mk' (w:=w) (w':=w) (AQ c.z q) θ);clear m l;go_enter Tryz.func269,Tryz.ntmps269
   go_wp2_with fail
   refine d.mono ?_;rintro x b ⟨rfl,rfl⟩;go_wp2;refine bodyPost_ret (v:=.tuple #[.string ⟨#[]⟩,.int .i64 0,.int .i64 (e:Int)]) (by simp [results,Tryz.results269,go_sem]) rfl a.z
def rR (w:World) (g:Nat) (s:ByteArray) (e:Nat):Prop:=Blk w g 152 #[s,(e:Int)]
def RxS (w:World) (g:Nat) (σ:RR Unit):Prop:=match σ with
 | .ok _ s=>rR w g s 0
 | .bad e=>∃ s,s.size<=9223372036854775807/\rR w g s e
def Bk:Nat:=9223372036854775807
def Dm {α:Type} (g:Nat) (res:RR α) (enc:α->Value) (Z:α->Prop) (w:World) (e:Ending) (w':World):Prop:=
 ∃ a,e = .returned (enc a)/\mX res Z a/\RxS w' g res.st/\w.grownBy w' (some g)
theorem bO (w:World) (g:Nat):w.grownBy w (some g):=⟨rfl,rfl,rfl,lJ,fun _ _ _=>rfl⟩
theorem aP {w w' d:World} {g:Nat} (h:w.grownBy w' (some g)) (a:w'.grownBy d (some g)):w.grownBy d (some g):=
 ⟨a.os.trans h.os,a.tape.trans h.tape,a.output.trans h.output,v6 h.size a.size,fun k b c=>(a.block k (u7 b h.size) c).trans (h.block k b c)⟩
theorem fU {w w':World} (g:Nat) (h:Below w w w'):w.grownBy w' (some g):=⟨h.os,h.tape,h.output,h.size,fun k a _=>h.block k a⟩
theorem ay {w w':World} {g k:Nat} {t:TypeId} {cs:Array Value} (h:w.grownBy w' (some g)) (a:Blk w k t cs) (b:k≠g):Blk w' k t cs:=
 (h.block k a.lt (by simp; exact b)).trans a
theorem rR.set {w:World} {g:Nat} {s:ByteArray} {e:Nat} (h:rR w g s e) (a:ByteArray):rR (sX w g 0 (.string a)) g a e:=Blk.eq (Blk.set h 0 _) (by simp)
theorem rR.err {w:World} {g:Nat} {s:ByteArray} {e:Nat} (h:rR w g s e) (a:Nat):rR (sX w g 1 (.int .i64 (a:Int))) g s a:=Blk.eq (Blk.set h 1 _) (by simp)
theorem aR (w:World) (g i:Nat) (v:Value):w.grownBy (sX w g i v) (some g):=aJ (bO w g) i v
theorem Dn (g:Nat) (s:ByteArray) (e x:Nat) (w:World) (h:rR w g s x) :
 ψ 141 #[π g 0,(e:Int)] w fun i d=>i = .returned (.tuple #[])/\rR d g s (if x=0 then e else x)/\w.grownBy d (some g):=by
 have l:ζ w g 1 (.int .i64 (x:Int)):=Blk.cell h 1;have m:κ w g 1:=Blk.thaw h 1;have j:=Blk.lt h;obtain⟨c,a⟩:∃ c,(if x=0 then e else x)=c:=⟨_,rfl⟩;rw [a];by_cases b:x=0
 · subst b;rw [if_pos rfl] at a;subst a;have H:=ω (h.err e);clear h;go_enter Tryz.func141,Tryz.ntmps141;go_wp2;go_end0;exact⟨rfl,H,aR _ _ _ _⟩
 · have k:((x:Int) == 0)=false:=by rw [beq_eq_false_iff_ne]; omega
   rw [if_neg b] at a;subst a;have H:=ω h;clear h b;go_enter Tryz.func141,Tryz.ntmps141;go_wp2;go_end0;exact⟨rfl,H,bO _ _⟩
theorem E7 (g:Nat) (σ:RR Unit) (w:World) (h:RxS w g σ) (t:σ.Good Bk) :
 ψ 140 #[π g 0] w (Dm g (σ.bind fun _ s=>dI s) (fun p:Nat=>.int .u64 p) (fun p=>p=0) w):=by
 cases σ with
 | bad x=>
  obtain⟨s,d,a⟩:=h;have C:ζ w g 1 (.int .i64 (x:Int)):=Blk.cell a 1;have B:((x:Int) != 0)=true:=by rw [bne_iff_ne]; have:=t.1; omega
  have v:=ω a;clear a;go_enter Tryz.func140,Tryz.ntmps140;go_wp2;go_ret;exact⟨0,rfl,rfl,⟨s,d,v⟩,bO _ _⟩
 | ok F s=>
  have a:rR w g s 0:=h;have d:s.size<=9223372036854775807:=t;have G:ζ w g 0 (.string s):=Blk.cell a 0;have C:ζ w g 1 (.int .i64 0):=Blk.cell a 1;have H:κ w g 0:=Blk.thaw a 0;rcases b:rdNum s with ⟨i,k,e⟩;have z:=gW b;have l:=ω a;have m:=ω (tY b w d);by_cases q:e=0
  · subst q;have D:=(z.2.2.2 rfl).2;by_cases r:4611686018427387904<i
    · have c:=ω (vK b r);have y:decide ((4611686018427387904:Int)<(i:Int))=true:=t8 (by omega);clear a h b;go_enter Tryz.func140,Tryz.ntmps140
      go_wp2_with fail
      refine m.mono ?_;rintro e j ⟨rfl,rfl⟩
      go_wp2_with fail
      refine Calls.mono (Dn g s 2 0 _ l.z) ?_;rintro e j ⟨rfl,n,o⟩;go_wp2;go_ret;exact⟨0,rfl,by rw [RR.bind_ok,c.z]; rfl,by rw [RR.bind_ok,c.z]; exact⟨s,d,n⟩,o⟩
    · have c:=ω (Da b r);have y:decide ((4611686018427387904:Int)<(i:Int))=false:=fK (by omega);clear a h b;go_enter Tryz.func140,Tryz.ntmps140
      go_wp2_with fail
      refine m.mono ?_;rintro e j ⟨rfl,rfl⟩;go_wp2;go_ret;exact⟨i,rfl,by rw [RR.bind_ok,c.z]; rfl,by rw [RR.bind_ok,c.z]; exact l.set _,aR _ _ _ _⟩
  · have c:=ω (AT b q);have B:((e:Int) == 0)=false:=by rw [beq_eq_false_iff_ne]; omega
    have E:((e:Int) != 0)=true:=by rw [bne_iff_ne]; omega
    clear a h b;go_enter Tryz.func140,Tryz.ntmps140
    go_wp2_with fail
    refine m.mono ?_;rintro u j ⟨rfl,rfl⟩
    go_wp2_with fail
    refine Calls.mono (Dn g s e 0 _ l.z) ?_;rintro u j ⟨rfl,n,o⟩;go_wp2;go_ret;exact⟨0,rfl,by rw [RR.bind_ok,c.z]; rfl,by rw [RR.bind_ok,c.z]; exact⟨s,d,n⟩,o⟩
theorem E8 {σ:RR Unit} {a:Nat} (h:mX (σ.bind fun _ s=>dI s) (fun n=>n=0) a):a<=4611686018427387904:=by
 cases σ with
 | bad x=>rw [RR.fR] at h; have h:a=0:=h; omega
 | ok u s=>
  rw [RR.bind_ok] at h
  cases b:dI s with
  | bad x=>rw [b] at h; have h:a=0:=h; omega
  | ok c r=>rw [b] at h; have h:a=c:=h; have:=um b; omega
theorem L2 (g:Nat) (σ:RR Unit) (w:World) (h:RxS w g σ) (i:σ.Good Bk) :
 ψ 76 #[π g 0] w (Dm g (σ.bind fun _ s=>dI s) (fun n:Nat=>.int .i64 n) (fun n=>n=0) w):=by
 have H:=ω (E7 g σ w h i);clear h;go_enter Tryz.func76,Tryz.ntmps76
 go_wp2_with fail
 refine H.mono ?_;rintro j l ⟨c,rfl,a,e,d⟩;have k:=E8 a;have b:=ω a;clear a;go_wp2;go_ret;exact⟨c,rfl,b,e,d⟩
theorem L3 (g:Nat) (σ:RR Unit) (w:World) (h:RxS w g σ) (j:σ.Good Bk) :
 ψ 268 #[π g 0] w (Dm g (σ.bind fun _ s=>dI s) (fun n:Nat=>.int .i64 (lB n)) (fun n=>n=0) w):=by
 have H:=ω (E7 g σ w h j);clear h;go_enter Tryz.func268,Tryz.ntmps268
 go_wp2_with fail
 refine H.mono ?_;rintro e k ⟨b,rfl,a,i,d⟩;have l:=E8 a;have c:=ω a;clear a
 go_wp2_with fail
 refine Calls.mono (Nl (b:Int) (by omega) (by omega) k) ?_;rintro e m ⟨rfl,rfl⟩;go_wp2;go_ret;exact⟨b,rfl,c,i,d⟩
theorem Pc (g:Nat) (σ:RR Unit) (w:World) (p:RxS w g σ) (y:σ.Good Bk) (v:Tabs w) :
 ψ 267 #[π g 0] w (Dm g (σ.bind fun _ s=>cF s) (fun t=>.string t) (fun t=>t=⟨#[]⟩) w):=by
 cases σ with
 | bad z=>
  obtain⟨s,m,a⟩:=p;have r:ζ w g 1 (.int .i64 (z:Int)):=Blk.cell a 1;have I:((z:Int) != 0)=true:=by rw [bne_iff_ne]; have:=y.1; omega
  have D:=ω a;clear a;go_enter Tryz.func267,Tryz.ntmps267;go_wp2;go_ret;exact⟨⟨#[]⟩,rfl,rfl,⟨s,m,D⟩,bO _ _⟩
 | ok K s=>
  have a:rR w g s 0:=p;have m:s.size<=9223372036854775807:=y;have B:ζ w g 0 (.string s):=Blk.cell a 0;have r:ζ w g 1 (.int .i64 0):=Blk.cell a 1;have G:=Blk.lt a;rcases d:oH s with ⟨t,k,j⟩;have q:=rM d;have i:=ω a;have l:=Dl s w m v;unfold iR at l;rw [d] at l;have u:=ω l;clear l v p;by_cases x:j=0
  · subst x;have H:=q.2.2 rfl;have e:=ω (wR d);clear a d q;go_enter Tryz.func267,Tryz.ntmps267
    go_wp2_with fail
    refine u.mono ?_;rintro j h ⟨rfl,c⟩;have b:rR h g s 0:=Blk.below i.z c i.lt;have M:ζ h g 0 (.string s):=Blk.cell b 0;have N:κ h g 0:=Blk.thaw b 0;have n:=ω b;have o:=ω c;clear b c B r;go_wp2;go_ret;exact⟨t,rfl,by rw [RR.bind_ok,e.z]; rfl,by rw [RR.bind_ok,e.z]; exact n.set _,aP (fU g o.z) (aR _ _ _ _)⟩
  · have e:=ω (uj d x);have J:((j:Int) != 0)=true:=by rw [bne_iff_ne]; omega
    clear a d q;go_enter Tryz.func267,Tryz.ntmps267
    go_wp2_with fail
    refine u.mono ?_;rintro C h ⟨rfl,c⟩;have b:rR h g s 0:=Blk.below i.z c i.lt;have n:=ω b;have o:=ω c;clear b c B r
    go_wp2_with fail
    refine Calls.mono (Dn g s j 0 _ n.z) ?_;rintro C L ⟨rfl,E,F⟩;go_wp2;go_ret;exact⟨⟨#[]⟩,rfl,by rw [RR.bind_ok,e.z]; rfl,by rw [RR.bind_ok,e.z]; exact⟨s,m,E⟩,aP (fU g o.z) F⟩
theorem Tabs.grow {w w':World} {b:Nat} (h:Tabs w) (k:ren.g 3≠b) (e:ren.g 4≠b) (l:w.grownBy w' (some b)):Tabs w':=by
 have cell:∀ {a:Addr} {v:Value},a.block≠b->w.cell? a=some v->w'.cell? a=some v:=fun {a v} m c=>by
  have hlt:a.block<w.heap.size:=by
   rcases Nat.lt_or_ge a.block w with d | d
   · exact d
   · simp [World.cell?,Array.getElem?_eq_none d] at c
  have:=l.block a.block hlt (by simp; exact m);rw [<- c];unfold World.cell?;rw [this]
 exact⟨fun j c=>cell k (h.1 j c),fun i f=>⟨cell e (h.2 i f).1,cell e (h.2 i f).2⟩⟩
theorem Tabs.lts {w:World} (h:Tabs w):ren.g 3<w.heap.size/\ren.g 4<w.heap.size:=by
 have lt:∀ {a:Addr} {v:Value},w.cell? a=some v->a.block<w.heap.size:=fun {a v} c=>by
  rcases Nat.lt_or_ge a.block w with b | b
  · exact b
  · simp [World.cell?,Array.getElem?_eq_none b] at c
 exact⟨lt (h.1 0 (by decide)),lt (h.2 0 (by decide)).1⟩
theorem RxS.grow {w w':World} {g b:Nat} {σ:RR Unit} (h:RxS w g σ) (a:w.grownBy w' (some b)) (c:g≠b):RxS w' g σ:=by
 cases σ with
 | ok u s=>exact ay a h c
 | bad x=>obtain⟨s,d,e⟩:=h; exact⟨s,d,ay a e c⟩
theorem RxS.lt {w:World} {g:Nat} {σ:RR Unit} (h:RxS w g σ):g<w.heap.size:=by
 cases σ with
 | ok u s=>exact Blk.lt h
 | bad x=>obtain⟨s,b,a⟩:=h; exact Blk.lt a
structure ko (w:World) (g:Nat) (σ:RR Unit):Prop where
 at_:RxS w g σ
 good:σ.Good Bk
 tabs:Tabs w
 n3:ren.g 3<g
 n4:ren.g 4<g
theorem ko.next {w w':World} {g:Nat} {σ σ':RR Unit} (h:ko w g σ) (c:RxS w' g σ') (b:σ'.Good Bk) (a:w.grownBy w' (some g)):ko w' g σ':=
 ⟨c,b,h.tabs.grow (Nat.ne_of_lt h.n3) (Nat.ne_of_lt h.n4) a,h.n3,h.n4⟩
theorem ko.grow {w w':World} {g b:Nat} {σ:RR Unit} (h:ko w g σ) (a:w.grownBy w' (some b)) (c:g<b):ko w' g σ:=
 ⟨h.at_.grow a (Nat.ne_of_lt c),h.good,h.tabs.grow (by have:=h.n3; omega) (by have:=h.n4; omega) a,h.n3,h.n4⟩
theorem ko.alloc {w:World} {g:Nat} {σ:RR Unit} (h:ko w g σ) (o:Obj):ko (w.alloc o) g σ:=
 h.grow (b:=w.heap.size) (fU _ ((θ).alloc lJ _)) h.at_.lt
theorem ko.set {w:World} {g:Nat} {σ:RR Unit} (h:ko w g σ) (b i:Nat) (v:Value) (a:g<b):ko (sX w b i v) g σ:=
 h.grow (aR w b i v) a
def oE {α:Type} (g:Nat) (res:RR α) (enc:α->Value) (Z:α->Prop) (w:World) (e:Ending) (w':World):Prop:=
 ∃ a,e = .returned (enc a)/\mX res Z a/\ko w' g res.st/\w.grownBy w' (some g)
theorem Dp {α:Type} {N:Nat} {σ:RR Unit} {p:ByteArray->RR α} (h:σ.Good N) (a:∀ s,s.size<=N->(p s).Good N):(σ.bind fun _ s=>p s).st.Good N:=
 (h.bind fun _ r b=>a r b).st
theorem qD (g:Nat) (σ:RR Unit) (w:World) (h:ko w g σ) :
 ψ 76 #[π g 0] w (oE g (σ.bind fun _ s=>dI s) (fun n:Nat=>.int .i64 n) (fun n=>n=0) w):=by
 refine Calls.mono (L2 g σ w h.at_ h.good) ?_;rintro i j ⟨b,c,e,d,a⟩;exact⟨b,c,e,h.next d (Dp h.good fun _=>jO) a,a⟩
theorem L4 (g:Nat) (σ:RR Unit) (w:World) (h:ko w g σ) :
 ψ 268 #[π g 0] w (oE g (σ.bind fun _ s=>dI s) (fun n:Nat=>.int .i64 (lB n)) (fun n=>n=0) w):=by
 refine Calls.mono (L3 g σ w h.at_ h.good) ?_;rintro i j ⟨b,c,e,d,a⟩;exact⟨b,c,e,h.next d (Dp h.good fun _=>jO) a,a⟩
theorem uX (g:Nat) (σ:RR Unit) (w:World) (h:ko w g σ) :
 ψ 267 #[π g 0] w (oE g (σ.bind fun _ s=>cF s) (fun t=>.string t) (fun t=>t=⟨#[]⟩) w):=by
 refine Calls.mono (Pc g σ w h.at_ h.good h.tabs) ?_;rintro i j ⟨b,c,e,d,a⟩;exact⟨b,c,e,h.next d (Dp h.good fun _=>kD) a,a⟩
theorem vP {w w' d:World} {g b:Nat} (h:w.grownBy w' (some g)) (a:w'.grownBy d (some b)) (f:w.heap.size<=b):w.grownBy d (some g):=
 ⟨a.os.trans h.os,a.tape.trans h.tape,a.output.trans h.output,v6 h.size a.size,fun k c e=>(a.block k (u7 c h.size) (by simp; omega)).trans (h.block k c e)⟩
structure RGo (w0 w:World) (g:Nat) (σ:RR Unit) (R:Nat) (t:TypeId) (cs:Array Value):Prop where
 ok:ko w g σ
 keep:w0.grownBy w (some g)
 blk:Blk w R t cs
 gt:g<R
 new:w0.heap.size<=R
theorem RGo.start {w:World} {g:Nat} {σ:RR Unit} (h:ko w g σ) (t:TypeId) (cs:Array Value):RGo w (χ w cs t) g σ w t cs:=
 ⟨h.alloc _,fU _ ((θ).alloc lJ _),n5 w _,h.at_.lt,lJ⟩
theorem RGo.next {w0 w w':World} {g R:Nat} {σ σ':RR Unit} {t:TypeId} {cs:Array Value} (h:RGo w0 w g σ R t cs) (b:ko w' g σ') (a:w.grownBy w' (some g)):RGo w0 w' g σ' R t cs:=
 ⟨b,aP h.keep a,ay a h.blk (Nat.ne_of_gt h.gt),h.gt,h.new⟩
theorem RGo.alloc {w0 w:World} {g R:Nat} {σ:RR Unit} {t:TypeId} {cs:Array Value} (h:RGo w0 w g σ R t cs) (o:Obj):RGo w0 (w.alloc o) g σ R t cs:=
 ⟨h.ok.alloc _,aP h.keep (fU _ ((θ).alloc lJ _)),h.blk.alloc _,h.gt,h.new⟩
theorem RGo.set {w0 w:World} {g R:Nat} {σ:RR Unit} {t:TypeId} {cs:Array Value} (h:RGo w0 w g σ R t cs) (i:Nat) (v:Value):RGo w0 (sX w R i v) g σ R t (cs.setIfInBounds i v):=
 ⟨h.ok.set _ _ _ h.gt,vP h.keep (aR _ _ _ _) h.new,h.blk.set i v,h.gt,h.new⟩
theorem RGo.other {w0 w:World} {g R a:Nat} {σ:RR Unit} {t e:TypeId} {cs c:Array Value} (h:RGo w0 w g σ R t cs) (b:RGo w0 w g σ a e c) (d:R≠a) (i:Nat) (v:Value):RGo w0 (sX w a i v) g σ R t cs:=
 ⟨h.ok.set _ _ _ b.gt,vP h.keep (aR _ _ _ _) b.new,ay (aR _ _ _ _) h.blk d,h.gt,h.new⟩
theorem rS :
 (∀ {σ:RR Unit} {v:Int} (d:1<v) (q:2<v) {name:ByteArray} {prio:Nat} {need:Nat} {tries:Nat} {tag:ByteArray} (c:mX (σ.bind fun _ s=>cF s) (fun x=>x=⟨#[]⟩) name) (a:mX ((σ.bind fun _ s=>cF s).st.bind fun _ s=>dI s) (fun x=>x=0) prio) (b:mX (((σ.bind fun _ s=>cF s).st.bind fun _ s=>dI s).st.bind fun _ s=>dI s) (fun x=>x=0) need) (o:mX ((((σ.bind fun _ s=>cF s).st.bind fun _ s=>dI s).st.bind fun _ s=>dI s).st.bind fun _ s=>dI s) (fun x=>x=0) tries) (p:mX (((((σ.bind fun _ s=>cF s).st.bind fun _ s=>dI s).st.bind fun _ s=>dI s).st.bind fun _ s=>dI s).st.bind fun _ s=>cF s) (fun x=>x=⟨#[]⟩) tag),mX (σ.bind fun _ s=>pD v s) (fun _=>True) (⟨name,lB prio,need,tries,tag⟩:aC)/\(σ.bind fun _ s=>pD v s).st=(((((σ.bind fun _ s=>cF s).st.bind fun _ s=>dI s).st.bind fun _ s=>dI s).st.bind fun _ s=>dI s).st.bind fun _ s=>cF s).st) /\
 (∀ {σ:RR Unit} {v:Int} (d:1<v) {name:ByteArray} {room:Nat} {zone:ByteArray} (c:mX (σ.bind fun _ s=>cF s) (fun x=>x=⟨#[]⟩) name) (a:mX ((σ.bind fun _ s=>cF s).st.bind fun _ s=>dI s) (fun x=>x=0) room) (b:mX (((σ.bind fun _ s=>cF s).st.bind fun _ s=>dI s).st.bind fun _ s=>cF s) (fun x=>x=⟨#[]⟩) zone),mX (σ.bind fun _ s=>lH v s) (fun _=>True) (⟨name,room,zone⟩:av)/\(σ.bind fun _ s=>lH v s).st=(((σ.bind fun _ s=>cF s).st.bind fun _ s=>dI s).st.bind fun _ s=>cF s).st) /\
 (∀ {σ:RR Unit} {job:ByteArray} {node:ByteArray} {till:Nat} (c:mX (σ.bind fun _ s=>cF s) (fun x=>x=⟨#[]⟩) job) (a:mX ((σ.bind fun _ s=>cF s).st.bind fun _ s=>cF s) (fun x=>x=⟨#[]⟩) node) (b:mX (((σ.bind fun _ s=>cF s).st.bind fun _ s=>cF s).st.bind fun _ s=>dI s) (fun x=>x=0) till),mX (σ.bind fun _ s=>iC s) (fun _=>True) (⟨job,node,till⟩:ak)/\(σ.bind fun _ s=>iC s).st=(((σ.bind fun _ s=>cF s).st.bind fun _ s=>cF s).st.bind fun _ s=>dI s).st):=by
 refine⟨@fun σ v d q name prio need tries tag c a b o p=>(fun(e:Unit)=>?_) (),@fun σ v d name room zone c a b=>(fun(f:Unit)=>?_) (),@fun σ job node till c a b=>(fun(r:Unit)=>?_) ()⟩<;>(
 cases σ with
 | bad x=>exact⟨trivial,rfl⟩
 | ok G s=>
  first|(guard_hyp e;unfold pD)|(guard_hyp f;unfold lH)|unfold iC
  first
   |(
    guard_hyp e
    simp only [if_pos d]; simp only [if_pos q])
   |(
    guard_hyp f
    simp only [if_pos d])
   |skip
  simp only [RR.bind_ok] at *;rcases t:cF s with ⟨n,y⟩ | x;rotate_left
  · simp only [t,RR.st,RR.fR,RR.bind_ok] at *; first | exact⟨trivial,rfl⟩ | exact⟨trivial,trivial⟩
  simp only [t,RR.st,RR.bind_ok] at *
  first|(guard_hyp r;have A:job=n:=c)|have A:name=n:=c
  subst A
  first|(guard_hyp r;rcases i:cF y with ⟨g,k⟩ | x)|rcases i:dI y with ⟨g,k⟩ | x
  rotate_left
  · simp only [i,RR.st,RR.fR,RR.bind_ok] at *; first | exact⟨trivial,rfl⟩ | exact⟨trivial,trivial⟩
  simp only [i,RR.st,RR.bind_ok] at *
  first|(guard_hyp e;have l:prio=g:=a)|(guard_hyp f;have l:room=g:=a)|have l:node=g:=a
  subst l
  first|(guard_hyp f;rcases j:cF k with ⟨h,z⟩ | x)|rcases j:dI k with ⟨h,z⟩ | x
  rotate_left
  · simp only [j,RR.st,RR.fR,RR.bind_ok] at *; first | exact⟨trivial,rfl⟩ | exact⟨trivial,trivial⟩
  simp only [j,RR.st,RR.bind_ok] at *
  first|(guard_hyp e;have m:need=h:=b)|(guard_hyp f;have m:zone=h:=b)|have m:till=h:=b
  subst m
  first
   |(
    guard_hyp e
    rcases u:dI z with ⟨B,D⟩ | x;rotate_left
    · simp only [u,RR.st,RR.fR,RR.bind_ok] at *; first | exact⟨trivial,rfl⟩ | exact⟨trivial,trivial⟩
    simp only [u,RR.st,RR.bind_ok] at *;have E:tries=B:=o;subst E;rcases w:cF D with ⟨C,r4⟩ | x;rotate_left
    · simp only [w,RR.st,RR.fR,RR.bind_ok] at *; first | exact⟨trivial,rfl⟩ | exact⟨trivial,trivial⟩
    simp only [w,RR.st,RR.bind_ok] at *;have F:tag=C:=p;subst F)
   |skip
  first | exact⟨rfl,rfl⟩ | exact⟨rfl,trivial⟩)
theorem MI (g:Nat) (σ:RR Unit) (v:Int) (w:World) (u:1<v) (x:2<v) (s:ko w g σ) :
 ψ 266 #[π g 0,v] w (oE g (σ.bind fun _ ad=>pD v ad) (fun ae:aC=>.agg (aS ae).toArray) (fun _=>True) w):=by
 have d1:decide (1<v)=true:=t8 u;have d2:decide (2<v)=true:=t8 x;have E:=ω (fun c e d i h=>rS.1 (σ:=σ) (v:=v) u x (name:=c) (prio:=e) (need:=d) (tries:=i) (tag:=h));have o:=ω (RGo.start s 85 #[.string ⟨#[]⟩,(0:Int),(0:Int),(0:Int),.string ⟨#[]⟩]);have ac:=s.at_.lt;clear s u x;go_enter Tryz.func266,Tryz.ntmps266
 go_wp2_with fail
 refine Calls.mono (uX g _ _ o.ok) ?_;rintro n w1 ⟨c,rfl,U,ok0,O⟩;have H:=ω U;have p:=ω (o.next ok0 O);clear U ok0 O o
 go_wp2_with fail
 refine Calls.mono (L4 g _ _ p.ok) ?_;rintro n w2 ⟨e,rfl,V,ok1,R⟩;have I:=ω V;have q:=ω (p.next ok1 R);clear V ok1 R p
 go_wp2_with fail
 refine Calls.mono (qD g _ _ q.ok) ?_;rintro n l ⟨d,rfl,W,T,S⟩;have K:=ω W;have j:=ω (q.next T S);clear W T S q;have m:=ω (show RGo w (χ l #[c,(lB ((e:Nat):Int)),((d:Nat):Int),(0:Int),.string ⟨#[]⟩] 85) g _ l 85 _ from ⟨j.ok.alloc _,(j.alloc _).keep,n5 l _,u7 ac j.keep.size,j.keep.size⟩);have F:=ω (j.alloc (.cells #[c,(lB ((e:Nat):Int)),((d:Nat):Int),(0:Int),.string ⟨#[]⟩] 85));have y:w.heap.size≠l.heap.size:=Nat.ne_of_lt j.blk.lt;clear j;generalize N:l.heap.size=J at m y;have HJ:=ω N;clear N
 go_wp2_with fail
 rw [HJ.z];refine Calls.mono (qD g _ _ m.ok) ?_;rintro n Z ⟨i,rfl,X,C,z⟩;have L:=ω X;have a:=m.next C z;have b:=F.next C z;have z3:κ Z J 3:=a.blk.thaw 3;have x3:ζ Z J 3 (.int .i64 0):=a.blk.cell 3;have r:=ω (a.set 3 (.int .i64 ((i:Nat):Int)));have G:=ω (b.other a y 3 (.int .i64 ((i:Nat):Int)));clear a b X C z m F
 go_wp2_with fail
 refine Calls.mono (uX g _ _ r.ok) ?_;rintro n k ⟨h,rfl,Y,D,B⟩;have M:=ω Y;have a:=r.next D B;have b:=G.next D B;have z4:κ k J 4:=a.blk.thaw 4;have x4:ζ k J 4 (.string ⟨#[]⟩):=a.blk.cell 4;have J5:=ω (a.set 4 (.string h));have K5:=ω (b.other a y 4 (.string h));obtain⟨y0,y1,y2,y3⟩:=Blk.c4 (a.blk);have u0:κ k w 0:=b.blk.thaw 0;have u1:κ k w 1:=b.blk.thaw 1;have u2:κ k w 2:=b.blk.thaw 2;have u3:κ k w 3:=b.blk.thaw 3;have u4:κ k w 4:=b.blk.thaw 4;obtain⟨s0,s1,s2,s3,s4⟩:=Blk.c5 (b.blk);clear a b Y D B r G;have Q:=(((((K5.set 0 (.string c)).set 1 (.int .i64 (lB ((e:Nat):Int)))).set 2 (.int .i64 ((d:Nat):Int))).set 3 (.int .i64 ((i:Nat):Int))).set 4 (.string h));have q0:=(show _=(some (.string c):Option Value) from Q.blk.cell 0);have q1:=(show _=(some (.int .i64 (lB ((e:Nat):Int))):Option Value) from Q.blk.cell 1);have q2:=(show _=(some (.int .i64 ((d:Nat):Int)):Option Value) from Q.blk.cell 2);have q3:=(show _=(some (.int .i64 ((i:Nat):Int)):Option Value) from Q.blk.cell 3);have q4:=(show _=(some (.string h):Option Value) from Q.blk.cell 4);have ab:=ω Q.ok;have aa:=ω Q.keep;clear Q;go_wp2;refine bodyPost_ret (v:=.agg #[.string c,.int .i64 (lB ((e:Nat):Int)),.int .i64 ((d:Nat):Int),.int .i64 ((i:Nat):Int),.string h]) (by simp [results,Tryz.results266,go_sem, *]) rfl ?_;exact⟨⟨c,lB e,d,i,h⟩,rfl,(E.z c e d i h H.z I.z K.z L.z M.z).1,by rw [(E.z c e d i h H.z I.z K.z L.z M.z).2]; exact ab.z,aa⟩
theorem Km (g:Nat) (σ:RR Unit) (v:Int) (w:World) (o:1<v) (n:ko w g σ) :
 ψ 275 #[π g 0,v] w (oE g (σ.bind fun _ O=>lH v O) (fun R:av=>.agg (aH R).toArray) (fun _=>True) w):=by
 have T:decide (1<v)=true:=t8 o;have r:=ω (fun a b c=>rS.2.1 (σ:=σ) (v:=v) o (name:=a) (room:=b) (zone:=c));have l:=ω (RGo.start n 70 #[.string ⟨#[]⟩,(0:Int),.string ⟨#[]⟩]);have N:=n.at_.lt;clear n o;go_enter Tryz.func275,Tryz.ntmps275
 go_wp2_with fail
 refine Calls.mono (uX g _ _ l.ok) ?_;rintro z w1 ⟨a,rfl,F,ok0,D⟩;have u:=ω F;have m:=ω (l.next ok0 D);clear F ok0 D l
 go_wp2_with fail
 refine Calls.mono (qD g _ _ m.ok) ?_;rintro z j ⟨b,rfl,G,ok1,E⟩;have x:=ω G;have h:=ω (m.next ok1 E);clear G ok1 E m;have k:=ω (show RGo w (χ j #[a,((b:Nat):Int),.string ⟨#[]⟩] 70) g _ j 70 _ from ⟨h.ok.alloc _,(h.alloc _).keep,n5 j _,u7 N h.keep.size,h.keep.size⟩);have s:=ω (h.alloc (.cells #[a,((b:Nat):Int),.string ⟨#[]⟩] 70));have C:w.heap.size≠j.heap.size:=Nat.ne_of_lt h.blk.lt;clear h;generalize B:j.heap.size=J at k C;have I:=ω B;clear B
 go_wp2_with fail
 rw [I.z];refine Calls.mono (uX g _ _ k.ok) ?_;rintro z e ⟨c,rfl,H,q,p⟩;have y:=ω H;have i:=k.next q p;have d:=s.next q p;have z2:κ e J 2:=i.blk.thaw 2;have x2:ζ e J 2 (.string ⟨#[]⟩):=i.blk.cell 2;have S:=ω (i.set 2 (.string c));have M:=ω (d.other i C 2 (.string c));obtain⟨y0,y1⟩:=Blk.c2 (i.blk);have u0:κ e w 0:=d.blk.thaw 0;have u1:κ e w 1:=d.blk.thaw 1;have u2:κ e w 2:=d.blk.thaw 2;have X:ζ e w 0 (.string ⟨#[]⟩):=d.blk.cell 0;have Y:ζ e w 1 (.int .i64 0):=d.blk.cell 1;have Z:ζ e w 2 (.string ⟨#[]⟩):=d.blk.cell 2;clear i d H q p k s;have Q:=(((M.set 0 (.string a)).set 1 (.int .i64 ((b:Nat):Int))).set 2 (.string c));have U:=(show _=(some (.string a):Option Value) from Q.blk.cell 0);have V:=(show _=(some (.int .i64 ((b:Nat):Int)):Option Value) from Q.blk.cell 1);have W:=(show _=(some (.string c):Option Value) from Q.blk.cell 2);have L:=ω Q.ok;have K:=ω Q.keep;clear Q;go_wp2;refine bodyPost_ret (v:=.agg #[.string a,.int .i64 ((b:Nat):Int),.string c]) (by simp [results,Tryz.results275,go_sem, *]) rfl ?_;exact⟨⟨a,b,c⟩,rfl,(r.z a b c u.z x.z y.z).1,by rw [(r.z a b c u.z x.z y.z).2]; exact L.z,K⟩
theorem MK (g:Nat) (σ:RR Unit) (w:World) (i:ko w g σ) :
 ψ 280 #[π g 0] w (oE g (σ.bind fun _ B=>iC B) (fun C:ak=>.agg (aB C).toArray) (fun _=>True) w):=by
 have j:=ω (fun job node b=>rS.2.2 (σ:=σ) (job:=job) (node:=node) (till:=b));have d:=ω (RGo.start i 66 #[.string ⟨#[]⟩,.string ⟨#[]⟩,(0:Int)]);have E:=i.at_.lt;clear i;go_enter Tryz.func280,Tryz.ntmps280
 go_wp2_with fail
 refine Calls.mono (uX g _ _ d.ok) ?_;rintro n L ⟨job,rfl,s,ok0,o⟩;have k:=ω s;have e:=ω (d.next ok0 o);clear s ok0 o d
 go_wp2_with fail
 refine Calls.mono (uX g _ _ e.ok) ?_;rintro n M ⟨node,rfl,u,ok1,p⟩;have l:=ω u;have h:=ω (e.next ok1 p);clear u ok1 p e
 go_wp2_with fail
 refine Calls.mono (qD g _ _ h.ok) ?_;rintro n c ⟨b,rfl,x,r,q⟩;have m:=ω x;have a:=ω (h.next r q);clear x r q h;have u0:κ c w 0:=a.blk.thaw 0;have u1:κ c w 1:=a.blk.thaw 1;have u2:κ c w 2:=a.blk.thaw 2;have I:ζ c w 0 (.string ⟨#[]⟩):=a.blk.cell 0;have J:ζ c w 1 (.string ⟨#[]⟩):=a.blk.cell 1;have K:ζ c w 2 (.int .i64 0):=a.blk.cell 2;have D:w.heap.size<c.heap.size:=a.blk.lt;have Q:=(((a.set 0 (.string job)).set 1 (.string node)).set 2 (.int .i64 ((b:Nat):Int)));have F:=(show _=(some (.string job):Option Value) from Q.blk.cell 0);have G:=(show _=(some (.string node):Option Value) from Q.blk.cell 1);have H:=(show _=(some (.int .i64 ((b:Nat):Int)):Option Value) from Q.blk.cell 2);have z:=ω Q.ok;have y:=ω Q.keep;clear Q;go_wp2;refine bodyPost_ret (v:=.agg #[.string job,.string node,.int .i64 ((b:Nat):Int)]) (by simp [results,Tryz.results280,go_sem, *]) rfl ?_;exact⟨⟨job,node,b⟩,rfl,(j.z job node b k.z l.z m.z).1,by rw [(j.z job node b k.z l.z m.z).2]; exact z.z,y⟩
end Go.Proofs.YtimglglgcgpjgaaGreatDoor
