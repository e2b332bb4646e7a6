/- Of the proof of a statement: CopyK, FrmDec, FrmDecR1. -/
import Derived.Laws.CopyRow
import Derived.Laws.IdiomCopy
import Derived.Lib.AppendZerosOnto
import Derived.Lib.SliceRun
import Derived.Deep.RegionLaw
import Derived.Deep.DeepCutAuto
import Derived.Lib.QuietBelow
import Derived.Test.YtimglglgcgpjgabGreatDoorPFrmEnc
set_option linter.unusedVariables false
set_option linter.unusedSimpArgs false
set_option maxRecDepth 100000
set_option maxHeartbeats 8000000
namespace Go.Proofs.YtimglglgcgpjgabGreatDoor
open Go.RowKit
open Go.Sort (grow)
section
variable {P:Program}
theorem dH (w:World) (h A ty d:TypeId) (sz:Nat) (g o c k:Nat) (a:Addr) (f z:Nat) (b:Array Value) (t:TypeId) (cs:List Value)
 (x:P.underlying h=some (.slice d)) (i:(P.info? d).map (·.size)=some sz)
 (n:w.heap[g]? = some (.cells b t (0,0))) (r:cs.length=Nat.min f c*sz)
 (s:∀ j v,cs[j]? = some v->w.cell? (a.add j)=some v) (m:o+cs.length<=b.size) (l:∀ v ∈ cs,v.oneCell'=true) :
 (Builtin.copy_ #[h,A] ty #[.slice (some ⟨g,o,none⟩) c k,.slice (some a) f z]).run P w =
  .ok (.int .i64 (Nat.min f c:Nat)) (w.setRow g (b.toList.take o ++ cs ++ b.toList.drop (o+cs.length)).toArray):=by
 have q:=run_loadCells_list (P:=P) w a cs s;have u:=run_storeCells_at P g o t cs 0 b w n (by simpa using m) l
 cases e:P.info? d with
 | none=>simp [e] at i
 | some y=>
  have p:y.size=sz:=by simpa [e] using i
  simp [Builtin.copy_,run_underlying x,Builtin.lenOf,Builtin.firstCells,sizeOf,typeInfo,e,p,<- r,q,u];rfl
theorem zq (w:World) (t ty e:TypeId) (sz:Nat) (A:P.underlying t=some (.slice e)) (h:(P.info? e).map (·.size)=some sz) (g n d:Nat) (a:Addr) (m c:Nat) (b:Array Value) (k:TypeId) (cs:List Value)
 (r:w.heap[g]? = some (.cells b k (0,0))) (u:cs.length=m*sz) (y:∀ j v,cs[j]? = some v->w.cell? (a.add j)=some v) (x:n+m<=d) (q:n*sz+cs.length<=b.size) (o:∀ v ∈ cs,v.oneCell'=true) :
 (Builtin.append_ #[t,t] ty #[.slice (some ⟨g,0,none⟩) n d,.slice (some a) m c]).run P w = .ok (.slice (some ⟨g,0,none⟩) (n+m) d) (w.setRow g (b.toList.take (n*sz) ++ cs ++ b.toList.drop (n*sz+cs.length)).toArray):=by
 have z:=run_storeCells_at P g (n*sz) k cs 0 b w r (by simpa using q) o
 cases f:P.info? e with
 | none=>simp [f] at h
 | some i=>
  have s:i.size=sz:=by simpa [f] using h
  subst s;have p:=run_firstCells_some (P:=P) w i.size m a m c cs u y;have l:(⟨g,0,none⟩:Addr).add (n*i.size)=⟨g,n*i.size,none⟩:=by unfold Addr.add; split <;> simp_all
  simp [Builtin.append_,run_underlying A,sizeOf,typeInfo,f,Builtin.lenOf,x,p,l,z]
theorem mC (z:Array Value) (n:Nat):(Builtin.zeroCells z n).toList.length=n*z.size:=by simp [Builtin.zeroCells]
theorem iy (z:Array Value) (n:Nat) (h:∀ u ∈ z.toList,u.oneCell'=true):∀ u ∈ (Builtin.zeroCells z n).toList,u.oneCell'=true:=by
 intro u b;unfold Builtin.zeroCells at b;rw [Array.toList_map] at b;obtain⟨i,c,rfl⟩:=List.mem_map.1 b;have d:i<n*z.size:=by simpa using c
 have e:0<z.size:=by
  rcases Nat.eq_zero_or_pos z.size with a | a
  · rw [a,Nat.mul_zero] at d; omega
  · exact a
 rw [getElem!_pos z (i % z.size) (Nat.mod_lt _ e)];exact h _ (Array.getElem_mem_toList _)
theorem gC (w:World) (t e ty:TypeId) (z:Value) (g o n c:Nat) (j:P.underlying t=some (.slice e)) (k:∀ w,(zeroValue e).run P w = .ok z w) (f:∀ u ∈ (Builtin.zeroCells z.cells n).toList,u.oneCell'=true) (l:0<n) (a:Array Value) (d:TypeId)
 (i:w.heap[g]? = some (.cells a d (0,0))) (h:o+n*z.cells.size<=a.size) :
 (Builtin.clear_ #[t] ty #[.slice (some ⟨g,o,none⟩) n c]).run P w = .ok (.tuple #[]) (w.setRow g (a.toList.take o ++ (Builtin.zeroCells z.cells n).toList ++ a.toList.drop (o+(Builtin.zeroCells z.cells n).toList.length)).toArray):=by
 have b:=run_storeCells_at P g o d (Builtin.zeroCells z.cells n).toList 0 a w i (by rw [mC]; simpa using h) f;obtain⟨m,rfl⟩:∃ m,n=m+1:=⟨n - 1,by omega⟩;simp only [Nat.add_zero] at b;simp [Builtin.clear_,run_underlying j,k,b]
end
structure eX (w:World) (base:Nat) (e:TypeId) (sz g cap:Nat) (cur:Array Value):Prop where
 ge:base<=g
 blk:w.heap[g]? = some (.cells cur e (0,0))
 cap_:cap<=maxLen
 size:cur.size=cap*sz
theorem eX.of {w:World} {base n g c sz:Nat} {e:TypeId} {xs:List Value} (h:w.ownsRow base e sz (.slice (some ⟨g,0,none⟩) n c) n xs):∃ b,eX w base e sz g c b/\n<=c/\b.toList.take (n*sz)=xs:=by
 rcases h.2 with ⟨d,_⟩ | ⟨r,q,b,o,d,i,j,k,l,m⟩
 · cases d
 · injection o with a p f;injection a with a;injection a with a;subst a; subst f;exact⟨b,⟨d,i,k,l⟩,j,m⟩
theorem eX.own {w:World} {base g a sz:Nat} {e:TypeId} {b:Array Value} (h:eX w base e sz g a b) {n:Nat} (c:n<=a) {xs:List Value} (d:b.toList.take (n*sz)=xs):w.ownsRow base e sz (.slice (some ⟨g,0,none⟩) n a) n xs:=by
 subst d;refine⟨?_,.inr ⟨g,a,b,rfl,h.ge,h.blk,c,h.cap_,h.size,rfl⟩⟩;rw [List.length_take,Array.length_toList,h.size];have:=Nat.mul_le_mul_right sz c;omega
theorem eX.set {w:World} {base g b sz:Nat} {e:TypeId} {c:Array Value} (h:eX w base e sz g b c) (a:Array Value) (d:a.size=b*sz):eX (w.setRow g a) base e sz g b a:=
 ⟨h.ge,setRow_heap w g c a e _ h.blk,h.cap_,d⟩
theorem vS (w:World) (g:Nat) (a:Array Value):w.grownBy (w.setRow g a) (some g):=⟨rfl,rfl,rfl,by simp [World.setRow],fun k _ b=>setRow_other w g k a (fun e=>b (by simp [e]))⟩
theorem pT (w:World) (g n d c b:Nat) (a:Array Value):cZ w (w.setRow g a) (.slice (some ⟨g,0,none⟩) n c) (.slice (some ⟨g,0,none⟩) d b):=
 ⟨vS w g a,.inl rfl⟩
theorem mD (w:World) (g n f c b:Nat) (a:Array Value):cZ w (w.drew.setRow g a) (.slice (some ⟨g,0,none⟩) n c) (.slice (some ⟨g,0,none⟩) f b):=
 ⟨⟨rfl,rfl,rfl,by simp [World.setRow],fun k _ d=>setRow_other w.drew g k a (fun e=>d (by simp [Value.ownBlock,e]))⟩,.inl rfl⟩
theorem eX.cells {w:World} {base g c sz:Nat} {e:TypeId} {a:Array Value} (h:eX w base e sz g c a) (o:Nat):∀ j v,(a.toList.drop o)[j]? = some v->w.cell? ((⟨g,o,none⟩:Addr).add j)=some v:=fun j v b=>by
 have d:(⟨g,o,none⟩:Addr).add j=⟨g,o+j,none⟩:=by unfold Addr.add; split <;> simp_all
 rw [d,cell_of_row w g (o+j) a e (0,0) h.blk];rw [List.getElem?_drop,Array.getElem?_toList] at b;exact b
theorem vT {P:Program} (w:World) {o:Oper} {a:Act} {K:Act->World->Prop} {Q:Exit->Act->World->Prop} (d s:Operand) (t b:TypeId)
 (e:o.op = .call { callee:=.builtin .copy,args:=#[d,s],argTypes:=#[t,b] }) (v u:Value) (c:a.eval d=v) (g:a.eval s=u) {v':Value} {w':World}
 (f:(Builtin.copy_ #[t,b] o.type #[v,u]).run P w = .ok v' w') (h:K (a.put o.dst v') w'):o.wp P a w K Q:=by
 unfold Oper.wp execOp;simp only [e,resolve,invoke,builtin,Sem.run_bind,Sem.run_pure,Result.andThen_ok,List.map_toArray,List.map_cons,List.map_nil,c,g,f];exact h
theorem gu {P:Program} (w:World) {c:Array Oper} {e:List Oper} {o:Oper} {a:Act} {Q:Exit->Act->World->Prop} (i:o.guard=none) (d s:Operand) (t b:TypeId)
 (j:o.op = .call { callee:=.builtin .copy,args:=#[d,s],argTypes:=#[t,b] }) (v u:Value) (g:a.eval d=v) (l:a.eval s=u) {v':Value} {w':World}
 (k:(Builtin.copy_ #[t,b] o.type #[v,u]).run P w = .ok v' w') (h:wpList P c Q e (a.put o.dst v') w'):wpList P c Q (o :: e) a w:=
 wpList_plain i fun _ f=>vT w d s t b j v u g l k (f _ _ h)
theorem iR {P:Program} {e:Array Oper} {o:Oper} {a:Act} {w:World} {K:Act->World->Prop} {Q:Exit->Act->World->Prop} {E:Prop}
 (h:o.guard=none) (d x:Operand) (b c:TypeId) (i:o.op=Op.call { callee:=Callee.builtin Builtin.copy,args:=#[d,x],argTypes:=#[b,c] })
 (v u:Value) (g:a.eval d=v) (l:a.eval x=u) {v':Value} {w':World} (j:(Builtin.copy_ #[b,c] o.type #[v,u]).run P w = .ok v' w') (f:K (a.put o.dst v') w') :
 if Region.wanted o (yielded e a.tmps)=true then Oper.wp P o a w K Q else E:=by
 have k:Region.wanted o (yielded e a.tmps)=true:=by simp [Region.wanted,h]
 rw [if_pos k];exact vT w d x b c i v u g l j f
theorem mX {P:Program} {c:Array Oper} {o:Oper} {a:Act} {w:World} {K:Act->World->Prop} {Q:Exit->Act->World->Prop} {E:Prop}
 (h:o.guard=none) (d x:Operand) (b e:TypeId) (i:o.op=Op.call { callee:=Callee.builtin Builtin.append,args:=#[d,x],argTypes:=#[b,e] })
 (v u:Value) (g:a.eval d=v) (l:a.eval x=u) {v':Value} {w':World} (j:(Builtin.append_ #[b,e] o.type #[v,u]).run P w = .ok v' w') (f:K (a.put o.dst v') w') :
 if Region.wanted o (yielded c a.tmps)=true then Oper.wp P o a w K Q else E:=by
 have k:Region.wanted o (yielded c a.tmps)=true:=by simp [Region.wanted,h]
 rw [if_pos k];unfold Oper.wp execOp;simp only [i,resolve,invoke,builtin,Sem.run_bind,Sem.run_pure,Result.andThen_ok,List.map_toArray,List.map_cons,List.map_nil,g,l,j];exact f
theorem cU {P:Program} (w:World) {b:Array Oper} {c:List Oper} {o:Oper} {a:Act} {Q:Exit->Act->World->Prop} (e:o.guard=none) (s:Operand) (t:TypeId)
 (f:o.op = .call { callee:=.builtin .clear,args:=#[s],argTypes:=#[t] }) (v:Value) (i:a.eval s=v) {v':Value} {w':World}
 (g:(Builtin.clear_ #[t] o.type #[v]).run P w = .ok v' w') (h:wpList P b Q c (a.put o.dst v') w'):wpList P b Q (o :: c) a w:=by
 refine wpList_plain e fun _ d=>?_;unfold Oper.wp execOp;simp only [f,resolve,invoke,builtin,Sem.run_bind,Sem.run_pure,Result.andThen_ok,List.map_toArray,List.map_cons,List.map_nil,i,g];exact d _ _ h
theorem eA {α:Type} {enc:α->List Value} {sz:Nat} (h:∀ a,(enc a).length=sz):∀ (l:List α) (k:Nat),(au enc l).take (k*sz)=au enc (l.take k)
 | [],k=>by simp [au]
 | a :: l,0=>by simp [au]
 | a :: l,k+1=>by
  show (enc a ++ au enc l).take ((k+1)*sz)=enc a ++ au enc (l.take k)
  rw [List.take_append,h,show (k+1)*sz - sz=k*sz by rw [Nat.add_mul]; omega,eA h l k,List.take_of_length_le (by rw [h,Nat.add_mul]; omega)]
theorem fA {α:Type} {enc:α->List Value} {sz:Nat} (h:∀ a,(enc a).length=sz):∀ (l:List α) (k:Nat),(au enc l).drop (k*sz)=au enc (l.drop k)
 | [],k=>by simp [au]
 | a :: l,0=>by simp [au]
 | a :: l,k+1=>by
  show (enc a ++ au enc l).drop ((k+1)*sz)=au enc (l.drop k)
  rw [List.drop_append,h,show (k+1)*sz - sz=k*sz by rw [Nat.add_mul]; omega,fA h l k,List.drop_eq_nil_of_le (by rw [h,Nat.add_mul]; omega),List.nil_append]
theorem uN {L X R:List Value} {a b s:Nat} (k:a<=b) (l:b+s<=L.length) (d:X.length=s) (c:L.take b=R) :
 (((L.take (a+s) ++ (L.drop a).take (b - a) ++ L.drop (a+s+(b - a))).take a) ++ X ++ (L.take (a+s) ++ (L.drop a).take (b - a) ++ L.drop (a+s+(b - a))).drop (a+s)).take (b+s)=R.take a ++ X ++ R.drop a:=by
 have j:(L.take (a+s)).length=a+s:=by rw [List.length_take]; omega
 have e:((L.drop a).take (b - a)).length=b - a:=by rw [List.length_take,List.length_drop]; omega
 have g:(L.take (a+s) ++ (L.drop a).take (b - a) ++ L.drop (a+s+(b - a))).take a=R.take a:=by
  rw [List.append_assoc,List.take_append_of_le_length (by omega),List.take_take,<- c,List.take_take]
  congr 1; omega
 have h:(L.take (a+s) ++ (L.drop a).take (b - a) ++ L.drop (a+s+(b - a))).drop (a+s)=(L.drop a).take (b - a) ++ L.drop (a+s+(b - a)):=by
  rw [List.append_assoc,List.drop_append,j,Nat.sub_self,List.drop_zero,List.drop_eq_nil_of_le (by omega),List.nil_append]
 have i:(L.drop a).take (b - a)=R.drop a:=by rw [<- c,List.drop_take]
 have f:(R.take a).length=a:=by rw [<- c,List.length_take,List.length_take]; omega
 rw [g,h,<- List.append_assoc,List.take_append_of_le_length (by simp only [List.length_append,f,d,e]; omega),List.take_of_length_le (by simp only [List.length_append,f,d,e]; omega),i]
theorem xD {L X D:List Value} {a s:Nat} (e:a+s+D.length<=L.length) (d:X.length=s) :
 ((L.take a ++ X ++ L.drop (a+s)).take (a+s) ++ D ++ (L.take a ++ X ++ L.drop (a+s)).drop (a+s+D.length)).take (a+s+D.length)=L.take a ++ X ++ D:=by
 have b:(L.take a ++ X).length=a+s:=by rw [List.length_append,List.length_take,d]; omega
 have c:(L.take a ++ X ++ L.drop (a+s)).take (a+s)=L.take a ++ X:=by
  rw [List.take_append_of_le_length (by omega),List.take_of_length_le (by omega)]
 rw [c,List.take_append_of_le_length (by rw [List.length_append,b]; exact lQ),List.take_of_length_le (by rw [List.length_append,b]; exact lQ)]
theorem uO {L R:List Value} {a b s:Nat} (f:a+s<=b) (g:b<=L.length) (e:L.take b=R) :
 (L.take a ++ (L.drop (a+s)).take (b - (a+s)) ++ L.drop (a+(b - (a+s)))).take (b - s)=R.take a ++ R.drop (a+s):=by
 have c:(L.take a).length=a:=by rw [List.length_take]; omega
 have d:((L.drop (a+s)).take (b - (a+s))).length=b - (a+s):=by rw [List.length_take,List.length_drop]; omega
 rw [List.take_append_of_le_length (by rw [List.length_append,c,d]; omega),List.take_of_length_le (by rw [List.length_append,c,d]; omega),<- e,List.drop_take,List.take_take,Nat.min_eq_left (by omega)]
def Ow (f:cL):Value:=.agg #[f.ver,f.kind,f.pay]
def MH (s:ByteArray):Value:=.tuple #[Ow (jF s).1,((jF s).2.1:Int),((jF s).2.2:Int)]
def eK (s:ByteArray) (w:World) (e:Ending) (w':World):Prop:=e = .returned (MH s)/\Below w w w'
theorem eK.mk' {s:ByteArray} {w w':World} {f:cL} {n e:Nat} (h:jF s=(f,n,e)) (a:Below w w w'):eK s w (.returned (.tuple #[.agg #[f.ver,f.kind,f.pay],(n:Int),(e:Int)])) w':=⟨by unfold MH; rw [h]; rfl,a⟩
theorem mE (n:Int) (w:World):ψ 67 #[n] w fun e a=>e = .returned (.tuple #[.agg #[(0:Int),(0:Int),.string ⟨#[]⟩],(0:Int),n])/\w.alloc (.cells #[(0:Int),(0:Int),.string ⟨#[]⟩] 69)=a:=by
 go_enter Tryz.func67,Tryz.ntmps67;go_wp2;refine bodyPost_ret (v:=.tuple #[.agg #[.int .i64 0,.int .i64 0,.string ⟨#[]⟩],.int .i64 0,.int .i64 n]) (by simp [results,Tryz.results67,go_sem]) rfl ⟨rfl,rfl⟩
theorem fK {s:ByteArray} {k:Nat} (h:k<s.size) (W:World):(Instr.index 9 (.string s) (.int .i64 (k:Int))).run Tryz.prog W = .ok (.int .u8 ((aD s k:Nat):Int)) W:=jo h (IN h).symm W
theorem MI (W:World):(Instr.index 9 (.string ⟨#[66,75]⟩) (.int .i64 0)).run Tryz.prog W = .ok (.int .u8 66) W:=jo (s:=⟨#[66,75]⟩) (k:=0) (c:=66) (by decide) rfl W
theorem MJ (W:World):(Instr.index 9 (.string ⟨#[66,75]⟩) (.int .i64 1)).run Tryz.prog W = .ok (.int .u8 75) W:=jo (s:=⟨#[66,75]⟩) (k:=1) (c:=75) (by decide) rfl W
def HInv (s:ByteArray) (m:Nat) (i:Value):Prop:=∃ k:Nat,k<=m/\k<=4/\k<=s.size/\i = .int .i64 k/\iS s k
theorem MK (s:ByteArray) (w:World) (hs:s.size<=9223372036854775807) :
 ψ 35 #[s] w (eK s w):=by
 have B:=ω (fun (ag:Nat) (h:mY s=ag) (hc:ag≠0) (a:World)=>eK.mk' (w:=w) (w':=a) (BV h hc));obtain⟨m,q⟩:∃ m:Nat,m=min s.size 4:=⟨_,rfl⟩;have X:m<=s.size:=by omega
 have au:m<=4:=by omega
 have L:=ω (show s.size<=4->m=s.size from by omega);have af:=ω (show 4<s.size->m=4 from by omega);clear q;go_enter Tryz.func35,Tryz.ntmps35
 go_upto_region 2 with fail
 go_cut [15,16] (fun x aq wx=>x = .int .i64 (m:Int)/\aq = .int .i64 0/\wx=w.alloc (.cells #[(0:Int),(0:Int),.string ⟨#[]⟩] 69))
 case first=>
  by_cases S:s.size<=4
  · have e:=ω (L.z S);go_wp2
    go_meet
    exact⟨by have:=e.z; first | (rw [this]; done) | (rw [this]; congr 1; omega),rfl,rfl⟩
  · have e:=ω (af.z (by omega));go_wp2
    go_meet
    exact⟨by have:=e.z; first | (rw [this]; done) | (rw [this]; rfl) | (rw [this]; congr 1; omega),rfl,rfl⟩
 case rest=>
  obtain⟨rfl,rfl,rfl⟩:=hcut
  go_wp2_with fail
  go_loop [3,4,6,7,16,22,36] (fun _ _ _ _ aa _ _=>HInv s m aa) (fun _ _ _ _ aa _ _=>4 - (intOf aa).toNat)
  case atStart=>exact⟨0,by omega,by omega,by omega,rfl,iS.zero s⟩
  case round=>
   obtain⟨k,al,ak,am,rfl,ht⟩:=hrel;have d:=ω ht;clear ht;by_cases hlt:k<m
   · have g:k<s.size:=by omega
     have ar:=qE s k;have o:=fK g;rcases (show k=0\/k=1\/k=2\/k=3 from by omega) with rfl | rfl | rfl | rfl
     · have K:∀ W:World,(Instr.index 9 (.string s) (.int .i64 0)).run Tryz.prog W = .ok (.int .u8 ((aD s 0:Nat):Int)) W:=o;clear o;have Hm:=MI;by_cases c:aD s 0=66
       · have C:((aD s 0:Int) != 66)=false:=by simp; omega
         have r:=ω (show iS s 1 from ⟨fun _=>⟨g,c⟩,fun h=>absurd h (by omega),fun h=>absurd h (by omega),fun h=>absurd h (by omega)⟩);clear c;go_wp2
         go_round
         case rel=>exact⟨1,by omega,by omega,by omega,rfl,r⟩
         case measure=>simp [intOf]
       · have C:((aD s 0:Int) != 66)=true:=by simp; omega
         have b:=ω (B.z 4 (Kl g c) (by omega));clear c
         go_wp2_with (go_at_call 67; refine (mE _ _).mono ?_; rintro e a ⟨rfl,rfl⟩)
         refine bodyPost_ret (v:=.tuple #[.agg #[.int .i64 0,.int .i64 0,.string ⟨#[]⟩],.int .i64 0,.int .i64 4]) (by simp [results,Tryz.results35,go_sem]) rfl ?_;exact b.z _ (((θ).alloc lQ _).alloc (by simp) _)
     · have K:∀ W:World,(Instr.index 9 (.string s) (.int .i64 1)).run Tryz.prog W = .ok (.int .u8 ((aD s 1:Nat):Int)) W:=o;clear o;have Hm:=MJ;by_cases c:aD s 1=75
       · have C:((aD s 1:Int) != 75)=false:=by simp; omega
         have r:=ω (show iS s 2 from ⟨fun _=>d.h0 (by omega),fun _=>⟨g,c⟩,fun h=>absurd h (by omega),fun h=>absurd h (by omega)⟩);clear c;go_wp2
         go_round
         case rel=>exact⟨2,by omega,by omega,by omega,rfl,r⟩
         case measure=>simp [intOf]
       · have C:((aD s 1:Int) != 75)=true:=by simp; omega
         have b:=ω (B.z 4 (Km d.z g c) (by omega));clear c
         go_wp2_with (go_at_call 67; refine (mE _ _).mono ?_; rintro e a ⟨rfl,rfl⟩)
         refine bodyPost_ret (v:=.tuple #[.agg #[.int .i64 0,.int .i64 0,.string ⟨#[]⟩],.int .i64 0,.int .i64 4]) (by simp [results,Tryz.results35,go_sem]) rfl ?_;exact b.z _ (((θ).alloc lQ _).alloc (by simp) _)
     · have K:∀ W:World,(Instr.index 9 (.string s) (.int .i64 2)).run Tryz.prog W = .ok (.int .u8 ((aD s 2:Nat):Int)) W:=o;clear o;by_cases c:1<=aD s 2/\aD s 2<=3
       · have r:=ω (show iS s 3 from ⟨fun _=>d.h0 (by omega),fun _=>d.h1 (by omega),fun _=>⟨g,c.1,c.2⟩,fun h=>absurd h (by omega)⟩);have u:=ω (show (1:Int)<=(aD s 2:Int) from by omega);have M:=ω (show (aD s 2:Int)<=3 from by omega);clear c
         go_wp2_with (go_at_call 68; refine (nK _ u.z M.z _).mono ?_; rintro e a ⟨rfl,rfl⟩)
         go_round
         case rel=>exact⟨3,by omega,by omega,by omega,rfl,r⟩
         case measure=>simp [intOf]
       · have b:=ω (B.z 1 (Kn d.z g (by omega)) (by omega));have u:=ω (show (aD s 2:Int)<1\/3<(aD s 2:Int) from by omega);clear c
         go_wp2_with (first | (go_at_call 68; refine (vU _ u.z _).mono ?_; rintro e a ⟨rfl,rfl⟩) | (go_at_call 67; refine (mE _ _).mono ?_; rintro e a ⟨rfl,rfl⟩))
         refine bodyPost_ret (v:=.tuple #[.agg #[.int .i64 0,.int .i64 0,.string ⟨#[]⟩],.int .i64 0,.int .i64 1]) (by simp [results,Tryz.results35,go_sem]) rfl ?_;exact b.z _ (((θ).alloc lQ _).alloc (by simp) _)
     · have K:∀ W:World,(Instr.index 9 (.string s) (.int .i64 3)).run Tryz.prog W = .ok (.int .u8 ((aD s 3:Nat):Int)) W:=o;clear o;by_cases c:1<=aD s 3/\aD s 3<=4
       · have r:=ω (show iS s 4 from ⟨fun _=>d.h0 (by omega),fun _=>d.h1 (by omega),fun _=>d.h2 (by omega),fun _=>⟨g,c.1,c.2⟩⟩);have u:=ω (show (1:Int)<=(aD s 3:Int) from by omega);have M:=ω (show (aD s 3:Int)<=4 from by omega);clear c
         go_wp2_with (go_at_call 69; refine (uP _ u.z M.z _).mono ?_; rintro e a ⟨rfl,rfl⟩)
         go_round
         case rel=>exact⟨4,by omega,by omega,by omega,rfl,r⟩
         case measure=>simp [intOf]
       · have b:=ω (B.z 1 (Ko d.z g (by omega)) (by omega));have u:=ω (show (aD s 3:Int)<1\/4<(aD s 3:Int) from by omega);clear c
         go_wp2_with (first | (go_at_call 69; refine (BW _ u.z _).mono ?_; rintro e a ⟨rfl,rfl⟩) | (go_at_call 67; refine (mE _ _).mono ?_; rintro e a ⟨rfl,rfl⟩))
         refine bodyPost_ret (v:=.tuple #[.agg #[.int .i64 0,.int .i64 0,.string ⟨#[]⟩],.int .i64 0,.int .i64 1]) (by simp [results,Tryz.results35,go_sem]) rfl ?_;exact b.z _ (((θ).alloc lQ _).alloc (by simp) _)
   · by_cases S:s.size<4
     · have b:=ω (B.z 3 (pB d.z (by have:=L.z (by omega); omega) S) (by omega))
       go_wp2_with (go_at_call 67; refine (mE _ _).mono ?_; rintro e a ⟨rfl,rfl⟩)
       refine bodyPost_ret (v:=.tuple #[.agg #[.int .i64 0,.int .i64 0,.string ⟨#[]⟩],.int .i64 0,.int .i64 3]) (by simp [results,Tryz.results35,go_sem]) rfl ?_;exact b.z _ (((θ).alloc lQ _).alloc (by simp) _)
     · have hk:k=4:=by
        by_cases h:s.size<=4
        · have:=L.z h; omega
        · have:=af.z (by omega); omega
       subst hk;have z:=ω (zI d.z);have ah:=ω (d.h2 (by omega));have ai:=ω (d.h3 (by omega));have E:=ω (show (s.extract 4 s.size).size<=9223372036854775807 from by rw [ByteArray.size_extract]; omega);obtain⟨n,k,x,Y⟩:∃ n k x,rdNum (s.extract 4 s.size)=(n,k,x):=⟨_,_,_,rfl⟩;have l:=ω Y;obtain⟨D,f2,f3,Q⟩:=gX Y;clear Y hlt al ak am d;by_cases hx:x=0
       · subst hx;have R:=Q rfl;clear Q f3;have f6:k<=s.size - 4:=by have:=R.2; rw [ByteArray.size_extract] at this; omega
         have f7:=R.1;clear R;by_cases H:6000<n
         · have b:=ω (fun (a:World)=>eK.mk' (w:=w) (w':=a) (zX z.z.1 l.z H));clear D
           go_wp2_with (first | (go_at_call 70; refine (tO l.z _ E.z).mono ?_; rintro e a ⟨rfl,rfl⟩) | (go_at_call 67; refine (mE _ _).mono ?_; rintro e a ⟨rfl,rfl⟩))
           refine bodyPost_ret (v:=.tuple #[.agg #[.int .i64 0,.int .i64 0,.string ⟨#[]⟩],.int .i64 0,.int .i64 2]) (by simp [results,Tryz.results35,go_sem]) rfl ?_;exact b.z _ (((θ).alloc lQ _).alloc (by simp) _)
         · by_cases V:s.size<8+k+n
           · have b:=ω (fun (a:World)=>eK.mk' (w:=w) (w':=a) (zY z.z.1 l.z H V));clear D
             go_wp2_with (first | (go_at_call 70; refine (tO l.z _ E.z).mono ?_; rintro e a ⟨rfl,rfl⟩) | (go_at_call 67; refine (mE _ _).mono ?_; rintro e a ⟨rfl,rfl⟩))
             refine bodyPost_ret (v:=.tuple #[.agg #[.int .i64 0,.int .i64 0,.string ⟨#[]⟩],.int .i64 0,.int .i64 3]) (by simp [results,Tryz.results35,go_sem]) rfl ?_;exact b.z _ (((θ).alloc lQ _).alloc (by simp) _)
           · clear D
             go_wp2_with (go_at_call 70; refine (tO l.z _ E.z).mono ?_; rintro e a ⟨rfl,rfl⟩)
             have ap:=run_slice_string_to_if (P:=Tryz.prog) (w:=w) 9 s .i64 (4+(k:Int)+n) Tryz.underlying9
             have q1:∀ W:World,(Instr.slice 9 (.string s) none (some (.int .i64 (4+(k:Int)+n))) none).run Tryz.prog W = .ok (.string (s.extract 0 (4+k+n))) W:=fun W=>by
              rw [run_slice_string_to_if (P:=Tryz.prog) (w:=W) 9 s .i64 (4+(k:Int)+n) Tryz.underlying9,if_pos ⟨by omega,by omega⟩,show (4+(k:Int)+n).toNat=4+k+n from by omega]
             have q2:∀ W:World,(Instr.slice 9 (.string s) (some (.int .i64 (4+(k:Int)+n))) (some (.int .i64 (4+(k:Int)+n+4))) none).run Tryz.prog W = .ok (.string (s.extract (4+k+n) (8+k+n))) W:=fun W=>by
              rw [run_slice_string W 9 s .i64 .i64 (4+(k:Int)+n) (4+(k:Int)+n+4) Tryz.underlying9 (by omega) (by omega) (by omega),show (4+(k:Int)+n).toNat=4+k+n from by omega,show (4+(k:Int)+n+4).toNat=8+k+n from by omega]
             have q3:IntKind.i64.wrap (4+(k:Int)+n+4)=4+(k:Int)+n+4:=by rw [IntKind.wrap_i64]; omega
             have q4:=ω (show (s.extract 0 (4+k+n)).size<=9223372036854775807 from by rw [ByteArray.size_extract]; omega);generalize Z:w.alloc (.cells #[(0:Int),(0:Int),.string ⟨#[]⟩] 69)=J;have U:=ω (show Below w w J from by rw [<- Z]; exact (θ).alloc lQ _);have T:=ω (show Blk J w 69 #[(0:Int),(0:Int),.string ⟨#[]⟩] from by rw [<- Z]; exact n5 _ _);clear Z ap;refine wp_region_quiet_below (by kernel_rfl) (by kernel_rfl) ?_
             repeat (quiet_step ((go_at_call 71; exact Calls.regrown_of (DF _ _ q4.z))))
             refine wpQuiet_nil ?_;intro _ ao;obtain⟨⟨nq,osq⟩,hw''⟩:=ao;subst hw'';have I:=below_regrown J nq osq;dsimp only;generalize grow (redrawn J nq) osq=y at I;have F:=ω (U.trans (I.mono U.size));have i:Blk y w 69 #[(0:Int),(0:Int),.string ⟨#[]⟩]:=T.below I T.lt;have z0:ζ y w 0 (.int .i64 0):=i.cell 0;have z1:ζ y w 1 (.int .i64 0):=i.cell 1;have z2:ζ y w 2 (.string ⟨#[]⟩):=i.cell 2;have t0:=i.thaw 0;have t1:=i.thaw 1;have t2:=i.thaw 2;have hlt:=i.lt;have aj:(s.extract 0 (4+k+n)).data.toList=List.take (4+k+n) s.data.toList:=by rw [Lib.extract_data]; simp
             have X:=ByteArray.toList_eq (s.extract (4+k+n) (8+k+n));have ad:=ω aj;have ae:=ω X;have ac:=ω i;clear i I aj X U T q1 q2;by_cases q:(s.extract (4+k+n) (8+k+n)).data.toList=pC (s.extract 0 (4+k+n)).data.toList
             · have b:=ω (fun (a:World)=>eK.mk' (w:=w) (w':=a) (DG z.z.1 l.z H V q));have N:(pC (List.take (4+k+n) s.data.toList) == (s.extract (4+k+n) (8+k+n)).toList)=true:=by rw [beq_iff_eq,ae.z,q,ad.z]
               have i2:∀ W:World,(Instr.index 9 (.string s) (.int .i64 2)).run Tryz.prog W = .ok (.int .u8 ((aD s 2:Nat):Int)) W:=fK ah.z.1;have i3:∀ W:World,(Instr.index 9 (.string s) (.int .i64 3)).run Tryz.prog W = .ok (.int .u8 ((aD s 3:Nat):Int)) W:=fK ai.z.1
               have q5:∀ W:World,(Instr.slice 9 (.string s) (some (.int .i64 (4+(k:Int)))) (some (.int .i64 (4+(k:Int)+n))) none).run Tryz.prog W = .ok (.string (s.extract (4+k) (4+k+n))) W:=fun W=>by
                rw [run_slice_string W 9 s .i64 .i64 (4+(k:Int)) (4+(k:Int)+n) Tryz.underlying9 (by omega) (by omega) (by omega),show (4+(k:Int)).toNat=4+k from by omega,show (4+(k:Int)+n).toNat=4+k+n from by omega]
               have v2:IntKind.i64.wrap (aD s 2:Int)=aD s 2:=by rw [IntKind.wrap_i64]; have:=ah.z; omega
               have v3:IntKind.i64.wrap (aD s 3:Int)=aD s 3:=by rw [IntKind.wrap_i64]; have:=ai.z; omega
               have O:(!(pC (List.take (4+k+n) s.data.toList) == (s.extract (4+k+n) (8+k+n)).toList))=false:=by rw [N]; rfl
               have j:Blk ((((y.setCell ⟨w,0,none⟩ (.int .i64 (aD s 2))).setCell ⟨w,1,none⟩ (.int .i64 (aD s 3))).setCell ⟨w,2,none⟩ (.string (s.extract (4+k) (4+k+n)))).drew) w 69 #[(aD s 2),(aD s 3),.string (s.extract (4+k) (4+k+n))]:=(((ac.set 0 _).set 1 _).set 2 _).below (θ).drew (by have:=hlt; simp [World.setCell]; omega);have G:=ω (((F.setCell (p:=⟨w,0,none⟩) lQ (.int .i64 (aD s 2))).setCell (p:=⟨w,1,none⟩) lQ (.int .i64 (aD s 3))).setCell (p:=⟨w,2,none⟩) lQ (.string (s.extract (4+k) (4+k+n)))).drew;have y0:=j.cell 0;have y1:=j.cell 1;have y2:=j.cell 2;clear q j;rw [O];go_wp2
               go_region
               go_wp2;refine bodyPost_ret (v:=.tuple #[.agg #[.int .i64 (aD s 2),.int .i64 (aD s 3),.string (s.extract (4+k) (4+k+n))],.int .i64 (4+(k:Int)+n+4),.int .i64 0]) (by simp [results,Tryz.results35,go_sem,y0,y1,y2]) rfl ?_;rw [show (4+(k:Int)+n+4)=((8+k+n:Nat):Int) from by omega];exact b.z _ G.z
             · have b:=ω (fun (a:World)=>eK.mk' (w:=w) (w':=a) (DH z.z.1 l.z H V q))
               have N:(pC (List.take (4+k+n) s.data.toList) == (s.extract (4+k+n) (8+k+n)).toList)=false:=by
                rw [beq_eq_false_iff_ne,ae.z]; intro h; exact q (by rw [<- h,ad.z])
               have O:(!(pC (List.take (4+k+n) s.data.toList) == (s.extract (4+k+n) (8+k+n)).toList))=true:=by rw [N]; rfl
               have G:∀ (ab:Obj),Below w w (y.alloc ab):=fun ab=>F.alloc (F.size) ab;have j:Blk ((((y.setCell ⟨w,0,none⟩ (.int .i64 0)).setCell ⟨w,1,none⟩ (.int .i64 0)).setCell ⟨w,2,none⟩ (.string ⟨#[]⟩)).alloc (.cells #[(0:Int),(0:Int),.string ⟨#[]⟩] 69)) w 69 #[(0:Int),(0:Int),.string ⟨#[]⟩]:=(((ac.set 0 _).set 1 _).set 2 _).alloc _;have G:=ω ((((F.setCell (p:=⟨w,0,none⟩) lQ (.int .i64 0)).setCell (p:=⟨w,1,none⟩) lQ (.int .i64 0)).setCell (p:=⟨w,2,none⟩) lQ (.string ⟨#[]⟩)).alloc (by have:=hlt; simp [World.setCell]; omega) (.cells #[(0:Int),(0:Int),.string ⟨#[]⟩] 69));have y0:=j.cell 0;have y1:=j.cell 1;have y2:=j.cell 2;clear q j;rw [O]
               go_wp2_with (go_at_call 67; refine (mE _ _).mono ?_; rintro e a ⟨rfl,rfl⟩)
               refine bodyPost_ret (v:=.tuple #[.agg #[.int .i64 0,.int .i64 0,.string ⟨#[]⟩],.int .i64 0,.int .i64 5]) (by simp [results,Tryz.results35,go_sem,y0,y1,y2]) rfl ?_;exact b.z _ G.z
       · have b:=ω (fun (a:World)=>eK.mk' (w:=w) (w':=a) (DI z.z.1 l.z hx));have C:((x:Int) != 0)=true:=by simp; omega
         clear hx Q D
         go_wp2_with (first | (go_at_call 70; refine (tO l.z _ E.z).mono ?_; rintro e a ⟨rfl,rfl⟩) | (go_at_call 67; refine (mE _ _).mono ?_; rintro e a ⟨rfl,rfl⟩))
         refine bodyPost_ret (v:=.tuple #[.agg #[.int .i64 0,.int .i64 0,.string ⟨#[]⟩],.int .i64 0,.int .i64 x]) (by simp [results,Tryz.results35,go_sem]) rfl ?_;exact b.z _ (((θ).alloc lQ _).alloc (by simp) _)
theorem gT (n:Int) (w:World):ψ 86 #[n] w fun e a=>e = .returned (.tuple #[.agg #[(0:Int),(0:Int),.string ⟨#[]⟩],(0:Int),n])/\w.alloc (.cells #[(0:Int),(0:Int),.string ⟨#[]⟩] 69)=a:=by
 go_enter Tryz.func86,Tryz.ntmps86;go_wp2;refine bodyPost_ret (v:=.tuple #[.agg #[.int .i64 0,.int .i64 0,.string ⟨#[]⟩],.int .i64 0,.int .i64 n]) (by simp [results,Tryz.results86,go_sem]) rfl ⟨rfl,rfl⟩
theorem IP (s:ByteArray) (w:World) (K:s.size<=9223372036854775807) (G:mY s≠0) :
 ψ 44 #[s] w (eK s w):=by
 have l:=ω (fun (D:Nat) (h:mY s=D) (J:D≠0) (d:World)=>eK.mk' (w:=w) (w':=d) (BV h J));have I:=ω G;clear G;by_cases e:0<s.size/\aD s 0≠66
 · have b:=ω (l.z 4 (Kl e.1 e.2) (by omega));have g:=e.1;have o:((aD s 0:Int) != 66)=true:=by have:=e.2; simp; omega
   have p:∀ W:World,(Instr.index 9 (.string s) (.int .i64 0)).run Tryz.prog W = .ok (.int .u8 ((aD s 0:Nat):Int)) W:=fK (k:=0) (by omega);have n:decide ((0:Int)<(s.size:Int))=true:=t7 (by omega);clear e;go_enter Tryz.func44,Tryz.ntmps44
   go_wp2_with fail
   refine Calls.mono (gT _ _) ?_;rintro i d ⟨rfl,rfl⟩;go_wp2;refine bodyPost_ret (v:=.tuple #[.agg #[.int .i64 0,.int .i64 0,.string ⟨#[]⟩],.int .i64 0,.int .i64 4]) (by simp [results,Tryz.results44,go_sem]) rfl ?_;exact b.z _ (by repeat (first | exact θ | refine Below.alloc ?_ (by first | (simp; done) | (simp; omega)) _ | refine Below.setCell ?_ (by first | (simp; done) | (simp; omega)) _))
 by_cases g:1<s.size/\aD s 1≠75
 · have c:aD s 0=66:=by omega
   have a:iS s 1:=⟨fun _=>⟨by omega,c⟩,fun h=>absurd h (by omega),fun h=>absurd h (by omega),fun h=>absurd h (by omega)⟩;have b:=ω (l.z 4 (Km a g.1 g.2) (by omega));have m:=g.1;have E:((aD s 1:Int) != 75)=true:=by have:=g.2; simp; omega
   have o:((aD s 0:Int) != 66)=false:=by simp; omega
   have x:((aD s 0:Int) == 66)=true:=by simp; omega
   have p:∀ W:World,(Instr.index 9 (.string s) (.int .i64 0)).run Tryz.prog W = .ok (.int .u8 ((aD s 0:Nat):Int)) W:=fK (k:=0) (by omega);have H:∀ W:World,(Instr.index 9 (.string s) (.int .i64 1)).run Tryz.prog W = .ok (.int .u8 ((aD s 1:Nat):Int)) W:=fK (k:=1) (by omega);have n:decide ((0:Int)<(s.size:Int))=true:=t7 (by omega);have q:decide ((1:Int)<(s.size:Int))=true:=t7 (by omega);clear e g a c;go_enter Tryz.func44,Tryz.ntmps44
   go_wp2_with fail
   refine Calls.mono (gT _ _) ?_;rintro i d ⟨rfl,rfl⟩;go_wp2;refine bodyPost_ret (v:=.tuple #[.agg #[.int .i64 0,.int .i64 0,.string ⟨#[]⟩],.int .i64 0,.int .i64 4]) (by simp [results,Tryz.results44,go_sem]) rfl ?_;exact b.z _ (by repeat (first | exact θ | refine Below.alloc ?_ (by first | (simp; done) | (simp; omega)) _ | refine Below.setCell ?_ (by first | (simp; done) | (simp; omega)) _))
 by_cases Q:s.size=0
 · have a:iS s 0:=⟨fun h=>absurd h (by omega),fun h=>absurd h (by omega),fun h=>absurd h (by omega),fun h=>absurd h (by omega)⟩;have b:=ω (l.z 3 (pB a (by omega) (by omega)) (by omega));have n:decide ((0:Int)<(s.size:Int))=false:=fQ (by omega);have q:decide ((1:Int)<(s.size:Int))=false:=fQ (by omega);have y:decide ((2:Int)<(s.size:Int))=false:=fQ (by omega);have r:decide ((3:Int)<(s.size:Int))=false:=fQ (by omega);have z:decide ((s.size:Int)<4)=true:=t7 (by omega);clear a e g;go_enter Tryz.func44,Tryz.ntmps44
   go_wp2_with fail
   refine Calls.mono (gT _ _) ?_;rintro i d ⟨rfl,rfl⟩;go_wp2;refine bodyPost_ret (v:=.tuple #[.agg #[.int .i64 0,.int .i64 0,.string ⟨#[]⟩],.int .i64 0,.int .i64 3]) (by simp [results,Tryz.results44,go_sem]) rfl ?_;exact b.z _ (by repeat (first | exact θ | refine Below.alloc ?_ (by first | (simp; done) | (simp; omega)) _ | refine Below.setCell ?_ (by first | (simp; done) | (simp; omega)) _))
 by_cases R:s.size=1
 · have c:aD s 0=66:=by omega
   have a:iS s 1:=⟨fun _=>⟨by omega,c⟩,fun h=>absurd h (by omega),fun h=>absurd h (by omega),fun h=>absurd h (by omega)⟩;have b:=ω (l.z 3 (pB a (by omega) (by omega)) (by omega));have o:((aD s 0:Int) != 66)=false:=by simp; omega
   have x:((aD s 0:Int) == 66)=true:=by simp; omega
   have p:∀ W:World,(Instr.index 9 (.string s) (.int .i64 0)).run Tryz.prog W = .ok (.int .u8 ((aD s 0:Nat):Int)) W:=fK (k:=0) (by omega);have n:decide ((0:Int)<(s.size:Int))=true:=t7 (by omega);have q:decide ((1:Int)<(s.size:Int))=false:=fQ (by omega);have y:decide ((2:Int)<(s.size:Int))=false:=fQ (by omega);have r:decide ((3:Int)<(s.size:Int))=false:=fQ (by omega);have z:decide ((s.size:Int)<4)=true:=t7 (by omega);clear a e g c;go_enter Tryz.func44,Tryz.ntmps44
   go_wp2_with fail
   refine Calls.mono (gT _ _) ?_;rintro i d ⟨rfl,rfl⟩;go_wp2;refine bodyPost_ret (v:=.tuple #[.agg #[.int .i64 0,.int .i64 0,.string ⟨#[]⟩],.int .i64 0,.int .i64 3]) (by simp [results,Tryz.results44,go_sem]) rfl ?_;exact b.z _ (by repeat (first | exact θ | refine Below.alloc ?_ (by first | (simp; done) | (simp; omega)) _ | refine Below.setCell ?_ (by first | (simp; done) | (simp; omega)) _))
 by_cases z2:s.size=2
 · have c:aD s 0=66:=by omega
   have j:aD s 1=75:=by omega
   have a:iS s 2:=⟨fun _=>⟨by omega,c⟩,fun _=>⟨by omega,j⟩,fun h=>absurd h (by omega),fun h=>absurd h (by omega)⟩;have b:=ω (l.z 3 (pB a (by omega) (by omega)) (by omega));have o:((aD s 0:Int) != 66)=false:=by simp; omega
   have x:((aD s 0:Int) == 66)=true:=by simp; omega
   have p:∀ W:World,(Instr.index 9 (.string s) (.int .i64 0)).run Tryz.prog W = .ok (.int .u8 ((aD s 0:Nat):Int)) W:=fK (k:=0) (by omega);have E:((aD s 1:Int) != 75)=false:=by simp; omega
   have H:∀ W:World,(Instr.index 9 (.string s) (.int .i64 1)).run Tryz.prog W = .ok (.int .u8 ((aD s 1:Nat):Int)) W:=fK (k:=1) (by omega);have n:decide ((0:Int)<(s.size:Int))=true:=t7 (by omega);have q:decide ((1:Int)<(s.size:Int))=true:=t7 (by omega);have y:decide ((2:Int)<(s.size:Int))=false:=fQ (by omega);have r:decide ((3:Int)<(s.size:Int))=false:=fQ (by omega);have z:decide ((s.size:Int)<4)=true:=t7 (by omega);clear a e g c j;go_enter Tryz.func44,Tryz.ntmps44
   go_wp2_with fail
   refine Calls.mono (gT _ _) ?_;rintro i d ⟨rfl,rfl⟩;go_wp2;refine bodyPost_ret (v:=.tuple #[.agg #[.int .i64 0,.int .i64 0,.string ⟨#[]⟩],.int .i64 0,.int .i64 3]) (by simp [results,Tryz.results44,go_sem]) rfl ?_;exact b.z _ (by repeat (first | exact θ | refine Below.alloc ?_ (by first | (simp; done) | (simp; omega)) _ | refine Below.setCell ?_ (by first | (simp; done) | (simp; omega)) _))
 have c:aD s 0=66:=by omega
 have j:aD s 1=75:=by omega
 have o:((aD s 0:Int) != 66)=false:=by simp; omega
 have x:((aD s 0:Int) == 66)=true:=by simp; omega
 have E:((aD s 1:Int) != 75)=false:=by simp; omega
 have p:∀ W:World,(Instr.index 9 (.string s) (.int .i64 0)).run Tryz.prog W = .ok (.int .u8 ((aD s 0:Nat):Int)) W:=fK (k:=0) (by omega);have H:∀ W:World,(Instr.index 9 (.string s) (.int .i64 1)).run Tryz.prog W = .ok (.int .u8 ((aD s 1:Nat):Int)) W:=fK (k:=1) (by omega);have L:∀ W:World,(Instr.index 9 (.string s) (.int .i64 2)).run Tryz.prog W = .ok (.int .u8 ((aD s 2:Nat):Int)) W:=fK (k:=2) (by omega);have N:IntKind.i64.wrap (aD s 2:Int)=aD s 2:=by rw [IntKind.wrap_i64]; have:=qE s 2; omega
 have n:decide ((0:Int)<(s.size:Int))=true:=t7 (by omega);have q:decide ((1:Int)<(s.size:Int))=true:=t7 (by omega);have y:decide ((2:Int)<(s.size:Int))=true:=t7 (by omega);by_cases m:aD s 2<1\/3<aD s 2
 · have a:iS s 2:=⟨fun _=>⟨by omega,c⟩,fun _=>⟨by omega,j⟩,fun h=>absurd h (by omega),fun h=>absurd h (by omega)⟩;have b:=ω (l.z 1 (Kn a (by omega) m) (by omega));have u:=ω (show (aD s 2:Int)<1\/3<(aD s 2:Int) from by omega);clear a e g m c j;go_enter Tryz.func44,Tryz.ntmps44
   go_wp2_with fail
   refine Calls.mono (eC _ _ _ u.z _) ?_;rintro i d ⟨rfl,rfl⟩
   go_wp2_with fail
   refine Calls.mono (gT _ _) ?_;rintro i d ⟨rfl,rfl⟩;go_wp2;refine bodyPost_ret (v:=.tuple #[.agg #[.int .i64 0,.int .i64 0,.string ⟨#[]⟩],.int .i64 0,.int .i64 1]) (by simp [results,Tryz.results44,go_sem]) rfl ?_;exact b.z _ (by repeat (first | exact θ | refine Below.alloc ?_ (by first | (simp; done) | (simp; omega)) _ | refine Below.setCell ?_ (by first | (simp; done) | (simp; omega)) _))
 have a:iS s 3:=⟨fun _=>⟨by omega,c⟩,fun _=>⟨by omega,j⟩,fun _=>⟨by omega,by omega,by omega⟩,fun h=>absurd h (by omega)⟩;have B:=ω (show (1:Int)<=(aD s 2:Int) from by omega);have C:=ω (show (aD s 2:Int)<=3 from by omega);by_cases S:s.size=3
 · have b:=ω (l.z 3 (pB a (by omega) (by omega)) (by omega));have r:decide ((3:Int)<(s.size:Int))=false:=fQ (by omega);have z:decide ((s.size:Int)<4)=true:=t7 (by omega);clear a e g m c j;go_enter Tryz.func44,Tryz.ntmps44
   go_wp2_with fail
   refine Calls.mono (dh _ _ _ B.z C.z _) ?_;rintro i d ⟨rfl,rfl⟩
   go_wp2_with fail
   refine Calls.mono (gT _ _) ?_;rintro i d ⟨rfl,rfl⟩;go_wp2;refine bodyPost_ret (v:=.tuple #[.agg #[.int .i64 0,.int .i64 0,.string ⟨#[]⟩],.int .i64 0,.int .i64 3]) (by simp [results,Tryz.results44,go_sem]) rfl ?_;exact b.z _ (by repeat (first | exact θ | refine Below.alloc ?_ (by first | (simp; done) | (simp; omega)) _ | refine Below.setCell ?_ (by first | (simp; done) | (simp; omega)) _))
 have M:∀ W:World,(Instr.index 9 (.string s) (.int .i64 3)).run Tryz.prog W = .ok (.int .u8 ((aD s 3:Nat):Int)) W:=fK (k:=3) (by omega);have O:IntKind.i64.wrap (aD s 3:Int)=aD s 3:=by rw [IntKind.wrap_i64]; have:=qE s 3; omega
 have r:decide ((3:Int)<(s.size:Int))=true:=t7 (by omega);by_cases F:aD s 3<1\/4<aD s 3
 · have b:=ω (l.z 1 (Ko a (by omega) F) (by omega));have u:=ω (show (aD s 3:Int)<1\/4<(aD s 3:Int) from by omega);clear a e g m F c j;go_enter Tryz.func44,Tryz.ntmps44
   go_wp2_with fail
   refine Calls.mono (dh _ _ _ B.z C.z _) ?_;rintro i d ⟨rfl,rfl⟩
   go_wp2_with fail
   refine Calls.mono (eC _ _ _ u.z _) ?_;rintro i d ⟨rfl,rfl⟩
   go_wp2_with fail
   refine Calls.mono (gT _ _) ?_;rintro i d ⟨rfl,rfl⟩;go_wp2;refine bodyPost_ret (v:=.tuple #[.agg #[.int .i64 0,.int .i64 0,.string ⟨#[]⟩],.int .i64 0,.int .i64 1]) (by simp [results,Tryz.results44,go_sem]) rfl ?_;exact b.z _ (by repeat (first | exact θ | refine Below.alloc ?_ (by first | (simp; done) | (simp; omega)) _ | refine Below.setCell ?_ (by first | (simp; done) | (simp; omega)) _))
 exact absurd (zI ⟨fun _=>⟨by omega,c⟩,fun _=>⟨by omega,j⟩,fun _=>⟨by omega,by omega,by omega⟩,fun _=>⟨by omega,by omega,by omega⟩⟩).1 I.z
end Go.Proofs.YtimglglgcgpjgabGreatDoor
