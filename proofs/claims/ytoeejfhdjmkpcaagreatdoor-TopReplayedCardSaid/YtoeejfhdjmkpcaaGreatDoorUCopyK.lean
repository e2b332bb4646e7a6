/- Of the proof of a statement: CopyK, PlWDec, PlApply, PlPlace, Cmp. -/
import Derived.Laws.CopyRow
import Derived.Laws.IdiomCopy
import Derived.Lib.AppendZerosOnto
import Derived.Lib.SliceRun
import Derived.Deep.RegionLaw
import Derived.WalkLawsBesides
import Derived.Test.YtoeejfhdjmkpcaaGreatDoorURecs
set_option linter.unusedVariables false
set_option linter.unusedSimpArgs false
set_option maxRecDepth 100000
set_option maxHeartbeats 8000000
/- copy, clear and append of make over rows of the call's own, whose elements hold several cells each. -/
namespace Go.Proofs.YtoeejfhdjmkpcaaGreatDoor
open Go.Lib (hid)
open Go.RowKit
section
variable {P:Program}
theorem cQ (w:World) (dT sT ty elem:TypeId) (sz:Nat) (g o dLen dCap:Nat) (a:Addr) (sLen sCap:Nat) (cur:Array Value) (t:TypeId) (cs:List Value)
 (hu:P.underlying dT=some (.slice elem)) (hs:(P.info? elem).map (·.size)=some sz)
 (hg:w.heap[g]? = some (.cells cur t (0,0))) (hn:cs.length=Nat.min sLen dLen*sz)
 (hsrc:∀ j v,cs[j]? = some v→w.cell? (a.add j)=some v) (hfit:o+cs.length≤cur.size) (h1:∀ v ∈ cs,v.oneCell'=true) :
 (Builtin.copy_ #[dT,sT] ty #[.slice (some ⟨g,o,none⟩) dLen dCap,.slice (some a) sLen sCap]).run P w =
  .ok (.int .i64 (Nat.min sLen dLen:Nat)) (w.setRow g (cur.toList.take o ++ cs ++ cur.toList.drop (o+cs.length)).toArray):=by
 have hl:=run_loadCells_list (P:=P) w a cs hsrc
 have hst:=run_storeCells_at P g o t cs 0 cur w hg (by simpa using hfit) h1
 cases hq:P.info? elem with
 | none=>simp [hq] at hs
 | some i=>
  have hi:i.size=sz:=by simpa [hq] using hs
  simp [Builtin.copy_,run_underlying hu,Builtin.lenOf,Builtin.firstCells,sizeOf,typeInfo,hq,hi,← hn,hl,hst]
  rfl
theorem kQ (w:World) (t ty e:TypeId) (sz:Nat) (ht:P.underlying t=some (.slice e)) (hs:(P.info? e).map (·.size)=some sz) (g n cap:Nat) (a:Addr) (m c:Nat) (cur:Array Value) (te:TypeId) (cs:List Value)
 (hg:w.heap[g]? = some (.cells cur te (0,0))) (hl:cs.length=m*sz) (hsrc:∀ j v,cs[j]? = some v→w.cell? (a.add j)=some v) (hroom:n+m≤cap) (hfit:n*sz+cs.length≤cur.size) (h1:∀ v ∈ cs,v.oneCell'=true) :
 (Builtin.append_ #[t,t] ty #[.slice (some ⟨g,0,none⟩) n cap,.slice (some a) m c]).run P w = .ok (.slice (some ⟨g,0,none⟩) (n+m) cap) (w.setRow g (cur.toList.take (n*sz) ++ cs ++ cur.toList.drop (n*sz+cs.length)).toArray):=by
 have hst:=run_storeCells_at P g (n*sz) te cs 0 cur w hg (by simpa using hfit) h1
 cases hq:P.info? e with
 | none=>simp [hq] at hs
 | some i=>
  have hi:i.size=sz:=by simpa [hq] using hs
  subst hi
  have hf:=run_firstCells_some (P:=P) w i.size m a m c cs hl hsrc
  have ea:(⟨g,0,none⟩:Addr).add (n*i.size)=⟨g,n*i.size,none⟩:=by unfold Addr.add; split <;> simp_all
  simp [Builtin.append_,run_underlying ht,sizeOf,typeInfo,hq,Builtin.lenOf,hroom,hf,ea,hst]
theorem eE (z:Array Value) (n:Nat):(Builtin.zeroCells z n).toList.length=n*z.size:=by simp [Builtin.zeroCells]
theorem fO (z:Array Value) (n:Nat) (h:∀ u ∈ z.toList,u.oneCell'=true):∀ u ∈ (Builtin.zeroCells z n).toList,u.oneCell'=true:=by
 intro u hu
 unfold Builtin.zeroCells at hu
 rw [Array.toList_map] at hu
 obtain⟨i,hi,rfl⟩:=List.mem_map.1 hu
 have hi':i<n*z.size:=by simpa using hi
 have hz:0<z.size:=by
  rcases Nat.eq_zero_or_pos z.size with h0 | h0
  · rw [h0,Nat.mul_zero] at hi'; omega
  · exact h0
 rw [getElem!_pos z (i % z.size) (Nat.mod_lt _ hz)]
 exact h _ (Array.getElem_mem_toList _)
theorem eW (w:World) (t e ty:TypeId) (z:Value) (g o n c:Nat) (ht:P.underlying t=some (.slice e)) (hv:∀ w,(zeroValue e).run P w = .ok z w) (h1:∀ u ∈ (Builtin.zeroCells z.cells n).toList,u.oneCell'=true) (hn:0<n) (cur:Array Value) (te:TypeId)
 (hg:w.heap[g]? = some (.cells cur te (0,0))) (hfit:o+n*z.cells.size≤cur.size) :
 (Builtin.clear_ #[t] ty #[.slice (some ⟨g,o,none⟩) n c]).run P w = .ok (.tuple #[]) (w.setRow g (cur.toList.take o ++ (Builtin.zeroCells z.cells n).toList ++ cur.toList.drop (o+(Builtin.zeroCells z.cells n).toList.length)).toArray):=by
 have hst:=run_storeCells_at P g o te (Builtin.zeroCells z.cells n).toList 0 cur w hg (by rw [eE]; simpa using hfit) h1
 obtain⟨m,rfl⟩:∃ m,n=m+1:=⟨n - 1,by omega⟩
 simp only [Nat.add_zero] at hst
 simp [Builtin.clear_,run_underlying ht,hv,hst]
end
structure cS (w:World) (base:Nat) (e:TypeId) (sz g cap:Nat) (cur:Array Value):Prop where
 ge:base≤g
 blk:w.heap[g]? = some (.cells cur e (0,0))
 cap_:cap≤maxLen
 size:cur.size=cap*sz
theorem cS.of {w:World} {base n g cap sz:Nat} {e:TypeId} {xs:List Value} (h:w.ownsRow base e sz (.slice (some ⟨g,0,none⟩) n cap) n xs):∃ cur,cS w base e sz g cap cur∧n≤cap∧cur.toList.take (n*sz)=xs:=by
 rcases h.2 with ⟨h1,_⟩ | ⟨g',cap',cur,hv,h1,h2,h3,h4,h5,h6⟩
 · cases h1
 · injection hv with a b c
   injection a with a
   injection a with a
   subst a; subst c
   exact⟨cur,⟨h1,h2,h4,h5⟩,h3,h6⟩
theorem cS.own {w:World} {base g cap sz:Nat} {e:TypeId} {cur:Array Value} (h:cS w base e sz g cap cur) {n:Nat} (hn:n≤cap) {xs:List Value} (hx:cur.toList.take (n*sz)=xs):w.ownsRow base e sz (.slice (some ⟨g,0,none⟩) n cap) n xs:=by
 subst hx
 refine⟨?_,.inr ⟨g,cap,cur,rfl,h.ge,h.blk,hn,h.cap_,h.size,rfl⟩⟩
 rw [List.length_take,Array.length_toList,h.size]
 have:=Nat.mul_le_mul_right sz hn
 omega
theorem cS.set {w:World} {base g cap sz:Nat} {e:TypeId} {cur:Array Value} (h:cS w base e sz g cap cur) (cur':Array Value) (hs:cur'.size=cap*sz):cS (w.setRow g cur') base e sz g cap cur':=
 ⟨h.ge,setRow_heap w g cur cur' e _ h.blk,h.cap_,hs⟩
theorem sJ (w:World) (g:Nat) (cur:Array Value):w.grownBy (w.setRow g cur) (some g):=⟨rfl,rfl,rfl,by simp [World.setRow],fun k _ hk=>setRow_other w g k cur (fun e=>hk (by simp [e]))⟩
theorem jD (w:World) (g n n' c c':Nat) (cur:Array Value):cE w (w.setRow g cur) (.slice (some ⟨g,0,none⟩) n c) (.slice (some ⟨g,0,none⟩) n' c'):=
 ⟨sJ w g cur,.inl rfl⟩
theorem eK (w:World) (g n n' c c':Nat) (cur:Array Value):cE w (w.drew.setRow g cur) (.slice (some ⟨g,0,none⟩) n c) (.slice (some ⟨g,0,none⟩) n' c'):=
 ⟨⟨rfl,rfl,rfl,by simp [World.setRow],fun k _ hk=>setRow_other w.drew g k cur (fun e=>hk (by simp [Value.ownBlock,e]))⟩,.inl rfl⟩
theorem cS.cells {w:World} {base g cap sz:Nat} {e:TypeId} {cur:Array Value} (h:cS w base e sz g cap cur) (o:Nat):∀ j v,(cur.toList.drop o)[j]? = some v→w.cell? ((⟨g,o,none⟩:Addr).add j)=some v:=fun j v hv=>by
 have ea:(⟨g,o,none⟩:Addr).add j=⟨g,o+j,none⟩:=by unfold Addr.add; split <;> simp_all
 rw [ea,cell_of_row w g (o+j) cur e (0,0) h.blk]
 rw [List.getElem?_drop,Array.getElem?_toList] at hv
 exact hv
theorem sK {P:Program} (w:World) {o:Oper} {a:Act} {K:Act→World→Prop} {Q:Exit→Act→World→Prop} (d s:Operand) (t t':TypeId)
 (ho:o.op = .call { callee:=.builtin .copy,args:=#[d,s],argTypes:=#[t,t'] }) (v u:Value) (hd:a.eval d=v) (hs:a.eval s=u) {v':Value} {w':World}
 (hr:(Builtin.copy_ #[t,t'] o.type #[v,u]).run P w = .ok v' w') (h:K (a.put o.dst v') w'):o.wp P a w K Q:=by
 unfold Oper.wp execOp
 simp only [ho,resolve,invoke,builtin,Sem.run_bind,Sem.run_pure,Result.andThen_ok,List.map_toArray,List.map_cons,List.map_nil,hd,hs,hr]
 exact h
theorem eS {P:Program} (w:World) {ops:Array Oper} {rest:List Oper} {o:Oper} {a:Act} {Q:Exit→Act→World→Prop} (hgd:o.guard=none) (d s:Operand) (t t':TypeId)
 (ho:o.op = .call { callee:=.builtin .copy,args:=#[d,s],argTypes:=#[t,t'] }) (v u:Value) (hd:a.eval d=v) (hs:a.eval s=u) {v':Value} {w':World}
 (hr:(Builtin.copy_ #[t,t'] o.type #[v,u]).run P w = .ok v' w') (h:wpList P ops Q rest (a.put o.dst v') w'):wpList P ops Q (o :: rest) a w:=
 wpList_plain hgd fun _ hK=>sK w d s t t' ho v u hd hs hr (hK _ _ h)
theorem fY {P:Program} {ops:Array Oper} {o:Oper} {a:Act} {w:World} {K:Act→World→Prop} {Q:Exit→Act→World→Prop} {E:Prop}
 (hg:o.guard=none) (d x:Operand) (dT sT:TypeId) (hop:o.op=Op.call { callee:=Callee.builtin Builtin.copy,args:=#[d,x],argTypes:=#[dT,sT] })
 (v u:Value) (hd:a.eval d=v) (hx:a.eval x=u) {v':Value} {w':World} (hr:(Builtin.copy_ #[dT,sT] o.type #[v,u]).run P w = .ok v' w') (hK:K (a.put o.dst v') w') :
 if Region.wanted o (yielded ops a.tmps)=true then Oper.wp P o a w K Q else E:=by
 have hw:Region.wanted o (yielded ops a.tmps)=true:=by simp [Region.wanted,hg]
 rw [if_pos hw]
 exact sK w d x dT sT hop v u hd hx hr hK
theorem jV {P:Program} {ops:Array Oper} {o:Oper} {a:Act} {w:World} {K:Act→World→Prop} {Q:Exit→Act→World→Prop} {E:Prop}
 (hg:o.guard=none) (d x:Operand) (dT sT:TypeId) (hop:o.op=Op.call { callee:=Callee.builtin Builtin.append,args:=#[d,x],argTypes:=#[dT,sT] })
 (v u:Value) (hd:a.eval d=v) (hx:a.eval x=u) {v':Value} {w':World} (hr:(Builtin.append_ #[dT,sT] o.type #[v,u]).run P w = .ok v' w') (hK:K (a.put o.dst v') w') :
 if Region.wanted o (yielded ops a.tmps)=true then Oper.wp P o a w K Q else E:=by
 have hw:Region.wanted o (yielded ops a.tmps)=true:=by simp [Region.wanted,hg]
 rw [if_pos hw]
 unfold Oper.wp execOp
 simp only [hop,resolve,invoke,builtin,Sem.run_bind,Sem.run_pure,Result.andThen_ok,List.map_toArray,List.map_cons,List.map_nil,hd,hx,hr]
 exact hK
theorem bY {P:Program} (w:World) {ops:Array Oper} {rest:List Oper} {o:Oper} {a:Act} {Q:Exit→Act→World→Prop} (hgd:o.guard=none) (s:Operand) (t:TypeId)
 (ho:o.op = .call { callee:=.builtin .clear,args:=#[s],argTypes:=#[t] }) (v:Value) (hs:a.eval s=v) {v':Value} {w':World}
 (hr:(Builtin.clear_ #[t] o.type #[v]).run P w = .ok v' w') (h:wpList P ops Q rest (a.put o.dst v') w'):wpList P ops Q (o :: rest) a w:=by
 refine wpList_plain hgd fun _ hK=>?_
 unfold Oper.wp execOp
 simp only [ho,resolve,invoke,builtin,Sem.run_bind,Sem.run_pure,Result.andThen_ok,List.map_toArray,List.map_cons,List.map_nil,hs,hr]
 exact hK _ _ h
theorem cN {α:Type} {enc:α→List Value} {sz:Nat} (h:∀ a,(enc a).length=sz):∀ (l:List α) (k:Nat),(au enc l).take (k*sz)=au enc (l.take k)
 | [],k=>by simp [au]
 | a :: l,0=>by simp [au]
 | a :: l,k+1=>by
  show (enc a ++ au enc l).take ((k+1)*sz)=enc a ++ au enc (l.take k)
  rw [List.take_append,h,show (k+1)*sz - sz=k*sz by rw [Nat.add_mul]; omega,cN h l k,List.take_of_length_le (by rw [h,Nat.add_mul]; omega)]
theorem dX {α:Type} {enc:α→List Value} {sz:Nat} (h:∀ a,(enc a).length=sz):∀ (l:List α) (k:Nat),(au enc l).drop (k*sz)=au enc (l.drop k)
 | [],k=>by simp [au]
 | a :: l,0=>by simp [au]
 | a :: l,k+1=>by
  show (enc a ++ au enc l).drop ((k+1)*sz)=au enc (l.drop k)
  rw [List.drop_append,h,show (k+1)*sz - sz=k*sz by rw [Nat.add_mul]; omega,dX h l k,List.drop_eq_nil_of_le (by rw [h,Nat.add_mul]; omega),List.nil_append]
theorem rz {L X R:List Value} {a b s:Nat} (hab:a≤b) (hb:b+s≤L.length) (hX:X.length=s) (hR:L.take b=R) :
 (((L.take (a+s) ++ (L.drop a).take (b - a) ++ L.drop (a+s+(b - a))).take a) ++ X ++ (L.take (a+s) ++ (L.drop a).take (b - a) ++ L.drop (a+s+(b - a))).drop (a+s)).take (b+s)=R.take a ++ X ++ R.drop a:=by
 have l1:(L.take (a+s)).length=a+s:=by rw [List.length_take]; omega
 have l2:((L.drop a).take (b - a)).length=b - a:=by rw [List.length_take,List.length_drop]; omega
 have e1:(L.take (a+s) ++ (L.drop a).take (b - a) ++ L.drop (a+s+(b - a))).take a=R.take a:=by
  rw [List.append_assoc,List.take_append_of_le_length (by omega),List.take_take,← hR,List.take_take]
  congr 1; omega
 have e2:(L.take (a+s) ++ (L.drop a).take (b - a) ++ L.drop (a+s+(b - a))).drop (a+s)=(L.drop a).take (b - a) ++ L.drop (a+s+(b - a)):=by
  rw [List.append_assoc,List.drop_append,l1,Nat.sub_self,List.drop_zero,List.drop_eq_nil_of_le (by omega),List.nil_append]
 have e3:(L.drop a).take (b - a)=R.drop a:=by rw [← hR,List.drop_take]
 have l3:(R.take a).length=a:=by rw [← hR,List.length_take,List.length_take]; omega
 rw [e1,e2,← List.append_assoc,List.take_append_of_le_length (by simp only [List.length_append,l3,hX,l2]; omega),List.take_of_length_le (by simp only [List.length_append,l3,hX,l2]; omega),e3]
theorem uB {L X D:List Value} {a s:Nat} (hL:a+s+D.length≤L.length) (hX:X.length=s) :
 ((L.take a ++ X ++ L.drop (a+s)).take (a+s) ++ D ++ (L.take a ++ X ++ L.drop (a+s)).drop (a+s+D.length)).take (a+s+D.length)=L.take a ++ X ++ D:=by
 have l1:(L.take a ++ X).length=a+s:=by rw [List.length_append,List.length_take,hX]; omega
 have e1:(L.take a ++ X ++ L.drop (a+s)).take (a+s)=L.take a ++ X:=by
  rw [List.take_append_of_le_length (by omega),List.take_of_length_le (by omega)]
 rw [e1,List.take_append_of_le_length (by rw [List.length_append,l1]; exact Nat.le_refl _),List.take_of_length_le (by rw [List.length_append,l1]; exact Nat.le_refl _)]
theorem rA {L R:List Value} {a b s:Nat} (hab:a+s≤b) (hb:b≤L.length) (hR:L.take b=R) :
 (L.take a ++ (L.drop (a+s)).take (b - (a+s)) ++ L.drop (a+(b - (a+s)))).take (b - s)=R.take a ++ R.drop (a+s):=by
 have l1:(L.take a).length=a:=by rw [List.length_take]; omega
 have l2:((L.drop (a+s)).take (b - (a+s))).length=b - (a+s):=by rw [List.length_take,List.length_drop]; omega
 rw [List.take_append_of_le_length (by rw [List.length_append,l1,l2]; omega),List.take_of_length_le (by rw [List.length_append,l1,l2]; omega),← hR,List.drop_take,List.take_take,Nat.min_eq_left (by omega)]
end Go.Proofs.YtoeejfhdjmkpcaaGreatDoor
/- What Decode of a state says: plain. -/
namespace Go.Proofs.YtoeejfhdjmkpcaaGreatDoor
open Go.Lib (hid)
theorem Bg {α:Type} {p:ByteArray→RR α}:∀ {n:Nat} {s r:ByteArray} {l:List α},uC p n s = .ok l r→l.length=n∧∀ x ∈ l,∃ s r,p s = .ok x r
 | 0,s,r,l,h=>by
  unfold uC at h
  injection h with h1 h2
  subst h1
  exact⟨rfl,fun x hx=>by cases hx⟩
 | n+1,s,r,l,h=>by
  unfold uC at h
  cases hp:p s with
  | bad x=>rw [hp] at h; cases h
  | ok a r1=>
   rw [hp,RR.bind_ok] at h
   cases hq:uC p n r1 with
   | bad x=>rw [hq] at h; cases h
   | ok l' r2=>
    rw [hq,RR.bind_ok] at h
    injection h with h1 h2
    subst h1
    obtain⟨i1,i2⟩:=Bg hq
    refine⟨by simp [i1],fun x hx=>?_⟩
    rcases List.mem_cons.1 hx with rfl | hx
    · exact⟨_,_,hp⟩
    · exact i2 x hx
theorem lN {α:Type} {p:ByteArray→RR α} {most:Nat} {s r:ByteArray} {l:List α} (h:cW most p s = .ok l r):l.length≤most∧∀ x ∈ l,∃ s r,p s = .ok x r:=by
 unfold cW Ee at h
 cases hn:cO s with
 | bad x=>rw [hn] at h; cases h
 | ok n r1=>
  rw [hn,RR.bind_ok] at h
  by_cases hb:most<n
  · rw [if_pos hb] at h; cases h
  · rw [if_neg hb,RR.bind_ok] at h
    obtain⟨i1,i2⟩:=Bg h
    exact⟨by omega,i2⟩
theorem EQ {v:Int} {s r:ByteArray} {j:aA} (h:mW v s = .ok j r):j.name.size≤16∧j.tag.size≤16:=by
 unfold mW at h
 cases h1:bH s with
 | bad x=>rw [h1] at h; cases h
 | ok a1 s1=>
  rw [h1,RR.bind_ok] at h
  cases h2:cO s1 with
  | bad x=>rw [h2] at h; cases h
  | ok a2 s2=>
   rw [h2,RR.bind_ok] at h
   cases h3:cO s2 with
   | bad x=>rw [h3] at h; cases h
   | ok a3 s3=>
    rw [h3,RR.bind_ok] at h
    cases h4:(if 1<v then cO s3 else .ok 0 s3) with
    | bad x=>rw [h4] at h; cases h
    | ok a4 s4=>
     rw [h4,RR.bind_ok] at h
     cases h5:(if 2<v then bH s4 else .ok ⟨#[]⟩ s4) with
     | bad x=>rw [h5] at h; cases h
     | ok a5 s5=>
      rw [h5,RR.bind_ok] at h
      injection h with e1 e2
      subst e1
      refine⟨jL h1,?_⟩
      by_cases hv:2<v
      · rw [if_pos hv] at h5; exact jL h5
      · rw [if_neg hv] at h5; injection h5 with e3 e4; subst e3; show (0:Nat)≤16; omega
theorem CN {v:Int} {s r:ByteArray} {j:av} (h:jM v s = .ok j r):j.name.size≤16∧j.zone.size≤16:=by
 unfold jM at h
 cases h1:bH s with
 | bad x=>rw [h1] at h; cases h
 | ok a1 s1=>
  rw [h1,RR.bind_ok] at h
  cases h2:cO s1 with
  | bad x=>rw [h2] at h; cases h
  | ok a2 s2=>
   rw [h2,RR.bind_ok] at h
   cases h5:(if 1<v then bH s2 else .ok ⟨#[]⟩ s2) with
   | bad x=>rw [h5] at h; cases h
   | ok a5 s5=>
    rw [h5,RR.bind_ok] at h
    injection h with e1 e2
    subst e1
    refine⟨jL h1,?_⟩
    by_cases hv:1<v
    · rw [if_pos hv] at h5; exact jL h5
    · rw [if_neg hv] at h5; injection h5 with e3 e4; subst e3; show (0:Nat)≤16; omega
theorem Bh {s r:ByteArray} {j:ah} (h:gT s = .ok j r):j.job.size≤16∧j.node.size≤16:=by
 unfold gT at h
 cases h1:bH s with
 | bad x=>rw [h1] at h; cases h
 | ok a1 s1=>
  rw [h1,RR.bind_ok] at h
  cases h2:bH s1 with
  | bad x=>rw [h2] at h; cases h
  | ok a2 s2=>
   rw [h2,RR.bind_ok] at h
   cases h3:cO s2 with
   | bad x=>rw [h3] at h; cases h
   | ok a3 s3=>
    rw [h3,RR.bind_ok] at h
    injection h with e1 e2
    subst e1
    exact⟨jL h1,jL h2⟩
def endP {α:Type} (x:RR α):RR α:=x.bind fun a s=>if s.size=0 then .ok a s else .bad 4
def dE:ak:=⟨0,[],[],[]⟩
theorem bad_eq {α β:Type} {x y:Nat} (h:(RR.bad x:RR α) = .bad y):(RR.bad x:RR β) = .bad y:=by injection h with e; rw [e]
def qX (σ:RR Unit):Nat:=match σ with
 | .ok _ s=>if s.size=0 then 0 else 4
 | .bad x=>x
theorem GJ {s:ByteArray} (h:s.size=0):qX (.ok () s)=0:=by unfold qX; simp only; rw [if_pos h]
theorem GK {s:ByteArray} (h:s.size≠0):qX (.ok () s)=4:=by unfold qX; simp only; rw [if_neg h]
theorem wW {s:ByteArray} (h:s.size≠0):s.toList.isEmpty=false:=by
 have:=sC h
 cases hl:s.toList with
 | nil=>rw [hl] at this; exact absurd this (by decide)
 | cons a l=>rfl
end Go.Proofs.YtoeejfhdjmkpcaaGreatDoor
/- What Apply says: plain. -/
namespace Go.Proofs.YtoeejfhdjmkpcaaGreatDoor
open Go.Lib (hid)
open Go.Op (bytesLess)
def dz (a b:ByteArray):Bool:=bytesLess a.toList b.toList
theorem dJ (a:ByteArray):dz a a=false:=kG _
theorem iy {a b c:ByteArray} (h:dz a b=true) (h2:dz b c=true):dz a c=true:=nX _ _ _ h h2
theorem wB {a b:ByteArray} (h:a.toList=b.toList):a=b:=by rw [ByteArray.toList_eq,ByteArray.toList_eq] at h; exact ByteArray.ext (Array.toList_inj.1 h)
theorem iM {a b:ByteArray} (h:dz a b=false) (hne:a≠b):dz b a=true:=by
 have ht:=dY a.toList b.toList
 unfold dz at h ⊢
 rw [h] at ht
 rcases Bool.or_eq_true_iff.1 ht.symm with h1 | h1
 · exact h1
 · exact absurd (wB (beq_iff_eq.1 h1)).symm hne
section
variable {α:Type} (key:α→ByteArray)
def aK (l:List α):Prop:=l.Pairwise fun a b=>dz (key a) (key b)=true
variable {key}
theorem lX:∀ {l r:List α},aK key l→aK key r→(∀ x,x ∈ l↔x ∈ r)→l=r
 | [],[],_,_,_=>rfl
 | [],b :: r,_,_,h=>absurd ((h b).2 List.mem_cons_self) List.not_mem_nil
 | a :: l,[],_,_,h=>absurd ((h a).1 List.mem_cons_self) List.not_mem_nil
 | a :: l,b :: r,hl,hr,h=>by
  obtain⟨hl1,hl2⟩:=List.pairwise_cons.1 hl
  obtain⟨hr1,hr2⟩:=List.pairwise_cons.1 hr
  have hab:a=b:=by
   rcases List.mem_cons.1 ((h a).1 List.mem_cons_self) with h1 | h1
   · exact h1
   · rcases List.mem_cons.1 ((h b).2 List.mem_cons_self) with h2 | h2
     · exact h2.symm
     · have:=iy (hr1 a h1) (hl1 b h2)
       rw [dJ] at this; cases this
  subst hab
  refine congrArg (a :: ·) (lX hl2 hr2 fun x=>⟨fun hx=>?_,fun hx=>?_⟩)
  · rcases List.mem_cons.1 ((h x).1 (List.mem_cons_of_mem _ hx)) with h1 | h1
    · subst h1
      have:=hl1 x hx
      rw [dJ] at this; cases this
    · exact h1
  · rcases List.mem_cons.1 ((h x).2 (List.mem_cons_of_mem _ hx)) with h1 | h1
    · subst h1
      have:=hr1 x hx
      rw [dJ] at this; cases this
    · exact h1
theorem cF {l:List α} (h:aK key l):l.Pairwise fun a b=>key a≠key b:=
 h.imp fun {a b} hlt e=>by rw [e,dJ] at hlt; cases hlt
variable (key)
def gW (x:α):Bool→List α→List α
 | d,[]=>if d then [] else [x]
 | d,y :: l=>(if !d && !dz (key y) (key x) then [x] else []) ++ (if key y≠key x then [y] else []) ++ gW x (d || !dz (key y) (key x)) l
def iN (l:List α) (x:α):List α:=gW key x false l
variable {key}
theorem gy (x z:α):∀ (l:List α) (d:Bool),z ∈ gW key x d l↔(d=false∧z=x)∨(z ∈ l∧key z≠key x)
 | [],d=>by cases d <;> simp [gW]
 | y :: l,d=>by
  rw [gW,List.mem_append,List.mem_append,gy x z l]
  have h2:(z ∈ if key y≠key x then [y] else [])↔(z=y∧key z≠key x):=by
   by_cases h:key y=key x
   · rw [if_neg (by simp [h])]
     exact⟨fun h'=>absurd h' List.not_mem_nil,fun ⟨h1,h2⟩=>absurd (by rw [h1,h]) h2⟩
   · rw [if_pos h,List.mem_singleton]
     exact⟨fun h'=>⟨h',by rw [h']; exact h⟩,fun h'=>h'.1⟩
  rw [h2,List.mem_cons]
  cases d <;> cases hk:dz (key y) (key x) <;> simp <;> grind
theorem vI (x:α):∀ (l:List α),aK key l→aK key (gW key x true l)
 | [],_=>List.Pairwise.nil
 | y :: l,h=>by
  obtain⟨h1,h2⟩:=List.pairwise_cons.1 h
  have ih:=vI x l h2
  rw [gW]
  simp only [Bool.not_true,Bool.false_and,Bool.false_eq_true,if_false,List.nil_append,Bool.true_or]
  by_cases hk:key y=key x
  · rw [if_neg (by simp [hk])]; exact ih
  · rw [if_pos hk]
    refine List.pairwise_cons.2 ⟨fun z hz=>?_,ih⟩
    rcases (gy x z l true).1 hz with hc | hc
    · cases hc.1
    · exact h1 z hc.1
theorem sorted_put (x:α):∀ (l:List α),aK key l→aK key (gW key x false l)
 | [],_=>List.pairwise_singleton _ _
 | y :: l,h=>by
  obtain⟨h1,h2⟩:=List.pairwise_cons.1 h
  cases hk:dz (key y) (key x) with
  | true=>
   have hne:key y≠key x:=fun e=>by rw [e,dJ] at hk; cases hk
   have ih:=sorted_put x l h2
   rw [gW,hk]
   simp only [Bool.not_true,Bool.and_false,Bool.false_eq_true,if_false,List.nil_append,Bool.or_false,if_pos hne]
   refine List.pairwise_cons.2 ⟨fun z hz=>?_,ih⟩
   rcases (gy x z l false).1 hz with hc | hc
   · rw [hc.2]; exact hk
   · exact h1 z hc.1
  | false=>
   have ih:=vI x (y :: l) h
   have e:gW key x false (y :: l)=x :: gW key x true (y :: l):=by
    rw [gW,gW,hk]
    simp
   rw [e]
   refine List.pairwise_cons.2 ⟨fun z hz=>?_,ih⟩
   rcases (gy x z (y :: l) true).1 hz with hc | hc
   · cases hc.1
   · rcases List.mem_cons.1 hc.1 with e | hz
     · subst e
       exact iM hk hc.2
     · have hyz:=h1 z hz
       by_cases hxy:key y=key x
       · rw [hxy] at hyz; exact hyz
       · exact iy (iM hk hxy) hyz
theorem zo:∀ (set l:List α),aK key l→set.Pairwise (fun a b=>key a≠key b) →
 aK key (set.foldl (iN key) l)∧∀ z,z ∈ set.foldl (iN key) l↔z ∈ set∨(z ∈ l∧∀ s ∈ set,key z≠key s)
 | [],l,h,_=>⟨h,fun z=>by simp⟩
 | s :: set,l,h,hd=>by
  obtain⟨d1,d2⟩:=List.pairwise_cons.1 hd
  obtain⟨i1,i2⟩:=zo set (iN key l s) (sorted_put s l h) d2
  refine⟨i1,fun z=>?_⟩
  rw [List.foldl_cons,i2]
  have hm:z ∈ iN key l s↔z=s∨(z ∈ l∧key z≠key s):=by
   unfold iN; rw [gy]; simp
  rw [hm,List.mem_cons]
  constructor
  · rintro (h1 | ⟨h1 | h1,h2⟩)
    · exact .inl (.inr h1)
    · exact .inl (.inl h1)
    · exact .inr ⟨h1.1,fun r hr=>by
       rcases List.mem_cons.1 hr with e | hr
       · rw [e]; exact h1.2
       · exact h2 r hr⟩
  · rintro ((h1 | h1) | ⟨h1,h2⟩)
    · exact .inr ⟨.inl h1,fun r hr=>by rw [h1]; exact d1 r hr⟩
    · exact .inl h1
    · exact .inr ⟨.inr ⟨h1,h2 s List.mem_cons_self⟩,fun r hr=>h2 r (List.mem_cons_of_mem _ hr)⟩
variable (key)
def bV (rows set:List α) (gone:List ByteArray):List α:=set.foldl (iN key) (rows.filter fun x=>!gone.any fun s=>decide (s=key x))
def aY (rows:List α) (gone:List ByteArray):Bool:=gone.any fun s=>!rows.any fun r=>decide (key r=s)
def eA (rows:List α) (gone:List ByteArray) (set:List α) (s:ByteArray):Option α:=
 match set.find? fun x=>decide (key x=s) with
 | some x=>some x
 | none=>if gone.any (fun q=>decide (q=s)) then none else rows.find? fun x=>decide (key x=s)
variable {key}
theorem jW {l:List α} (h:l.Pairwise fun a b=>key a≠key b) {x:α} (hx:x ∈ l):l.find? (fun y=>decide (key y=key x))=some x:=by
 induction l with
 | nil=>cases hx
 | cons a l ih=>
  obtain⟨h1,h2⟩:=List.pairwise_cons.1 h
  rw [List.find?_cons]
  by_cases e:key a=key x
  · rcases List.mem_cons.1 hx with rfl | hx
    · simp
    · exact absurd e (h1 x hx)
  · rw [decide_eq_false e]
    rcases List.mem_cons.1 hx with rfl | hx
    · exact absurd rfl e
    · exact ih h2 hx
theorem nA {l:List α} {s:ByteArray} {x:α} (h:l.find? (fun y=>decide (key y=s))=some x):key x=s∧x ∈ l:=⟨by simpa using List.find?_some h,List.mem_of_find?_eq_some h⟩
theorem xu {rows set:List α} {gone:List ByteArray} {s:ByteArray} {x:α} (h:eA key rows gone set s=some x):key x=s:=by
 unfold eA at h
 cases hf:set.find? (fun y=>decide (key y=s)) with
 | some y=>rw [hf] at h; injection h with h; subst h; exact (nA hf).1
 | none=>
  rw [hf] at h
  dsimp only at h
  split at h
  · cases h
  · exact (nA h).1
theorem zq {rows set:List α} {gone:List ByteArray} {l:List α} (hr:aK key rows) (hs:aK key set) (hl:aK key l)
 (hm:∀ z,z ∈ l↔eA key rows gone set (key z)=some z):l=bV key rows set gone:=by
 obtain⟨i1,i2⟩:=zo set (rows.filter fun x=>!gone.any fun s=>decide (s=key x)) (List.Pairwise.filter _ hr) (cF hs)
 refine lX hl i1 fun z=>?_
 rw [hm]
 unfold bV
 rw [i2]
 unfold eA
 cases hf:set.find? (fun y=>decide (key y=key z)) with
 | some y=>
  obtain⟨e,hy⟩:=nA hf
  constructor
  · intro h
    injection h with h
    subst h
    exact .inl hy
  · rintro (h | ⟨_,h⟩)
    · rw [jW (cF hs) h] at hf; exact hf.symm
    · exact absurd e.symm (h y hy)
 | none=>
  have hn:∀ s ∈ set,key z≠key s:=fun s hs' e=>by
   have:=List.find?_eq_none.1 hf s hs'
   simp [e] at this
  dsimp only
  rw [List.mem_filter]
  constructor
  · intro h
    split at h
    · cases h
    · rename_i hg
      exact .inr ⟨⟨(nA h).2,by show (!gone.any fun s=>decide (s=key z))=true; rw [Bool.eq_false_iff.2 hg]; rfl⟩,hn⟩
  · rintro (h | ⟨⟨h,hg⟩,_⟩)
    · exact absurd rfl (hn z h)
    · rw [if_neg (by intro h'; rw [h'] at hg; cases hg)]
      exact jW (cF hr) h
end
def jX (s:ak) (d:aM):ak:=⟨d.to_,bV aA.name s.jobs d.jobs d.gj,bV av.name s.nodes d.nodes d.gn,bV ah.job s.leases d.leases d.gl⟩
def gC (s:ak) (d:aM):ak × Int:=
 if aG s≠0 then (dE,aG s) else if cD d≠0 then (dE,cD d) else if d.from_≠s.rev then (dE,10)
 else if (aY aA.name s.jobs d.gj || aY av.name s.nodes d.gn || aY ah.job s.leases d.gl)=true then (dE,6)
 else if aG (jX s d)≠0 then (dE,aG (jX s d)) else (jX s d,0)
end Go.Proofs.YtoeejfhdjmkpcaaGreatDoor
/- The place of a name in a table that is in order: plain. -/
namespace Go.Proofs.YtoeejfhdjmkpcaaGreatDoor
open Go.Lib (hid)
section
variable {α:Type} (key:α→ByteArray)
def dG (l:List α) (s:ByteArray):Nat:=(l.takeWhile fun a=>dz (key a) s).length
def isL (l:List α) (s:ByteArray):Bool:=match l[dG key l s]? with
 | some a=>decide (key a=s)
 | none=>false
def gR (l:List α) (s:ByteArray) (i j:Nat):Prop:=i≤j∧j≤l.length∧(∀ a ∈ l.take i,dz (key a) s=true)∧∀ a ∈ l.drop j,dz (key a) s=false
variable {key}
theorem gR.start (l:List α) (s:ByteArray):gR key l s 0 l.length:=⟨Nat.zero_le _,Nat.le_refl _,by simp,by simp⟩
theorem gR.low {l:List α} {s:ByteArray} {i j h:Nat} (H:gR key l s i j) (hs:aK key l) (h2:h<j) {x:α} (hx:l[h]? = some x) (hk:dz (key x) s=true):gR key l s (h+1) j:=by
 refine⟨h2,H.2.1,fun a ha=>?_,H.2.2.2⟩
 obtain⟨hlt,rfl⟩:=List.getElem?_eq_some_iff.1 hx
 obtain⟨k,hkl,rfl⟩:=List.mem_iff_getElem.1 ha
 rw [List.length_take] at hkl
 rw [List.getElem_take]
 by_cases e:k=h
 · subst e; exact hk
 · exact iy (List.pairwise_iff_getElem.1 hs k h (by omega) hlt (by omega)) hk
theorem gR.high {l:List α} {s:ByteArray} {i j h:Nat} (H:gR key l s i j) (hs:aK key l) (h1:i≤h) {x:α} (hx:l[h]? = some x) (hk:dz (key x) s=false):gR key l s i h:=by
 obtain⟨hlt,rfl⟩:=List.getElem?_eq_some_iff.1 hx
 refine⟨h1,by omega,H.2.2.1,fun a ha=>?_⟩
 obtain⟨k,hkl,rfl⟩:=List.mem_iff_getElem.1 ha
 rw [List.length_drop] at hkl
 rw [List.getElem_drop]
 cases hc:dz (key l[h+k]) s with
 | false=>rfl
 | true=>
  by_cases e:k=0
  · subst e; simp only [Nat.add_zero] at hc; rw [hc] at hk; cases hk
  · have:=iy (List.pairwise_iff_getElem.1 hs h (h+k) hlt (by omega) (by omega)) hc
    rw [hk] at this; cases this
theorem oJ {p:α→Bool}:∀ (l:List α) (i:Nat),i≤l.length→(∀ a ∈ l.take i,p a=true)→(∀ a ∈ l.drop i,p a=false)→l.takeWhile p=l.take i
 | [],i,hi,_,_=>by simp
 | a :: l,0,_,_,h=>by
  have:=h a (by simp)
  simp [List.takeWhile_cons,this]
 | a :: l,i+1,hi,h1,h2=>by
  have ha:=h1 a (by simp)
  rw [List.takeWhile_cons,ha,List.take_succ_cons]
  simp only [if_true]
  rw [oJ l i (by simpa using hi) (fun b hb=>h1 b (by simp [hb])) (fun b hb=>h2 b (by simpa using hb))]
theorem gR.pos {l:List α} {s:ByteArray} {i:Nat} (H:gR key l s i i):dG key l s=i:=by
 unfold dG
 rw [oJ l i H.2.1 H.2.2.1 H.2.2.2,List.length_take]
 have:=H.2.1
 omega
theorem sL (l:List α) (s:ByteArray):dG key l s≤l.length:=by
 unfold dG
 exact (List.takeWhile_prefix _).length_le
theorem takeWhile_take (p:α→Bool):∀ l:List α,l.takeWhile p=l.take (l.takeWhile p).length
 | []=>rfl
 | a :: l=>by
  rw [List.takeWhile_cons]
  split
  · rw [List.length_cons,List.take_succ_cons,← takeWhile_take p l]
  · rfl
theorem oW {l:List α} {s:ByteArray}:∀ a ∈ l.take (dG key l s),dz (key a) s=true:=by
 intro a ha
 unfold dG at ha
 rw [← takeWhile_take] at ha
 have:=List.all_takeWhile (l:=l) (p:=fun a=>dz (key a) s)
 rw [List.all_eq_true] at this
 exact this a ha
theorem oX (p:α→Bool):∀ (l:List α) (x:α),l[(l.takeWhile p).length]? = some x→p x=false
 | [],x,h=>by simp at h
 | a :: l,x,h=>by
  rw [List.takeWhile_cons] at h
  split at h
  · rw [List.length_cons,List.getElem?_cons_succ] at h
    exact oX p l x h
  · rename_i hp
    rw [List.length_nil,List.getElem?_cons_zero] at h
    injection h with h
    subst h
    simpa using hp
theorem zu {l:List α} {s:ByteArray} {x:α} (h:l[dG key l s]? = some x):dz (key x) s=false:=oX _ l x h
theorem CO {l:List α} {s:ByteArray} (hs:aK key l):∀ a ∈ l.drop (dG key l s),dz (key a) s=false:=by
 intro a ha
 obtain⟨k,hkl,rfl⟩:=List.mem_iff_getElem.1 ha
 rw [List.length_drop] at hkl
 have hp:dG key l s<l.length:=by omega
 have h0:=zu (List.getElem?_eq_getElem hp)
 have H:gR key l s (dG key l s) l.length:=⟨sL _ _,Nat.le_refl _,oW,by simp⟩
 have H2:=H.high hs (Nat.le_refl _) (List.getElem?_eq_getElem hp) h0
 exact H2.2.2.2 _ ha
theorem qh {l:List α} {s:ByteArray} (hs:aK key l) (his:isL key l s=false):∀ a ∈ l.drop (dG key l s),key a≠s:=by
 intro a ha e
 obtain⟨k,hkl,rfl⟩:=List.mem_iff_getElem.1 ha
 rw [List.length_drop] at hkl
 have hp:dG key l s<l.length:=by omega
 rw [List.getElem_drop] at e
 unfold isL at his
 rw [List.getElem?_eq_getElem hp] at his
 have hne:key l[dG key l s]≠s:=by simpa using his
 by_cases h0:k=0
 · subst h0; exact hne e
 · have h1:=List.pairwise_iff_getElem.1 hs (dG key l s) (dG key l s+k) hp (by omega) (by omega)
   have h2:=zu (List.getElem?_eq_getElem hp)
   rw [e,h2] at h1; cases h1
theorem lY {l:List α} {s:ByteArray}:∀ a ∈ l.take (dG key l s),key a≠s:=fun a ha e=>by
 have:=oW a ha
 rw [e,dJ] at this; cases this
theorem l7 {l:List α} {s:ByteArray} (h:isL key l s=true):∃ x,l[dG key l s]? = some x∧key x=s:=by
 unfold isL at h
 cases hx:l[dG key l s]? with
 | none=>rw [hx] at h; cases h
 | some x=>rw [hx] at h; exact⟨x,rfl,by simpa using h⟩
theorem oY {l:List α} {s:ByteArray} (hs:aK key l) (his:isL key l s=true):∀ a ∈ l.drop (dG key l s+1),dz s (key a)=true:=by
 intro a ha
 obtain⟨x,hx,hk⟩:=l7 his
 obtain⟨hlt,rfl⟩:=List.getElem?_eq_some_iff.1 hx
 obtain⟨k,hkl,rfl⟩:=List.mem_iff_getElem.1 ha
 rw [List.length_drop] at hkl
 rw [List.getElem_drop]
 have:=List.pairwise_iff_getElem.1 hs (dG key l s) (dG key l s+1+k) hlt (by omega) (by omega)
 rwa [hk] at this
theorem nB {l:List α} {s:ByteArray} (hs:aK key l):isL key l s=(l.find? fun a=>decide (key a=s)).isSome:=by
 cases h:isL key l s with
 | true=>
  obtain⟨x,hx,hk⟩:=l7 h
  symm
  rw [List.find?_isSome]
  exact⟨x,List.mem_of_getElem? hx,by simpa using hk⟩
 | false=>
  symm
  rw [← Bool.not_eq_true,List.find?_isSome]
  rintro⟨a,ha,hk⟩
  have hk':key a=s:=by simpa using hk
  rw [← List.take_append_drop (dG key l s) l] at ha
  rcases List.mem_append.1 ha with h1 | h1
  · exact lY a h1 hk'
  · exact qh hs h a h1 hk'
theorem JL {l:List α} {s:ByteArray} (hs:aK key l) {x:α} (hx:l[dG key l s]? = some x) (hk:key x=s):(l.find? fun a=>decide (key a=s))=some x:=by
 have:=jW (cF hs) (List.mem_of_getElem? hx)
 rwa [hk] at this
theorem oZ {l:List α} {x:α} (hs:aK key l):iN key l x=if isL key l (key x)=true then l.take (dG key l (key x)) ++ x :: l.drop (dG key l (key x)+1) else l.take (dG key l (key x)) ++ x :: l.drop (dG key l (key x)):=by
 refine lX (sorted_put x l hs) ?_ fun z=>?_
 · have hp:∀ r:List α,aK key r→(∀ a ∈ r,dz (key x) (key a)=true)→aK key (l.take (dG key l (key x)) ++ x :: r):=by
    intro r hr hx
    refine List.pairwise_append.2 ⟨hs.sublist (List.take_sublist _ _),List.pairwise_cons.2 ⟨hx,hr⟩,fun a ha b hb=>?_⟩
    have h1:=oW a ha
    rcases List.mem_cons.1 hb with rfl | hb
    · exact h1
    · exact iy h1 (hx b hb)
   split
   · rename_i h
     exact hp _ (hs.sublist (List.drop_sublist _ _)) (oY hs h)
   · rename_i h
     rw [Bool.not_eq_true] at h
     exact hp _ (hs.sublist (List.drop_sublist _ _)) fun a ha=>iM (CO hs a ha) (qh hs h a ha)
 · show z ∈ gW key x false l↔_
   rw [gy]
   have hl:z ∈ l↔z ∈ l.take (dG key l (key x))∨z ∈ l.drop (dG key l (key x)):=by
    conv=>lhs; rw [← List.take_append_drop (dG key l (key x)) l]
    exact List.mem_append
   split
   · rename_i h
     obtain⟨y,hy,hk⟩:=l7 h
     have hd:l.drop (dG key l (key x))=y :: l.drop (dG key l (key x)+1):=drop_cons hy
     rw [hl,hd]
     simp only [List.mem_append,List.mem_cons,true_and]
     constructor
     · rintro (h1 | ⟨h1 | h1 | h1,h2⟩)
       · exact .inr (.inl h1)
       · exact .inl h1
       · subst h1; exact absurd hk h2
       · exact .inr (.inr h1)
     · rintro (h1 | h1 | h1)
       · exact .inr ⟨.inl h1,lY z h1⟩
       · exact .inl h1
       · exact .inr ⟨.inr (.inr h1),fun e=>by have:=oY hs h z h1; rw [e,dJ] at this; cases this⟩
   · rename_i h
     rw [Bool.not_eq_true] at h
     rw [hl]
     simp only [List.mem_append,List.mem_cons,true_and]
     constructor
     · rintro (h1 | ⟨h1 | h1,h2⟩)
       · exact .inr (.inl h1)
       · exact .inl h1
       · exact .inr (.inr h1)
     · rintro (h1 | h1 | h1)
       · exact .inr ⟨.inl h1,lY z h1⟩
       · exact .inl h1
       · exact .inr ⟨.inr h1,qh hs h z h1⟩
theorem xD {l:List α} {s:ByteArray} (hs:aK key l):l.filter (fun a=>!decide (key a=s))=if isL key l s=true then l.take (dG key l s) ++ l.drop (dG key l s+1) else l:=by
 have hf:∀ r:List α,(∀ a ∈ r,key a≠s)→r.filter (fun a=>!decide (key a=s))=r:=fun r hr=>List.filter_eq_self.2 fun a ha=>by simpa using hr a ha
 split
 · rename_i h
   obtain⟨x,hx,hk⟩:=l7 h
   have hd:l.drop (dG key l s)=x :: l.drop (dG key l s+1):=drop_cons hx
   conv=>lhs; rw [← List.take_append_drop (dG key l s) l,hd]
   rw [List.filter_append,List.filter_cons,hf _ lY,hf _ (fun a ha e=>by have:=oY hs h a ha; rw [e,dJ] at this; cases this)]
   simp [hk]
 · rename_i h
   rw [Bool.not_eq_true] at h
   refine hf _ fun a ha=>?_
   rw [← List.take_append_drop (dG key l s) l] at ha
   rcases List.mem_append.1 ha with h1 | h1
   · exact lY a h1
   · exact qh hs h a h1
theorem o7 {l:List α} {x:α} (hs:aK key l):(iN key l x).length≤l.length+1:=by
 rw [oZ hs]
 have:=sL (key:=key) l (key x)
 split <;> simp <;> omega
end
end Go.Proofs.YtoeejfhdjmkpcaaGreatDoor
/- cmp.Compare at texts. -/
namespace Go.Proofs.YtoeejfhdjmkpcaaGreatDoor
open Go.Lib (hid)
open Go.RowKit
open Go.Op (bytesLess)
def kD (a b:ByteArray):Int:=if dz a b=true then -1 else if dz b a=true then 1 else 0
theorem ER {a b:ByteArray} (h:dz a b=true):kD a b = -1:=by unfold kD; rw [if_pos h]
theorem ES {a b:ByteArray} (h:dz a b=false) (h2:dz b a=true):kD a b=1:=by unfold kD; rw [if_neg (by simp [h]),if_pos h2]
theorem ET {a b:ByteArray} (h:dz a b=false) (h2:dz b a=false):kD a b=0:=by unfold kD; rw [if_neg (by simp [h]),if_neg (by simp [h2])]
theorem oQ {a b:ByteArray}:kD a b<0↔dz a b=true:=by
 unfold kD
 by_cases h:dz a b=true
 · simp [h]
 · by_cases h2:dz b a=true <;> simp [h,h2]
theorem um {a b:ByteArray}:kD a b=0↔a=b:=by
 unfold kD
 by_cases h:dz a b=true
 · rw [if_pos h]
   exact⟨fun h'=>by omega,fun e=>by rw [e,dJ] at h; cases h⟩
 · rw [if_neg h]
   by_cases h2:dz b a=true
   · rw [if_pos h2]
     exact⟨fun h'=>by omega,fun e=>by rw [e,dJ] at h2; cases h2⟩
   · rw [if_neg h2]
     refine⟨fun _=>?_,fun _=>rfl⟩
     by_cases e:a=b
     · exact e
     · exact absurd (iM (by simpa using h) e) h2
theorem uD (a:ByteArray) (w:World):Calls Tryz.prog 267 #[.string a] w fun e w'=>e = .returned (.bool false)∧w=w':=by
 have h0:(a.toList == a.toList)=true:=beq_self_eq_true _
 have h1:(a.toList != a.toList)=false:=by simp
 go_enter Tryz.func267,Tryz.ntmps267
 go_wp2
 go_ret
 exact⟨rfl,rfl⟩
theorem mK (a b:ByteArray) (w:World):Calls Tryz.prog 174 #[.string a,.string b] w fun e w'=>e = .returned (.int .i64 (kD a b))∧w=w':=by
 cases h:dz a b with
 | true=>
  rw [ER h]
  have h':bytesLess a.toList b.toList=true:=h
  clear h
  go_enter Tryz.func174,Tryz.ntmps174
  go_wp2_with (go_at_call 267; refine (uD _ _).mono ?_; rintro e w' ⟨rfl,rfl⟩)
  go_ret
  exact⟨rfl,rfl⟩
 | false=>
  cases h2:dz b a with
  | true=>
   rw [ES h h2]
   have h':bytesLess a.toList b.toList=false:=h
   have h2':bytesLess b.toList a.toList=true:=h2
   have hq:(a.toList == b.toList)=false:=beq_eq_false_iff_ne.2 fun e=>by rw [e,kG] at h2'; cases h2'
   clear h h2
   go_enter Tryz.func174,Tryz.ntmps174
   go_wp2_with (go_at_call 267; refine (uD _ _).mono ?_; rintro e w' ⟨rfl,rfl⟩)
   go_ret
   exact⟨rfl,rfl⟩
  | false=>
   rw [ET h h2]
   have h':bytesLess a.toList b.toList=false:=h
   have h2':bytesLess b.toList a.toList=false:=h2
   have hq:(a.toList == b.toList)=true:=by
    have:=dY a.toList b.toList
    rw [h',h2'] at this
    rw [beq_iff_eq]
    exact (beq_iff_eq.1 (by simpa using this)).symm
   clear h h2
   go_enter Tryz.func174,Tryz.ntmps174
   go_wp2_with (go_at_call 267; refine (uD _ _).mono ?_; rintro e w' ⟨rfl,rfl⟩)
   go_ret
   exact⟨rfl,rfl⟩
end Go.Proofs.YtoeejfhdjmkpcaaGreatDoor
