/- Of the proof of a statement: CopyK, RowsP. -/
import Derived.Laws.CopyRow
import Derived.Laws.IdiomCopy
import Derived.Lib.AppendZerosOnto
import Derived.Lib.SliceRun
import Derived.Deep.RegionLaw
import Derived.Lib.QuietBelow
import Derived.Deep.QuietTactic
import Derived.BigQuiet
import Derived.Test.YtbllgmociapjeaaGreatDoorVRTab
set_option linter.unusedVariables false
set_option linter.unusedSimpArgs false
set_option maxRecDepth 100000
set_option maxHeartbeats 8000000
/- copy, clear and append of make over rows of the call's own, whose elements hold several cells each. -/
namespace Go.Proofs.YtbllgmociapjeaaGreatDoor
open Go.Lib (hid)
open Go.RowKit
section
variable {P:Program}
theorem cK (w:World) (dT sT ty elem:TypeId) (sz:Nat) (g o dLen dCap:Nat) (a:Addr) (sLen sCap:Nat) (cur:Array Value) (t:TypeId) (cs:List Value)
 (hu:P.underlying dT=some (.slice elem)) (hs:(P.info? elem).map (·.size)=some sz)
 (hg:w.heap[g]? = some (.cells cur t (0,0))) (hn:cs.length=Nat.min sLen dLen*sz)
 (hsrc:∀ j v,cs[j]? = some v→w.cell? (a.add j)=some v) (hfit:o+cs.length≤cur.size) (h1:∀ v ∈ cs,v.oneCell'=true) :
 (Builtin.copy_ #[dT,sT] ty #[.slice (some ⟨g,o,none⟩) dLen dCap,.slice (some a) sLen sCap]).run P w =
  .ok (.int .i64 (Nat.min sLen dLen:Nat)) (w.setRow g (cur.toList.take o ++ cs ++ cur.toList.drop (o+cs.length)).toArray):=by
 have hl:=run_loadCells_list (P:=P) w a cs hsrc
 have hst:=run_storeCells_at P g o t cs 0 cur w hg (by simpa using hfit) h1
 cases hq:P.info? elem with
 | none=>simp [hq] at hs
 | some i=>
  have hi:i.size=sz:=by simpa [hq] using hs
  simp [Builtin.copy_,run_underlying hu,Builtin.lenOf,Builtin.firstCells,sizeOf,typeInfo,hq,hi,← hn,hl,hst]
  rfl
theorem kG (w:World) (t ty e:TypeId) (sz:Nat) (ht:P.underlying t=some (.slice e)) (hs:(P.info? e).map (·.size)=some sz) (g n cap:Nat) (a:Addr) (m c:Nat) (cur:Array Value) (te:TypeId) (cs:List Value)
 (hg:w.heap[g]? = some (.cells cur te (0,0))) (hl:cs.length=m*sz) (hsrc:∀ j v,cs[j]? = some v→w.cell? (a.add j)=some v) (hroom:n+m≤cap) (hfit:n*sz+cs.length≤cur.size) (h1:∀ v ∈ cs,v.oneCell'=true) :
 (Builtin.append_ #[t,t] ty #[.slice (some ⟨g,0,none⟩) n cap,.slice (some a) m c]).run P w = .ok (.slice (some ⟨g,0,none⟩) (n+m) cap) (w.setRow g (cur.toList.take (n*sz) ++ cs ++ cur.toList.drop (n*sz+cs.length)).toArray):=by
 have hst:=run_storeCells_at P g (n*sz) te cs 0 cur w hg (by simpa using hfit) h1
 cases hq:P.info? e with
 | none=>simp [hq] at hs
 | some i=>
  have hi:i.size=sz:=by simpa [hq] using hs
  subst hi
  have hf:=run_firstCells_some (P:=P) w i.size m a m c cs hl hsrc
  have ea:(⟨g,0,none⟩:Addr).add (n*i.size)=⟨g,n*i.size,none⟩:=by unfold Addr.add; split <;> simp_all
  simp [Builtin.append_,run_underlying ht,sizeOf,typeInfo,hq,Builtin.lenOf,hroom,hf,ea,hst]
theorem eH (z:Array Value) (n:Nat):(Builtin.zeroCells z n).toList.length=n*z.size:=by simp [Builtin.zeroCells]
theorem fH (z:Array Value) (n:Nat) (h:∀ u ∈ z.toList,u.oneCell'=true):∀ u ∈ (Builtin.zeroCells z n).toList,u.oneCell'=true:=by
 intro u hu
 unfold Builtin.zeroCells at hu
 rw [Array.toList_map] at hu
 obtain⟨i,hi,rfl⟩:=List.mem_map.1 hu
 have hi':i<n*z.size:=by simpa using hi
 have hz:0<z.size:=by
  rcases Nat.eq_zero_or_pos z.size with h0 | h0
  · rw [h0,Nat.mul_zero] at hi'; omega
  · exact h0
 rw [getElem!_pos z (i % z.size) (Nat.mod_lt _ hz)]
 exact h _ (Array.getElem_mem_toList _)
theorem eY (w:World) (t e ty:TypeId) (z:Value) (g o n c:Nat) (ht:P.underlying t=some (.slice e)) (hv:∀ w,(zeroValue e).run P w = .ok z w) (h1:∀ u ∈ (Builtin.zeroCells z.cells n).toList,u.oneCell'=true) (hn:0<n) (cur:Array Value) (te:TypeId)
 (hg:w.heap[g]? = some (.cells cur te (0,0))) (hfit:o+n*z.cells.size≤cur.size) :
 (Builtin.clear_ #[t] ty #[.slice (some ⟨g,o,none⟩) n c]).run P w = .ok (.tuple #[]) (w.setRow g (cur.toList.take o ++ (Builtin.zeroCells z.cells n).toList ++ cur.toList.drop (o+(Builtin.zeroCells z.cells n).toList.length)).toArray):=by
 have hst:=run_storeCells_at P g o te (Builtin.zeroCells z.cells n).toList 0 cur w hg (by rw [eH]; simpa using hfit) h1
 obtain⟨m,rfl⟩:∃ m,n=m+1:=⟨n - 1,by omega⟩
 simp only [Nat.add_zero] at hst
 simp [Builtin.clear_,run_underlying ht,hv,hst]
end
structure cL (w:World) (base:Nat) (e:TypeId) (sz g cap:Nat) (cur:Array Value):Prop where
 ge:base≤g
 blk:w.heap[g]? = some (.cells cur e (0,0))
 cap_:cap≤maxLen
 size:cur.size=cap*sz
theorem cL.of {w:World} {base n g cap sz:Nat} {e:TypeId} {xs:List Value} (h:w.ownsRow base e sz (.slice (some ⟨g,0,none⟩) n cap) n xs):∃ cur,cL w base e sz g cap cur∧n≤cap∧cur.toList.take (n*sz)=xs:=by
 rcases h.2 with ⟨h1,_⟩ | ⟨g',cap',cur,hv,h1,h2,h3,h4,h5,h6⟩
 · cases h1
 · injection hv with a b c
   injection a with a
   injection a with a
   subst a; subst c
   exact⟨cur,⟨h1,h2,h4,h5⟩,h3,h6⟩
theorem cL.own {w:World} {base g cap sz:Nat} {e:TypeId} {cur:Array Value} (h:cL w base e sz g cap cur) {n:Nat} (hn:n≤cap) {xs:List Value} (hx:cur.toList.take (n*sz)=xs):w.ownsRow base e sz (.slice (some ⟨g,0,none⟩) n cap) n xs:=by
 subst hx
 refine⟨?_,.inr ⟨g,cap,cur,rfl,h.ge,h.blk,hn,h.cap_,h.size,rfl⟩⟩
 rw [List.length_take,Array.length_toList,h.size]
 have:=Nat.mul_le_mul_right sz hn
 omega
theorem cL.set {w:World} {base g cap sz:Nat} {e:TypeId} {cur:Array Value} (h:cL w base e sz g cap cur) (cur':Array Value) (hs:cur'.size=cap*sz):cL (w.setRow g cur') base e sz g cap cur':=
 ⟨h.ge,setRow_heap w g cur cur' e _ h.blk,h.cap_,hs⟩
theorem qO (w:World) (g:Nat) (cur:Array Value):w.grownBy (w.setRow g cur) (some g):=⟨rfl,rfl,rfl,by simp [World.setRow],fun k _ hk=>setRow_other w g k cur (fun e=>hk (by simp [e]))⟩
theorem jh (w:World) (g n n' c c':Nat) (cur:Array Value):bZ w (w.setRow g cur) (.slice (some ⟨g,0,none⟩) n c) (.slice (some ⟨g,0,none⟩) n' c'):=
 ⟨qO w g cur,.inl rfl⟩
theorem eN (w:World) (g n n' c c':Nat) (cur:Array Value):bZ w (w.drew.setRow g cur) (.slice (some ⟨g,0,none⟩) n c) (.slice (some ⟨g,0,none⟩) n' c'):=
 ⟨⟨rfl,rfl,rfl,by simp [World.setRow],fun k _ hk=>setRow_other w.drew g k cur (fun e=>hk (by simp [Value.ownBlock,e]))⟩,.inl rfl⟩
theorem cL.cells {w:World} {base g cap sz:Nat} {e:TypeId} {cur:Array Value} (h:cL w base e sz g cap cur) (o:Nat):∀ j v,(cur.toList.drop o)[j]? = some v→w.cell? ((⟨g,o,none⟩:Addr).add j)=some v:=fun j v hv=>by
 have ea:(⟨g,o,none⟩:Addr).add j=⟨g,o+j,none⟩:=by unfold Addr.add; split <;> simp_all
 rw [ea,cell_of_row w g (o+j) cur e (0,0) h.blk]
 rw [List.getElem?_drop,Array.getElem?_toList] at hv
 exact hv
theorem rQ {P:Program} (w:World) {o:Oper} {a:Act} {K:Act→World→Prop} {Q:Exit→Act→World→Prop} (d s:Operand) (t t':TypeId)
 (ho:o.op = .call { callee:=.builtin .copy,args:=#[d,s],argTypes:=#[t,t'] }) (v u:Value) (hd:a.eval d=v) (hs:a.eval s=u) {v':Value} {w':World}
 (hr:(Builtin.copy_ #[t,t'] o.type #[v,u]).run P w = .ok v' w') (h:K (a.put o.dst v') w'):o.wp P a w K Q:=by
 unfold Oper.wp execOp
 simp only [ho,resolve,invoke,builtin,Sem.run_bind,Sem.run_pure,Result.andThen_ok,List.map_toArray,List.map_cons,List.map_nil,hd,hs,hr]
 exact h
theorem eS {P:Program} (w:World) {ops:Array Oper} {rest:List Oper} {o:Oper} {a:Act} {Q:Exit→Act→World→Prop} (hgd:o.guard=none) (d s:Operand) (t t':TypeId)
 (ho:o.op = .call { callee:=.builtin .copy,args:=#[d,s],argTypes:=#[t,t'] }) (v u:Value) (hd:a.eval d=v) (hs:a.eval s=u) {v':Value} {w':World}
 (hr:(Builtin.copy_ #[t,t'] o.type #[v,u]).run P w = .ok v' w') (h:wpList P ops Q rest (a.put o.dst v') w'):wpList P ops Q (o :: rest) a w:=
 wpList_plain hgd fun _ hK=>rQ w d s t t' ho v u hd hs hr (hK _ _ h)
theorem fS {P:Program} {ops:Array Oper} {o:Oper} {a:Act} {w:World} {K:Act→World→Prop} {Q:Exit→Act→World→Prop} {E:Prop}
 (hg:o.guard=none) (d x:Operand) (dT sT:TypeId) (hop:o.op=Op.call { callee:=Callee.builtin Builtin.copy,args:=#[d,x],argTypes:=#[dT,sT] })
 (v u:Value) (hd:a.eval d=v) (hx:a.eval x=u) {v':Value} {w':World} (hr:(Builtin.copy_ #[dT,sT] o.type #[v,u]).run P w = .ok v' w') (hK:K (a.put o.dst v') w') :
 if Region.wanted o (yielded ops a.tmps)=true then Oper.wp P o a w K Q else E:=by
 have hw:Region.wanted o (yielded ops a.tmps)=true:=by simp [Region.wanted,hg]
 rw [if_pos hw]
 exact rQ w d x dT sT hop v u hd hx hr hK
theorem jH {P:Program} {ops:Array Oper} {o:Oper} {a:Act} {w:World} {K:Act→World→Prop} {Q:Exit→Act→World→Prop} {E:Prop}
 (hg:o.guard=none) (d x:Operand) (dT sT:TypeId) (hop:o.op=Op.call { callee:=Callee.builtin Builtin.append,args:=#[d,x],argTypes:=#[dT,sT] })
 (v u:Value) (hd:a.eval d=v) (hx:a.eval x=u) {v':Value} {w':World} (hr:(Builtin.append_ #[dT,sT] o.type #[v,u]).run P w = .ok v' w') (hK:K (a.put o.dst v') w') :
 if Region.wanted o (yielded ops a.tmps)=true then Oper.wp P o a w K Q else E:=by
 have hw:Region.wanted o (yielded ops a.tmps)=true:=by simp [Region.wanted,hg]
 rw [if_pos hw]
 unfold Oper.wp execOp
 simp only [hop,resolve,invoke,builtin,Sem.run_bind,Sem.run_pure,Result.andThen_ok,List.map_toArray,List.map_cons,List.map_nil,hd,hx,hr]
 exact hK
theorem bY {P:Program} (w:World) {ops:Array Oper} {rest:List Oper} {o:Oper} {a:Act} {Q:Exit→Act→World→Prop} (hgd:o.guard=none) (s:Operand) (t:TypeId)
 (ho:o.op = .call { callee:=.builtin .clear,args:=#[s],argTypes:=#[t] }) (v:Value) (hs:a.eval s=v) {v':Value} {w':World}
 (hr:(Builtin.clear_ #[t] o.type #[v]).run P w = .ok v' w') (h:wpList P ops Q rest (a.put o.dst v') w'):wpList P ops Q (o :: rest) a w:=by
 refine wpList_plain hgd fun _ hK=>?_
 unfold Oper.wp execOp
 simp only [ho,resolve,invoke,builtin,Sem.run_bind,Sem.run_pure,Result.andThen_ok,List.map_toArray,List.map_cons,List.map_nil,hs,hr]
 exact hK _ _ h
theorem cI {α:Type} {enc:α→List Value} {sz:Nat} (h:∀ a,(enc a).length=sz):∀ (l:List α) (k:Nat),(au enc l).take (k*sz)=au enc (l.take k)
 | [],k=>by simp [au]
 | a :: l,0=>by simp [au]
 | a :: l,k+1=>by
  show (enc a ++ au enc l).take ((k+1)*sz)=enc a ++ au enc (l.take k)
  rw [List.take_append,h,show (k+1)*sz - sz=k*sz by rw [Nat.add_mul]; omega,cI h l k,List.take_of_length_le (by rw [h,Nat.add_mul]; omega)]
theorem dU {α:Type} {enc:α→List Value} {sz:Nat} (h:∀ a,(enc a).length=sz):∀ (l:List α) (k:Nat),(au enc l).drop (k*sz)=au enc (l.drop k)
 | [],k=>by simp [au]
 | a :: l,0=>by simp [au]
 | a :: l,k+1=>by
  show (enc a ++ au enc l).drop ((k+1)*sz)=au enc (l.drop k)
  rw [List.drop_append,h,show (k+1)*sz - sz=k*sz by rw [Nat.add_mul]; omega,dU h l k,List.drop_eq_nil_of_le (by rw [h,Nat.add_mul]; omega),List.nil_append]
theorem qm {L X R:List Value} {a b s:Nat} (hab:a≤b) (hb:b+s≤L.length) (hX:X.length=s) (hR:L.take b=R) :
 (((L.take (a+s) ++ (L.drop a).take (b - a) ++ L.drop (a+s+(b - a))).take a) ++ X ++ (L.take (a+s) ++ (L.drop a).take (b - a) ++ L.drop (a+s+(b - a))).drop (a+s)).take (b+s)=R.take a ++ X ++ R.drop a:=by
 have l1:(L.take (a+s)).length=a+s:=by rw [List.length_take]; omega
 have l2:((L.drop a).take (b - a)).length=b - a:=by rw [List.length_take,List.length_drop]; omega
 have e1:(L.take (a+s) ++ (L.drop a).take (b - a) ++ L.drop (a+s+(b - a))).take a=R.take a:=by
  rw [List.append_assoc,List.take_append_of_le_length (by omega),List.take_take,← hR,List.take_take]
  congr 1; omega
 have e2:(L.take (a+s) ++ (L.drop a).take (b - a) ++ L.drop (a+s+(b - a))).drop (a+s)=(L.drop a).take (b - a) ++ L.drop (a+s+(b - a)):=by
  rw [List.append_assoc,List.drop_append,l1,Nat.sub_self,List.drop_zero,List.drop_eq_nil_of_le (by omega),List.nil_append]
 have e3:(L.drop a).take (b - a)=R.drop a:=by rw [← hR,List.drop_take]
 have l3:(R.take a).length=a:=by rw [← hR,List.length_take,List.length_take]; omega
 rw [e1,e2,← List.append_assoc,List.take_append_of_le_length (by simp only [List.length_append,l3,hX,l2]; omega),List.take_of_length_le (by simp only [List.length_append,l3,hX,l2]; omega),e3]
theorem sM {L X D:List Value} {a s:Nat} (hL:a+s+D.length≤L.length) (hX:X.length=s) :
 ((L.take a ++ X ++ L.drop (a+s)).take (a+s) ++ D ++ (L.take a ++ X ++ L.drop (a+s)).drop (a+s+D.length)).take (a+s+D.length)=L.take a ++ X ++ D:=by
 have l1:(L.take a ++ X).length=a+s:=by rw [List.length_append,List.length_take,hX]; omega
 have e1:(L.take a ++ X ++ L.drop (a+s)).take (a+s)=L.take a ++ X:=by
  rw [List.take_append_of_le_length (by omega),List.take_of_length_le (by omega)]
 rw [e1,List.take_append_of_le_length (by rw [List.length_append,l1]; exact Nat.le_refl _),List.take_of_length_le (by rw [List.length_append,l1]; exact Nat.le_refl _)]
theorem pZ {L R:List Value} {a b s:Nat} (hab:a+s≤b) (hb:b≤L.length) (hR:L.take b=R) :
 (L.take a ++ (L.drop (a+s)).take (b - (a+s)) ++ L.drop (a+(b - (a+s)))).take (b - s)=R.take a ++ R.drop (a+s):=by
 have l1:(L.take a).length=a:=by rw [List.length_take]; omega
 have l2:((L.drop (a+s)).take (b - (a+s))).length=b - (a+s):=by rw [List.length_take,List.length_drop]; omega
 rw [List.take_append_of_le_length (by rw [List.length_append,l1,l2]; omega),List.take_of_length_le (by rw [List.length_append,l1,l2]; omega),← hR,List.drop_take,List.take_take,Nat.min_eq_left (by omega)]
end Go.Proofs.YtbllgmociapjeaaGreatDoor
/- The walks of Rows at jobs and at nodes, in the program. -/
namespace Go.Proofs.YtbllgmociapjeaaGreatDoor
open Go.Lib (hid)
open Go.RowKit
theorem gS (name:ByteArray) (prio:Int) (need:Int) (tries:Int) (tag:ByteArray) (w:World):Calls Tryz.prog 144 #[.agg #[.string name,.int .i64 prio,.int .i64 need,.int .i64 tries,.string tag]] w fun e w'=>e = .returned (.string name)∧Below w.heap.size w w':=by
 have HB:=hid ((Below.refl w.heap.size w).alloc (Nat.le_refl _) (.cells #[.string name,.int .i64 prio,.int .i64 need,.int .i64 tries,.string tag] 32))
 go_enter Tryz.func144,Tryz.ntmps144
 go_wp2
 go_ret
 exact⟨rfl,HB.out⟩
theorem fW (name:ByteArray) (room:Int) (zone:ByteArray) (w:World):Calls Tryz.prog 147 #[.agg #[.string name,.int .i64 room,.string zone]] w fun e w'=>e = .returned (.string name)∧Below w.heap.size w w':=by
 have HB:=hid ((Below.refl w.heap.size w).alloc (Nat.le_refl _) (.cells #[.string name,.int .i64 room,.string zone] 34))
 go_enter Tryz.func147,Tryz.ntmps147
 go_wp2
 go_ret
 exact⟨rfl,HB.out⟩
theorem tH (xs:List aC) (A:Option Addr) (n c:Nat) (w:World) (hx:aU w w.heap.size 5 A n (au aI xs)) (hl:xs.length=n) (hn:n≤9223372036854775807) (hok:mB xs) (hT:Tabs w) :
 Calls Tryz.prog 143 #[.slice A n c,.func (.func 144) #[] #[],.func (.func 145) #[] #[]] w fun e w'=>e = .returned (.int .i64 (bT fB aC.name xs))∧Below w.heap.size w w':=by
 obtain⟨R,hR⟩:∃ R,bT fB aC.name xs=R:=⟨_,rfl⟩
 rw [hR]
 have HR:=hid hR
 have Hl:=hid hl
 have HT:=hid hT
 have Hok:=hid hok
 clear hl hR hT hok
 go_enter Tryz.func143,Tryz.ntmps143
 go_wp2
 go_loopw [6,7,8,9,12,19,28,35] (fun _ _ _ _ i _ _ _ wr=>K7 xs n R w i wr) (fun _ _ _ _ i _ _ _ _=>n - (intOf i).toNat)
 case atStart=>exact⟨0,Nat.zero_le _,rfl,by rw [← HR.out]; rfl,Below.refl _ _⟩
 case round=>
  obtain⟨k,hk,rfl,hrow,hb⟩:=hrel
  have eM:=hid hrow
  have Hb:=hid hb
  have hsz:=hb.size
  clear hrow
  by_cases hlt:k<n
  · obtain⟨x,hf⟩:∃ x,xs[k]? = some x:=⟨_,List.getElem?_eq_getElem (by rw [Hl.out]; exact hlt)⟩
    obtain⟨b,off,rfl,hbB,hc⟩:=(hx.below hb).dB aV Hl.out hf
    have hso:=hid (Hok.out x (List.mem_of_getElem? hf))
    have Hf:=hid hf
    have hkey:x.name=aC.name x:=rfl
    obtain⟨E,hE⟩:∃ E,fB x=E:=⟨_,rfl⟩
    have HE:=hid hE
    obtain⟨X,hX⟩:∃ X,X=x:=⟨_,rfl⟩
    have HX:=hid hX
    obtain⟨name,prio,need,tries,tag⟩:=x
    have c0:wr.cell? ⟨b,off+k*5,none⟩=some (.string name):=hc 0 _ rfl
    have c1:wr.cell? ⟨b,off+k*5+1,none⟩=some (.int .i64 prio):=hc 1 _ rfl
    have c2:wr.cell? ⟨b,off+k*5+2,none⟩=some (.int .i64 need):=hc 2 _ rfl
    have c3:wr.cell? ⟨b,off+k*5+3,none⟩=some (.int .i64 tries):=hc 3 _ rfl
    have c4:wr.cell? ⟨b,off+k*5+4,none⟩=some (.string tag):=hc 4 _ rfl
    clear hc hf hE hX hkey
    have hlb:b<wr.heap.size:=by omega
    have hT1:=hid (HT.out.below (Hb.out.alloc Hb.out.size (.cells #[.string name,.int .i64 prio,.int .i64 need,.int .i64 tries,.string tag] 32)))
    have hBa:=hid (Hb.out.alloc Hb.out.size (.cells #[.string name,.int .i64 prio,.int .i64 need,.int .i64 tries,.string tag] 32))
    go_wp2_with fail
    refine Calls.mono (rM ⟨name,prio,need,tries,tag⟩ _ hso.out.1 hso.out.2 hT1.out) ?_
    rintro e w1 ⟨rfl,hb1⟩
    rw [HE.out]
    have hA0:=(Below.refl wr.heap.size wr).alloc (Nat.le_refl _) (.cells #[.string name,.int .i64 prio,.int .i64 need,.int .i64 tries,.string tag] 32)
    have hA1:=hA0.trans (hb1.mono hA0.size)
    have hB1:=hid (hBa.out.trans (hb1.mono hBa.out.size))
    by_cases he:E=0
    · subst he
      have l0:∀ d os,(Sort.grow (redrawn w1 d) os).cell? ⟨wr.heap.size,0,none⟩=some (.string name):=fun d os=>cell_regrown (by rw [(dI hb1).1 _ _ (by simp)]; simp [go_sem]) d os
      have l1:∀ d os,(Sort.grow (redrawn w1 d) os).cell? ⟨wr.heap.size,1,none⟩=some (.int .i64 prio):=fun d os=>cell_regrown (by rw [(dI hb1).1 _ _ (by simp)]; simp [go_sem]) d os
      have l2:∀ d os,(Sort.grow (redrawn w1 d) os).cell? ⟨wr.heap.size,2,none⟩=some (.int .i64 need):=fun d os=>cell_regrown (by rw [(dI hb1).1 _ _ (by simp)]; simp [go_sem]) d os
      have l3:∀ d os,(Sort.grow (redrawn w1 d) os).cell? ⟨wr.heap.size,3,none⟩=some (.int .i64 tries):=fun d os=>cell_regrown (by rw [(dI hb1).1 _ _ (by simp)]; simp [go_sem]) d os
      have l4:∀ d os,(Sort.grow (redrawn w1 d) os).cell? ⟨wr.heap.size,4,none⟩=some (.string tag):=fun d os=>cell_regrown (by rw [(dI hb1).1 _ _ (by simp)]; simp [go_sem]) d os
      by_cases hk0:k=0
      · subst hk0
        have hst:=hid (jm (key:=aC.name) Hf.out HE.out (.inl rfl))
        clear c0 c1 c2 c3 c4 hb1 hx hA0 hA1
        go_wp2_with fail
        refine wp_region_quiet_below (by kernel_rfl) (by kernel_rfl) ?_
        repeat (go_big_quiet_step (fail))
        refine wpQuiet_nil ?_
        intro _ hw'
        obtain⟨⟨nq,osq⟩,hw''⟩:=hw'
        subst hw''
        have hb2:=hid (hB1.out.trans ((below_regrown w1 nq osq).mono hB1.out.size))
        clear l0 l1 l2 l3 l4
        dsimp only
        generalize Sort.grow (redrawn w1 nq) osq=w2 at hb2 ⊢
        go_wp2
        go_roundw
        case rel=>exact⟨1,by omega,by go_num,by rw [← hst.out]; exact eM.out,hb2.out⟩
        case measure=>simp [intOf]; omega
      · obtain⟨y,hy⟩:∃ y,xs[k - 1]? = some y:=⟨_,List.getElem?_eq_getElem (by rw [Hl.out]; omega)⟩
        obtain⟨b',off',hbo,uh,hp⟩:=(hx.below hb).dB aV Hl.out hy
        obtain⟨rfl,rfl⟩:b=b'∧off=off':=by simpa using hbo
        have Hy:=hid hy
        obtain⟨Y,hY⟩:∃ Y,Y=y:=⟨_,rfl⟩
        obtain⟨name',Ks,need',Ik,tag'⟩:=y
        have q0:wr.cell? ⟨b,off+(k - 1)*5,none⟩=some (.string name'):=hp 0 _ rfl
        have q1:wr.cell? ⟨b,off+(k - 1)*5+1,none⟩=some (.int .i64 Ks):=hp 1 _ rfl
        have q2:wr.cell? ⟨b,off+(k - 1)*5+2,none⟩=some (.int .i64 need'):=hp 2 _ rfl
        have q3:wr.cell? ⟨b,off+(k - 1)*5+3,none⟩=some (.int .i64 Ik):=hp 3 _ rfl
        have q4:wr.cell? ⟨b,off+(k - 1)*5+4,none⟩=some (.string tag'):=hp 4 _ rfl
        have p0:∀ d os,(Sort.grow (redrawn w1 d) os).cell? ⟨b,off+(k - 1)*5,none⟩=some (.string name'):=fun d os=>cell_regrown (((dI hA1).1 _ _ hlb).trans q0) d os
        have p1:∀ d os,(Sort.grow (redrawn w1 d) os).cell? ⟨b,off+(k - 1)*5+1,none⟩=some (.int .i64 Ks):=fun d os=>cell_regrown (((dI hA1).1 _ _ hlb).trans q1) d os
        have p2:∀ d os,(Sort.grow (redrawn w1 d) os).cell? ⟨b,off+(k - 1)*5+2,none⟩=some (.int .i64 need'):=fun d os=>cell_regrown (((dI hA1).1 _ _ hlb).trans q2) d os
        have p3:∀ d os,(Sort.grow (redrawn w1 d) os).cell? ⟨b,off+(k - 1)*5+3,none⟩=some (.int .i64 Ik):=fun d os=>cell_regrown (((dI hA1).1 _ _ hlb).trans q3) d os
        have p4:∀ d os,(Sort.grow (redrawn w1 d) os).cell? ⟨b,off+(k - 1)*5+4,none⟩=some (.string tag'):=fun d os=>cell_regrown (((dI hA1).1 _ _ hlb).trans q4) d os
        clear q0 q1 q2 q3 q4 c0 c1 c2 c3 c4 hp hy hY hb1 hx hA0 hA1
        have hkp:decide ((0:Int)<(k:Int))=true:=decide_eq_true (by omega)
        have hkn:0<k:=by omega
        have hlt2:=hid (dW name'.toList name.toList)
        obtain⟨B,hB⟩:∃ B,Op.bytesLess name'.toList name.toList=B:=⟨_,rfl⟩
        have HL:=hid hB
        cases B
        · have e1:(Op.bytesLess name.toList name'.toList || name.toList == name'.toList)=true:=by rw [← hlt2.out,hB]; rfl
          have hst:=hid (nC (key:=aC.name) Hf.out HE.out hk0 Hy.out HL.out)
          clear hB
          go_wp2_with fail
          refine wp_region_quiet_below (by kernel_rfl) (by kernel_rfl) ?_
          repeat (go_big_quiet_step ((go_at_call 144; exact Calls.regrown_of (gS _ _ _ _ _ _))))
          refine wpQuiet_nil ?_
          intro _ hw'
          obtain⟨⟨nq,osq⟩,hw''⟩:=hw'
          subst hw''
          have hb2:=hid (hB1.out.trans ((below_regrown w1 nq osq).mono hB1.out.size))
          clear l0 l1 l2 l3 l4 p0 p1 p2 p3 p4
          dsimp only
          generalize Sort.grow (redrawn w1 nq) osq=w2 at hb2 ⊢
          go_wp2
          go_ret
          exact⟨bg (by rw [← eM.out]; exact hst.out.symm),hb2.out⟩
        · have e1:(Op.bytesLess name.toList name'.toList || name.toList == name'.toList)=false:=by rw [← hlt2.out,hB]; rfl
          have hst:=hid (jm (key:=aC.name) Hf.out HE.out (.inr ⟨_,Hy.out,HL.out⟩))
          clear hB
          go_wp2_with fail
          refine wp_region_quiet_below (by kernel_rfl) (by kernel_rfl) ?_
          repeat (go_big_quiet_step ((go_at_call 144; exact Calls.regrown_of (gS _ _ _ _ _ _))))
          refine wpQuiet_nil ?_
          intro _ hw'
          obtain⟨⟨nq,osq⟩,hw''⟩:=hw'
          subst hw''
          have hb2:=hid (hB1.out.trans ((below_regrown w1 nq osq).mono hB1.out.size))
          clear l0 l1 l2 l3 l4 p0 p1 p2 p3 p4
          dsimp only
          generalize Sort.grow (redrawn w1 nq) osq=w2 at hb2 ⊢
          go_wp2
          go_roundw
          case rel=>exact⟨k+1,by omega,by go_num,by rw [← hst.out]; exact eM.out,hb2.out⟩
          case measure=>simp [intOf]; omega
    · have hst:=hid (rE (E:=fB) (key:=aC.name) Hf.out (by rw [HE.out]; exact he))
      have e1:(E == 0)=false:=beq_eq_false_iff_ne.2 he
      have e2:(E != 0)=true:=bne_iff_ne.2 he
      clear c0 c1 c2 c3 c4 hb1 hx hA0 hA1
      go_wp2
      go_ret
      exact⟨bg (by rw [← eM.out,hst.out]; exact HE.out.symm),hB1.out⟩
  · obtain rfl:k=n:=by omega
    have fin:=hid (show R=0 by rw [← eM.out]; exact rF (by rw [Hl.out]; exact Nat.le_refl _) _)
    clear hb hx
    go_wp2
    go_ret
    exact⟨bg fin.out.symm,Hb.out⟩
theorem qN (xs:List aA) (A:Option Addr) (n c:Nat) (w:World) (hx:aU w w.heap.size 3 A n (au aB xs)) (hl:xs.length=n) (hn:n≤9223372036854775807) (hok:kN xs) (hT:Tabs w) :
 Calls Tryz.prog 146 #[.slice A n c,.func (.func 147) #[] #[],.func (.func 148) #[] #[]] w fun e w'=>e = .returned (.int .i64 (bT dO aA.name xs))∧Below w.heap.size w w':=by
 obtain⟨R,hR⟩:∃ R,bT dO aA.name xs=R:=⟨_,rfl⟩
 rw [hR]
 have HR:=hid hR
 have Hl:=hid hl
 have HT:=hid hT
 have Hok:=hid hok
 clear hl hR hT hok
 go_enter Tryz.func146,Tryz.ntmps146
 go_wp2
 go_loopw [6,7,8,9,12,19,28,35] (fun _ _ _ _ i _ _ _ wr=>Jq xs n R w i wr) (fun _ _ _ _ i _ _ _ _=>n - (intOf i).toNat)
 case atStart=>exact⟨0,Nat.zero_le _,rfl,by rw [← HR.out]; rfl,Below.refl _ _⟩
 case round=>
  obtain⟨k,hk,rfl,hrow,hb⟩:=hrel
  have eM:=hid hrow
  have Hb:=hid hb
  have hsz:=hb.size
  clear hrow
  by_cases hlt:k<n
  · obtain⟨x,hf⟩:∃ x,xs[k]? = some x:=⟨_,List.getElem?_eq_getElem (by rw [Hl.out]; exact hlt)⟩
    obtain⟨b,off,rfl,hbB,hc⟩:=(hx.below hb).dB aJ Hl.out hf
    have hso:=hid (Hok.out x (List.mem_of_getElem? hf))
    have Hf:=hid hf
    have hkey:x.name=aA.name x:=rfl
    obtain⟨E,hE⟩:∃ E,dO x=E:=⟨_,rfl⟩
    have HE:=hid hE
    obtain⟨X,hX⟩:∃ X,X=x:=⟨_,rfl⟩
    have HX:=hid hX
    obtain⟨name,room,zone⟩:=x
    have c0:wr.cell? ⟨b,off+k*3,none⟩=some (.string name):=hc 0 _ rfl
    have c1:wr.cell? ⟨b,off+k*3+1,none⟩=some (.int .i64 room):=hc 1 _ rfl
    have c2:wr.cell? ⟨b,off+k*3+2,none⟩=some (.string zone):=hc 2 _ rfl
    clear hc hf hE hX hkey
    have hlb:b<wr.heap.size:=by omega
    have hT1:=hid (HT.out.below (Hb.out.alloc Hb.out.size (.cells #[.string name,.int .i64 room,.string zone] 34)))
    have hBa:=hid (Hb.out.alloc Hb.out.size (.cells #[.string name,.int .i64 room,.string zone] 34))
    go_wp2_with fail
    refine Calls.mono (pQ ⟨name,room,zone⟩ _ hso.out.1 hso.out.2 hT1.out) ?_
    rintro e w1 ⟨rfl,hb1⟩
    rw [HE.out]
    have hA0:=(Below.refl wr.heap.size wr).alloc (Nat.le_refl _) (.cells #[.string name,.int .i64 room,.string zone] 34)
    have hA1:=hA0.trans (hb1.mono hA0.size)
    have hB1:=hid (hBa.out.trans (hb1.mono hBa.out.size))
    by_cases he:E=0
    · subst he
      have l0:∀ d os,(Sort.grow (redrawn w1 d) os).cell? ⟨wr.heap.size,0,none⟩=some (.string name):=fun d os=>cell_regrown (by rw [(dI hb1).1 _ _ (by simp)]; simp [go_sem]) d os
      have l1:∀ d os,(Sort.grow (redrawn w1 d) os).cell? ⟨wr.heap.size,1,none⟩=some (.int .i64 room):=fun d os=>cell_regrown (by rw [(dI hb1).1 _ _ (by simp)]; simp [go_sem]) d os
      have l2:∀ d os,(Sort.grow (redrawn w1 d) os).cell? ⟨wr.heap.size,2,none⟩=some (.string zone):=fun d os=>cell_regrown (by rw [(dI hb1).1 _ _ (by simp)]; simp [go_sem]) d os
      by_cases hk0:k=0
      · subst hk0
        have hst:=hid (jm (key:=aA.name) Hf.out HE.out (.inl rfl))
        clear c0 c1 c2 hb1 hx hA0 hA1
        go_wp2_with fail
        refine wp_region_quiet_below (by kernel_rfl) (by kernel_rfl) ?_
        repeat (go_big_quiet_step (fail))
        refine wpQuiet_nil ?_
        intro _ hw'
        obtain⟨⟨nq,osq⟩,hw''⟩:=hw'
        subst hw''
        have hb2:=hid (hB1.out.trans ((below_regrown w1 nq osq).mono hB1.out.size))
        clear l0 l1 l2
        dsimp only
        generalize Sort.grow (redrawn w1 nq) osq=w2 at hb2 ⊢
        go_wp2
        go_roundw
        case rel=>exact⟨1,by omega,by go_num,by rw [← hst.out]; exact eM.out,hb2.out⟩
        case measure=>simp [intOf]; omega
      · obtain⟨y,hy⟩:∃ y,xs[k - 1]? = some y:=⟨_,List.getElem?_eq_getElem (by rw [Hl.out]; omega)⟩
        obtain⟨b',off',hbo,uh,hp⟩:=(hx.below hb).dB aJ Hl.out hy
        obtain⟨rfl,rfl⟩:b=b'∧off=off':=by simpa using hbo
        have Hy:=hid hy
        obtain⟨Y,hY⟩:∃ Y,Y=y:=⟨_,rfl⟩
        obtain⟨name',room',Kt⟩:=y
        have q0:wr.cell? ⟨b,off+(k - 1)*3,none⟩=some (.string name'):=hp 0 _ rfl
        have q1:wr.cell? ⟨b,off+(k - 1)*3+1,none⟩=some (.int .i64 room'):=hp 1 _ rfl
        have q2:wr.cell? ⟨b,off+(k - 1)*3+2,none⟩=some (.string Kt):=hp 2 _ rfl
        have p0:∀ d os,(Sort.grow (redrawn w1 d) os).cell? ⟨b,off+(k - 1)*3,none⟩=some (.string name'):=fun d os=>cell_regrown (((dI hA1).1 _ _ hlb).trans q0) d os
        have p1:∀ d os,(Sort.grow (redrawn w1 d) os).cell? ⟨b,off+(k - 1)*3+1,none⟩=some (.int .i64 room'):=fun d os=>cell_regrown (((dI hA1).1 _ _ hlb).trans q1) d os
        have p2:∀ d os,(Sort.grow (redrawn w1 d) os).cell? ⟨b,off+(k - 1)*3+2,none⟩=some (.string Kt):=fun d os=>cell_regrown (((dI hA1).1 _ _ hlb).trans q2) d os
        clear q0 q1 q2 c0 c1 c2 hp hy hY hb1 hx hA0 hA1
        have hkp:decide ((0:Int)<(k:Int))=true:=decide_eq_true (by omega)
        have hkn:0<k:=by omega
        have hlt2:=hid (dW name'.toList name.toList)
        obtain⟨B,hB⟩:∃ B,Op.bytesLess name'.toList name.toList=B:=⟨_,rfl⟩
        have HL:=hid hB
        cases B
        · have e1:(Op.bytesLess name.toList name'.toList || name.toList == name'.toList)=true:=by rw [← hlt2.out,hB]; rfl
          have hst:=hid (nC (key:=aA.name) Hf.out HE.out hk0 Hy.out HL.out)
          clear hB
          go_wp2_with fail
          refine wp_region_quiet_below (by kernel_rfl) (by kernel_rfl) ?_
          repeat (go_big_quiet_step ((go_at_call 147; exact Calls.regrown_of (fW _ _ _ _))))
          refine wpQuiet_nil ?_
          intro _ hw'
          obtain⟨⟨nq,osq⟩,hw''⟩:=hw'
          subst hw''
          have hb2:=hid (hB1.out.trans ((below_regrown w1 nq osq).mono hB1.out.size))
          clear l0 l1 l2 p0 p1 p2
          dsimp only
          generalize Sort.grow (redrawn w1 nq) osq=w2 at hb2 ⊢
          go_wp2
          go_ret
          exact⟨bg (by rw [← eM.out]; exact hst.out.symm),hb2.out⟩
        · have e1:(Op.bytesLess name.toList name'.toList || name.toList == name'.toList)=false:=by rw [← hlt2.out,hB]; rfl
          have hst:=hid (jm (key:=aA.name) Hf.out HE.out (.inr ⟨_,Hy.out,HL.out⟩))
          clear hB
          go_wp2_with fail
          refine wp_region_quiet_below (by kernel_rfl) (by kernel_rfl) ?_
          repeat (go_big_quiet_step ((go_at_call 147; exact Calls.regrown_of (fW _ _ _ _))))
          refine wpQuiet_nil ?_
          intro _ hw'
          obtain⟨⟨nq,osq⟩,hw''⟩:=hw'
          subst hw''
          have hb2:=hid (hB1.out.trans ((below_regrown w1 nq osq).mono hB1.out.size))
          clear l0 l1 l2 p0 p1 p2
          dsimp only
          generalize Sort.grow (redrawn w1 nq) osq=w2 at hb2 ⊢
          go_wp2
          go_roundw
          case rel=>exact⟨k+1,by omega,by go_num,by rw [← hst.out]; exact eM.out,hb2.out⟩
          case measure=>simp [intOf]; omega
    · have hst:=hid (rE (E:=dO) (key:=aA.name) Hf.out (by rw [HE.out]; exact he))
      have e1:(E == 0)=false:=beq_eq_false_iff_ne.2 he
      have e2:(E != 0)=true:=bne_iff_ne.2 he
      clear c0 c1 c2 hb1 hx hA0 hA1
      go_wp2
      go_ret
      exact⟨bg (by rw [← eM.out,hst.out]; exact HE.out.symm),hB1.out⟩
  · obtain rfl:k=n:=by omega
    have fin:=hid (show R=0 by rw [← eM.out]; exact rF (by rw [Hl.out]; exact Nat.le_refl _) _)
    clear hb hx
    go_wp2
    go_ret
    exact⟨bg fin.out.symm,Hb.out⟩
end Go.Proofs.YtbllgmociapjeaaGreatDoor
