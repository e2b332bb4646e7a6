/- Of the proof of a statement: CopyK, PlRx, PlWDec, PlGone, PlApply, RowsDef, Read, Reads, TextR, PlGood, Text, Itoa. -/
import Derived.Laws.CopyRow
import Derived.Laws.IdiomCopy
import Derived.Lib.AppendZerosOnto
import Derived.Lib.SliceRun
import Derived.Deep.RegionLaw
import Derived.Lib.ValidLaws
import Derived.Shelf.Strconv.AppendIntPublic10
import Derived.Test.YtcpgnjmaampglaaGreatDoorWLaySort
import Derived.Test.YtcpgnjmaampglaaGreatDoorWPk
import Derived.Test.YtcpgnjmaampglaaGreatDoorWRTab
set_option linter.unusedVariables false
set_option linter.unusedSimpArgs false
set_option maxRecDepth 100000
set_option maxHeartbeats 8000000
/- copy, clear and append of make over rows of the call's own, whose elements hold several cells each. -/
namespace Go.Proofs.YtcpgnjmaampglaaGreatDoor
open Go.Lib (hid)
open Go.RowKit
open Go.Op (bytesLess)
open Go.Lib (validD)
open Go.RowKit Go.Shelf
section
variable {P:Program}
theorem kY (w:World) (dT sT ty elem:TypeId) (sz:Nat) (g o dLen dCap:Nat) (a:Addr) (sLen sCap:Nat) (cur:Array Value) (t:TypeId) (cs:List Value)
 (hu:P.underlying dT=some (.slice elem)) (hs:(P.info? elem).map (·.size)=some sz)
 (hg:w.heap[g]? = some (.cells cur t (0,0))) (hn:cs.length=Nat.min sLen dLen*sz)
 (hsrc:∀ j v,cs[j]? = some v→w.cell? (a.add j)=some v) (hfit:o+cs.length≤cur.size) (h1:∀ v ∈ cs,v.oneCell'=true) :
 (Builtin.copy_ #[dT,sT] ty #[.slice (some ⟨g,o,none⟩) dLen dCap,.slice (some a) sLen sCap]).run P w =
  .ok (.int .i64 (Nat.min sLen dLen:Nat)) (w.setRow g (cur.toList.take o ++ cs ++ cur.toList.drop (o+cs.length)).toArray):=by
 have hl:=run_loadCells_list (P:=P) w a cs hsrc
 have hst:=run_storeCells_at P g o t cs 0 cur w hg (by simpa using hfit) h1
 cases hq:P.info? elem with
 | none=>simp [hq] at hs
 | some i=>
  have hi:i.size=sz:=by simpa [hq] using hs
  simp [Builtin.copy_,run_underlying hu,Builtin.lenOf,Builtin.firstCells,sizeOf,typeInfo,hq,hi,← hn,hl,hst]
  rfl
end
structure kH (w:World) (base:Nat) (e:TypeId) (sz g cap:Nat) (cur:Array Value):Prop where
 ge:base≤g
 blk:w.heap[g]? = some (.cells cur e (0,0))
 cap_:cap≤maxLen
 size:cur.size=cap*sz
theorem kH.of {w:World} {base n g cap sz:Nat} {e:TypeId} {xs:List Value} (h:w.ownsRow base e sz (.slice (some ⟨g,0,none⟩) n cap) n xs):∃ cur,kH w base e sz g cap cur∧n≤cap∧cur.toList.take (n*sz)=xs:=by
 rcases h.2 with ⟨h1,_⟩ | ⟨g',cap',cur,hv,h1,h2,h3,h4,h5,h6⟩
 · cases h1
 · injection hv with a b c
   injection a with a
   injection a with a
   subst a; subst c
   exact⟨cur,⟨h1,h2,h4,h5⟩,h3,h6⟩
theorem kH.own {w:World} {base g cap sz:Nat} {e:TypeId} {cur:Array Value} (h:kH w base e sz g cap cur) {n:Nat} (hn:n≤cap) {xs:List Value} (hx:cur.toList.take (n*sz)=xs):w.ownsRow base e sz (.slice (some ⟨g,0,none⟩) n cap) n xs:=by
 subst hx
 refine⟨?_,.inr ⟨g,cap,cur,rfl,h.ge,h.blk,hn,h.cap_,h.size,rfl⟩⟩
 rw [List.length_take,Array.length_toList,h.size]
 have:=Nat.mul_le_mul_right sz hn
 omega
theorem kH.set {w:World} {base g cap sz:Nat} {e:TypeId} {cur:Array Value} (h:kH w base e sz g cap cur) (cur':Array Value) (hs:cur'.size=cap*sz):kH (w.setRow g cur') base e sz g cap cur':=
 ⟨h.ge,setRow_heap w g cur cur' e _ h.blk,h.cap_,hs⟩
theorem Ci (w:World) (g:Nat) (cur:Array Value):w.grownBy (w.setRow g cur) (some g):=⟨rfl,rfl,rfl,by simp [World.setRow],fun k _ hk=>setRow_other w g k cur (fun e=>hk (by simp [e]))⟩
theorem Dt (w:World) (g n n' c c':Nat) (cur:Array Value):dE w (w.setRow g cur) (.slice (some ⟨g,0,none⟩) n c) (.slice (some ⟨g,0,none⟩) n' c'):=
 ⟨Ci w g cur,.inl rfl⟩
theorem Ck (w:World) (g n n' c c':Nat) (cur:Array Value):dE w (w.drew.setRow g cur) (.slice (some ⟨g,0,none⟩) n c) (.slice (some ⟨g,0,none⟩) n' c'):=
 ⟨⟨rfl,rfl,rfl,by simp [World.setRow],fun k _ hk=>setRow_other w.drew g k cur (fun e=>hk (by simp [Value.ownBlock,e]))⟩,.inl rfl⟩
theorem kH.cells {w:World} {base g cap sz:Nat} {e:TypeId} {cur:Array Value} (h:kH w base e sz g cap cur) (o:Nat):∀ j v,(cur.toList.drop o)[j]? = some v→w.cell? ((⟨g,o,none⟩:Addr).add j)=some v:=fun j v hv=>by
 have ea:(⟨g,o,none⟩:Addr).add j=⟨g,o+j,none⟩:=by unfold Addr.add; split <;> simp_all
 rw [ea,cell_of_row w g (o+j) cur e (0,0) h.blk]
 rw [List.getElem?_drop,Array.getElem?_toList] at hv
 exact hv
theorem tO {P:Program} (w:World) {o:Oper} {a:Act} {K:Act→World→Prop} {Q:Exit→Act→World→Prop} (d s:Operand) (t t':TypeId)
 (ho:o.op = .call { callee:=.builtin .copy,args:=#[d,s],argTypes:=#[t,t'] }) (v u:Value) (hd:a.eval d=v) (hs:a.eval s=u) {v':Value} {w':World}
 (hr:(Builtin.copy_ #[t,t'] o.type #[v,u]).run P w = .ok v' w') (h:K (a.put o.dst v') w'):o.wp P a w K Q:=by
 unfold Oper.wp execOp
 simp only [ho,resolve,invoke,builtin,Sem.run_bind,Sem.run_pure,Result.andThen_ok,List.map_toArray,List.map_cons,List.map_nil,hd,hs,hr]
 exact h
theorem oD {P:Program} (w:World) {ops:Array Oper} {rest:List Oper} {o:Oper} {a:Act} {Q:Exit→Act→World→Prop} (hgd:o.guard=none) (d s:Operand) (t t':TypeId)
 (ho:o.op = .call { callee:=.builtin .copy,args:=#[d,s],argTypes:=#[t,t'] }) (v u:Value) (hd:a.eval d=v) (hs:a.eval s=u) {v':Value} {w':World}
 (hr:(Builtin.copy_ #[t,t'] o.type #[v,u]).run P w = .ok v' w') (h:wpList P ops Q rest (a.put o.dst v') w'):wpList P ops Q (o :: rest) a w:=
 wpList_plain hgd fun _ hK=>tO w d s t t' ho v u hd hs hr (hK _ _ h)
theorem qG {P:Program} {ops:Array Oper} {o:Oper} {a:Act} {w:World} {K:Act→World→Prop} {Q:Exit→Act→World→Prop} {E:Prop}
 (hg:o.guard=none) (d x:Operand) (dT sT:TypeId) (hop:o.op=Op.call { callee:=Callee.builtin Builtin.copy,args:=#[d,x],argTypes:=#[dT,sT] })
 (v u:Value) (hd:a.eval d=v) (hx:a.eval x=u) {v':Value} {w':World} (hr:(Builtin.copy_ #[dT,sT] o.type #[v,u]).run P w = .ok v' w') (hK:K (a.put o.dst v') w') :
 if Region.wanted o (yielded ops a.tmps)=true then Oper.wp P o a w K Q else E:=by
 have hw:Region.wanted o (yielded ops a.tmps)=true:=by simp [Region.wanted,hg]
 rw [if_pos hw]
 exact tO w d x dT sT hop v u hd hx hr hK
theorem pH {α:Type} {enc:α→List Value} {sz:Nat} (h:∀ a,(enc a).length=sz):∀ (l:List α) (k:Nat),(au enc l).take (k*sz)=au enc (l.take k)
 | [],k=>by simp [au]
 | a :: l,0=>by simp [au]
 | a :: l,k+1=>by
  show (enc a ++ au enc l).take ((k+1)*sz)=enc a ++ au enc (l.take k)
  rw [List.take_append,h,show (k+1)*sz - sz=k*sz by rw [Nat.add_mul]; omega,pH h l k,List.take_of_length_le (by rw [h,Nat.add_mul]; omega)]
theorem pI {α:Type} {enc:α→List Value} {sz:Nat} (h:∀ a,(enc a).length=sz):∀ (l:List α) (k:Nat),(au enc l).drop (k*sz)=au enc (l.drop k)
 | [],k=>by simp [au]
 | a :: l,0=>by simp [au]
 | a :: l,k+1=>by
  show (enc a ++ au enc l).drop ((k+1)*sz)=au enc (l.drop k)
  rw [List.drop_append,h,show (k+1)*sz - sz=k*sz by rw [Nat.add_mul]; omega,pI h l k,List.drop_eq_nil_of_le (by rw [h,Nat.add_mul]; omega),List.nil_append]
theorem Fo {L X R:List Value} {a b s:Nat} (hab:a≤b) (hb:b+s≤L.length) (hX:X.length=s) (hR:L.take b=R) :
 (((L.take (a+s) ++ (L.drop a).take (b - a) ++ L.drop (a+s+(b - a))).take a) ++ X ++ (L.take (a+s) ++ (L.drop a).take (b - a) ++ L.drop (a+s+(b - a))).drop (a+s)).take (b+s)=R.take a ++ X ++ R.drop a:=by
 have l1:(L.take (a+s)).length=a+s:=by rw [List.length_take]; omega
 have l2:((L.drop a).take (b - a)).length=b - a:=by rw [List.length_take,List.length_drop]; omega
 have e1:(L.take (a+s) ++ (L.drop a).take (b - a) ++ L.drop (a+s+(b - a))).take a=R.take a:=by
  rw [List.append_assoc,List.take_append_of_le_length (by omega),List.take_take,← hR,List.take_take]
  congr 1; omega
 have e2:(L.take (a+s) ++ (L.drop a).take (b - a) ++ L.drop (a+s+(b - a))).drop (a+s)=(L.drop a).take (b - a) ++ L.drop (a+s+(b - a)):=by
  rw [List.append_assoc,List.drop_append,l1,Nat.sub_self,List.drop_zero,List.drop_eq_nil_of_le (by omega),List.nil_append]
 have e3:(L.drop a).take (b - a)=R.drop a:=by rw [← hR,List.drop_take]
 have l3:(R.take a).length=a:=by rw [← hR,List.length_take,List.length_take]; omega
 rw [e1,e2,← List.append_assoc,List.take_append_of_le_length (by simp only [List.length_append,l3,hX,l2]; omega),List.take_of_length_le (by simp only [List.length_append,l3,hX,l2]; omega),e3]
theorem IW {L X D:List Value} {a s:Nat} (hL:a+s+D.length≤L.length) (hX:X.length=s) :
 ((L.take a ++ X ++ L.drop (a+s)).take (a+s) ++ D ++ (L.take a ++ X ++ L.drop (a+s)).drop (a+s+D.length)).take (a+s+D.length)=L.take a ++ X ++ D:=by
 have l1:(L.take a ++ X).length=a+s:=by rw [List.length_append,List.length_take,hX]; omega
 have e1:(L.take a ++ X ++ L.drop (a+s)).take (a+s)=L.take a ++ X:=by
  rw [List.take_append_of_le_length (by omega),List.take_of_length_le (by omega)]
 rw [e1,List.take_append_of_le_length (by rw [List.length_append,l1]; exact Nat.le_refl _),List.take_of_length_le (by rw [List.length_append,l1]; exact Nat.le_refl _)]
inductive RR (α:Type) where
 | ok (a:α) (r:ByteArray)
 | bad (e:Nat)
def RR.bind {α β:Type} (x:RR α) (f:α→ByteArray→RR β):RR β:=match x with
 | .ok a r=>f a r
 | .bad e=>.bad e
theorem RR.bind_ok {α β:Type} (a:α) (r:ByteArray) (f:α→ByteArray→RR β):(RR.ok a r).bind f=f a r:=rfl
theorem RR.iE {α β:Type} (e:Nat) (f:α→ByteArray→RR β):(RR.bad e:RR α).bind f = .bad e:=rfl
def RR.st {α:Type} (x:RR α):RR Unit:=x.bind fun _ r=>.ok () r
def RR.Good {α:Type} (N:Nat) (x:RR α):Prop:=match x with
 | .ok _ r=>r.size≤N
 | .bad e=>e≠0∧e≤10
theorem RR.Good.bind {α β:Type} {N:Nat} {x:RR α} {f:α→ByteArray→RR β} (h:x.Good N) (hf:∀ a r,r.size≤N→(f a r).Good N):(x.bind f).Good N:=by
 cases x with
 | ok a r=>exact hf a r h
 | bad e=>exact h
theorem RR.Good.st {α:Type} {N:Nat} {x:RR α} (h:x.Good N):x.st.Good N:=h.bind fun _ _ hr=>hr
def bZ (s:ByteArray):RR Nat:=if (rdNum s).2.2=0 then (if 4611686018427387904<(rdNum s).1 then .bad 2 else .ok (rdNum s).1 (s.extract (rdNum s).2.1 s.size)) else .bad (rdNum s).2.2
def bP (s:ByteArray):RR ByteArray:=if (mh s).2.2=0 then .ok (mh s).1 (s.extract (mh s).2.1 s.size) else .bad (mh s).2.2
theorem Cm {s:ByteArray} {a k:Nat} (h:rdNum s=(a,k,0)) (hl:¬ 4611686018427387904<a):bZ s = .ok a (s.extract k s.size):=by unfold bZ; rw [h]; simp only; rw [if_pos trivial,if_neg hl]
theorem yH {s:ByteArray} {a k:Nat} (h:rdNum s=(a,k,0)) (hl:4611686018427387904<a):bZ s = .bad 2:=by unfold bZ; rw [h]; simp only; rw [if_pos trivial,if_pos hl]
theorem Du {s:ByteArray} {a k e:Nat} (h:rdNum s=(a,k,e)) (he:e≠0):bZ s = .bad e:=by unfold bZ; rw [h]; simp only; rw [if_neg he]
theorem tP {s t:ByteArray} {k:Nat} (h:mh s=(t,k,0)):bP s = .ok t (s.extract k s.size):=by unfold bP; rw [h]; simp only; rw [if_pos trivial]
theorem vw {s t:ByteArray} {k e:Nat} (h:mh s=(t,k,e)) (he:e≠0):bP s = .bad e:=by unfold bP; rw [h]; simp only; rw [if_neg he]
theorem rY {s:ByteArray} {k N:Nat} (h:s.size≤N):(s.extract k s.size).size≤N:=by
 rw [ByteArray.size_extract]; omega
theorem Bg {s:ByteArray} {N:Nat} (h:s.size≤N):(bZ s).Good N:=by
 rcases hr:rdNum s with ⟨a,k,e⟩
 have hf:=jG hr
 by_cases he:e=0
 · subst he
   by_cases hl:4611686018427387904<a
   · rw [yH hr hl]; exact⟨by decide,by decide⟩
   · rw [Cm hr hl]; exact rY h
 · rw [Du hr he]; exact⟨he,by omega⟩
theorem Nb {s r:ByteArray} {a:Nat} (h:bZ s = .ok a r):a≤4611686018427387904:=by
 unfold bZ at h
 split at h
 · split at h
   · cases h
   · injection h with h1 h2; omega
 · cases h
theorem sH {s t:ByteArray} {k e:Nat} (h:mh s=(t,k,e)):e≤10∧t.size≤16∧(e=0→k≤s.size):=by
 rcases hr:rdNum s with ⟨a,n,e'⟩
 have hf:=jG hr
 by_cases he:e'=0
 · subst he
   by_cases h1:16<a
   · rw [yI hr h1] at h; injection h with h2 h3; injection h3 with h4 h5; subst h2; subst h5
     exact⟨by omega,by decide,fun hh=>absurd hh (by decide)⟩
   · by_cases h2:s.size<n+a
     · rw [yJ hr h1 h2] at h; injection h with h2 h3; injection h3 with h4 h5; subst h2; subst h5
       exact⟨by omega,by decide,fun hh=>absurd hh (by decide)⟩
     · cases hv:Lib.validD (s.extract n (n+a)).data.toList
       · rw [Bh hr h1 h2 hv] at h; injection h with h2 h3; injection h3 with h4 h5; subst h2; subst h5
         exact⟨by omega,by decide,fun hh=>absurd hh (by decide)⟩
       · rw [Co hr h1 h2 hv] at h; injection h with h2' h3; injection h3 with h4 h5; subst h2'; subst h5; subst h4
         exact⟨by omega,by rw [ByteArray.size_extract]; omega,fun _=>by omega⟩
 · rw [Dv hr he] at h; injection h with h2 h3; injection h3 with h4 h5; subst h2; subst h5
   exact⟨by omega,by decide,fun hh=>absurd hh he⟩
theorem Fp {s:ByteArray} {N:Nat} (h:s.size≤N):(bP s).Good N:=by
 rcases hr:mh s with ⟨a,k,e⟩
 have hf:=sH hr
 by_cases he:e=0
 · subst he
   rw [tP hr]; exact rY h
 · rw [vw hr he]; exact⟨he,hf.1⟩
theorem oE {s t r:ByteArray} (h:bP s = .ok t r):t.size≤16:=by
 rcases hr:mh s with ⟨a,k,e⟩
 have hf:=sH hr
 by_cases he:e=0
 · subst he
   rw [tP hr] at h; injection h with h1 h2; subst h1; exact hf.2.1
 · rw [vw hr he] at h; cases h
def eY {α:Type} (res:RR α) (Z:α→Prop) (a:α):Prop:=match res with
 | .ok b _=>a=b
 | .bad _=>Z a
def iR (v:Int) (s:ByteArray):RR aB:=
 (bP s).bind fun name s=>(bZ s).bind fun p s=>(bZ s).bind fun need s=>
  (if 1<v then bZ s else .ok 0 s).bind fun tries s=>(if 2<v then bP s else .ok ⟨#[]⟩ s).bind fun tag s=>.ok ⟨name,lO p,need,tries,tag⟩ s
def gy (v:Int) (s:ByteArray):RR av:=
 (bP s).bind fun name s=>(bZ s).bind fun room s=>(if 1<v then bP s else .ok ⟨#[]⟩ s).bind fun zone s=>.ok ⟨name,room,zone⟩ s
def gE (s:ByteArray):RR ak:=(bP s).bind fun job s=>(bP s).bind fun node s=>(bZ s).bind fun till s=>.ok ⟨job,node,till⟩ s
def vA {α:Type} (p:ByteArray→RR α):Nat→ByteArray→RR (List α)
 | 0,s=>.ok [] s
 | n+1,s=>(p s).bind fun a s=>(vA p n s).bind fun l s=>.ok (a :: l) s
def Ib (most:Nat) (s:ByteArray):RR Nat:=(bZ s).bind fun n s=>if most<n then .bad 2 else .ok n s
def dH {α:Type} (most:Nat) (p:ByteArray→RR α) (s:ByteArray):RR (List α):=(Ib most s).bind fun n s=>vA p n s
theorem Dw {α:Type} {p:ByteArray→RR α}:∀ {n:Nat} {s r:ByteArray} {l:List α},vA p n s = .ok l r→l.length=n∧∀ x ∈ l,∃ s r,p s = .ok x r
 | 0,s,r,l,h=>by
  unfold vA at h
  injection h with h1 h2
  subst h1
  exact⟨rfl,fun x hx=>by cases hx⟩
 | n+1,s,r,l,h=>by
  unfold vA at h
  cases hp:p s with
  | bad x=>rw [hp] at h; cases h
  | ok a r1=>
   rw [hp,RR.bind_ok] at h
   cases hq:vA p n r1 with
   | bad x=>rw [hq] at h; cases h
   | ok l' r2=>
    rw [hq,RR.bind_ok] at h
    injection h with h1 h2
    subst h1
    obtain⟨i1,i2⟩:=Dw hq
    refine⟨by simp [i1],fun x hx=>?_⟩
    rcases List.mem_cons.1 hx with rfl | hx
    · exact⟨_,_,hp⟩
    · exact i2 x hx
theorem vB {α:Type} {p:ByteArray→RR α} {most:Nat} {s r:ByteArray} {l:List α} (h:dH most p s = .ok l r):l.length≤most∧∀ x ∈ l,∃ s r,p s = .ok x r:=by
 unfold dH Ib at h
 cases hn:bZ s with
 | bad x=>rw [hn] at h; cases h
 | ok n r1=>
  rw [hn,RR.bind_ok] at h
  by_cases hb:most<n
  · rw [if_pos hb] at h; cases h
  · rw [if_neg hb,RR.bind_ok] at h
    obtain⟨i1,i2⟩:=Dw h
    exact⟨by omega,i2⟩
theorem IX {v:Int} {s r:ByteArray} {j:aB} (h:iR v s = .ok j r):j.name.size≤16∧j.tag.size≤16:=by
 unfold iR at h
 cases h1:bP s with
 | bad x=>rw [h1] at h; cases h
 | ok a1 s1=>
  rw [h1,RR.bind_ok] at h
  cases h2:bZ s1 with
  | bad x=>rw [h2] at h; cases h
  | ok a2 s2=>
   rw [h2,RR.bind_ok] at h
   cases h3:bZ s2 with
   | bad x=>rw [h3] at h; cases h
   | ok a3 s3=>
    rw [h3,RR.bind_ok] at h
    cases h4:(if 1<v then bZ s3 else .ok 0 s3) with
    | bad x=>rw [h4] at h; cases h
    | ok a4 s4=>
     rw [h4,RR.bind_ok] at h
     cases h5:(if 2<v then bP s4 else .ok ⟨#[]⟩ s4) with
     | bad x=>rw [h5] at h; cases h
     | ok a5 s5=>
      rw [h5,RR.bind_ok] at h
      injection h with e1 e2
      subst e1
      refine⟨oE h1,?_⟩
      by_cases hv:2<v
      · rw [if_pos hv] at h5; exact oE h5
      · rw [if_neg hv] at h5; injection h5 with e3 e4; subst e3; show (0:Nat)≤16; omega
theorem Fq {v:Int} {s r:ByteArray} {j:av} (h:gy v s = .ok j r):j.name.size≤16∧j.zone.size≤16:=by
 unfold gy at h
 cases h1:bP s with
 | bad x=>rw [h1] at h; cases h
 | ok a1 s1=>
  rw [h1,RR.bind_ok] at h
  cases h2:bZ s1 with
  | bad x=>rw [h2] at h; cases h
  | ok a2 s2=>
   rw [h2,RR.bind_ok] at h
   cases h5:(if 1<v then bP s2 else .ok ⟨#[]⟩ s2) with
   | bad x=>rw [h5] at h; cases h
   | ok a5 s5=>
    rw [h5,RR.bind_ok] at h
    injection h with e1 e2
    subst e1
    refine⟨oE h1,?_⟩
    by_cases hv:1<v
    · rw [if_pos hv] at h5; exact oE h5
    · rw [if_neg hv] at h5; injection h5 with e3 e4; subst e3; show (0:Nat)≤16; omega
theorem Dx {s r:ByteArray} {j:ak} (h:gE s = .ok j r):j.job.size≤16∧j.node.size≤16:=by
 unfold gE at h
 cases h1:bP s with
 | bad x=>rw [h1] at h; cases h
 | ok a1 s1=>
  rw [h1,RR.bind_ok] at h
  cases h2:bP s1 with
  | bad x=>rw [h2] at h; cases h
  | ok a2 s2=>
   rw [h2,RR.bind_ok] at h
   cases h3:bZ s2 with
   | bad x=>rw [h3] at h; cases h
   | ok a3 s3=>
    rw [h3,RR.bind_ok] at h
    injection h with e1 e2
    subst e1
    exact⟨oE h1,oE h2⟩
def Dy (v:Int) (s:ByteArray):RR Nat:=if 2<v then bZ s else .ok 0 s
def stP (v:Int) (s:ByteArray):RR ah:=
 (Dy v s).bind fun rev s=>(dH 40 (iR v) s).bind fun j s=>(dH 20 (gy v) s).bind fun n s=>(dH 40 gE s).bind fun l s=>.ok ⟨rev,j,n,l⟩ s
def endP {α:Type} (x:RR α):RR α:=x.bind fun a s=>if s.size=0 then .ok a s else .bad 4
def aY:ah:=⟨0,[],[],[]⟩
def Cp (b:ByteArray) (v:Int):ah × Int:=if v<1∨3<v then (aY,1) else match endP (stP v b) with
 | .bad e=>(aY,e)
 | .ok st _=>if ay st=0 then (st,0) else (aY,ay st)
theorem KC {b:ByteArray} {v:Int} {e:Nat} (h:¬ (v<1∨3<v)) (h2:endP (stP v b) = .bad e):Cp b v=(aY,(e:Int)):=by unfold Cp; rw [if_neg h,h2]
theorem Fr {b r:ByteArray} {v:Int} {st:ah} (h:¬ (v<1∨3<v)) (h2:endP (stP v b) = .ok st r) (h3:ay st≠0):Cp b v=(aY,ay st):=by unfold Cp; rw [if_neg h,h2]; simp only; rw [if_neg h3]
theorem Ic {b r:ByteArray} {v:Int} {st:ah} (h:¬ (v<1∨3<v)) (h2:endP (stP v b) = .ok st r) (h3:ay st=0):Cp b v=(st,0):=by unfold Cp; rw [if_neg h,h2]; simp only; rw [if_pos h3]
theorem bad_eq {α β:Type} {x y:Nat} (h:(RR.bad x:RR α) = .bad y):(RR.bad x:RR β) = .bad y:=by injection h with e; rw [e]
theorem Nc {v:Int} {b:ByteArray} {r1:RR Nat} {r2:RR (List aB)} {r3:RR (List av)} {r4:RR (List ak)}
 (e1:r1=Dy v b) (e2:r2=r1.st.bind fun _ s=>dH 40 (iR v) s) (e3:r3=r2.st.bind fun _ s=>dH 20 (gy v) s) (e4:r4=r3.st.bind fun _ s=>dH 40 gE s) :
 (∀ x,r4.st = .bad x→stP v b = .bad x)∧(∀ s,r4.st = .ok () s→∃ rev j n l s1 s2 s3,r1 = .ok rev s1∧(r2 = .ok j s2∧dH 40 (iR v) s1 = .ok j s2)∧(r3 = .ok n s3∧dH 20 (gy v) s2 = .ok n s3)∧(r4 = .ok l s∧dH 40 gE s3 = .ok l s)∧stP v b = .ok ⟨rev,j,n,l⟩ s):=by
 unfold stP
 rw [← e1]
 cases r1 with
 | bad x=>
  subst e2; subst e3; subst e4
  exact⟨fun y hy=>bad_eq hy,fun s hs=>by cases hs⟩
 | ok rev s1=>
  rw [RR.bind_ok]
  have e2':r2=dH 40 (iR v) s1:=e2
  rw [← e2']
  cases r2 with
  | bad x=>
   subst e3; subst e4
   exact⟨fun y hy=>bad_eq hy,fun s hs=>by cases hs⟩
  | ok j s2=>
   rw [RR.bind_ok]
   have e3':r3=dH 20 (gy v) s2:=e3
   rw [← e3']
   cases r3 with
   | bad x=>
    subst e4
    exact⟨fun y hy=>bad_eq hy,fun s hs=>by cases hs⟩
   | ok n s3=>
    rw [RR.bind_ok]
    have e4':r4=dH 40 gE s3:=e4
    rw [← e4']
    cases r4 with
    | bad x=>exact⟨fun y hy=>bad_eq hy,fun s hs=>by cases hs⟩
    | ok l s4=>
     refine And.intro (fun y hy=>by cases hy) (fun s hs=>?_)
     have hs:RR.ok () s4=RR.ok () s:=hs
     injection hs with _ h2
     subst h2
     exact⟨rev,j,n,l,s1,s2,s3,rfl,⟨rfl,e2'.symm⟩,⟨rfl,e3'.symm⟩,⟨rfl,e4'.symm⟩,rfl⟩
def sI (σ:RR Unit):Nat:=match σ with
 | .ok _ s=>if s.size=0 then 0 else 4
 | .bad x=>x
theorem KE {s:ByteArray} (h:s.size=0):sI (.ok () s)=0:=by unfold sI; simp only; rw [if_pos h]
theorem KF {s:ByteArray} (h:s.size≠0):sI (.ok () s)=4:=by unfold sI; simp only; rw [if_neg h]
theorem mP {s:ByteArray} (h:s.size≠0):s.toList.isEmpty=false:=by
 have:=kZ h
 cases hl:s.toList with
 | nil=>rw [hl] at this; exact absurd this (by decide)
 | cons a l=>rfl
def fJ (l:List ak) (s:ByteArray):Option ak:=l.find? fun x=>decide (x.job=s)
def dI (has:ByteArray→Bool):Option ByteArray→List ByteArray→Int
 | _,[]=>0
 | p,s :: l=>if cK s=true then (if before p s=true then (if has s=true then 7 else dI has (some s) l) else 8) else 4
def nE (has:ByteArray→Bool) (l:List ByteArray):Int:=dI has none l
def qH (s:ByteArray):ByteArray:=s
section
variable {has:ByteArray→Bool} {l:List ByteArray} {k:Nat} {s:ByteArray}
theorem IY (h:l[k]? = some s) (hn:cK s=false):dI has (prevK qH l k) (l.drop k)=4:=by
 rw [drop_cons h,dI,if_neg (by rw [hn]; simp)]
theorem Fs {y:ByteArray} (h:l[k]? = some s) (hn:cK s=true) (hk:k≠0) (hy:l[k - 1]? = some y) (hl:bytesLess y.toList s.toList=false):dI has (prevK qH l k) (l.drop k)=8:=by
 rw [drop_cons h,dI,if_pos hn,if_neg]
 unfold prevK before
 rw [if_neg hk,hy]
 simp [qH,hl]
theorem wU (hb:k=0∨∃ y,l[k - 1]? = some y∧bytesLess y.toList s.toList=true):before (prevK qH l k) s=true:=by
 unfold prevK before
 rcases hb with rfl | ⟨y,hy,hl⟩
 · rfl
 · by_cases hk:k=0
   · rw [if_pos hk]
   · rw [if_neg hk,hy]; exact hl
theorem yK (h:l[k]? = some s) (hn:cK s=true) (hb:k=0∨∃ y,l[k - 1]? = some y∧bytesLess y.toList s.toList=true) (hh:has s=true):dI has (prevK qH l k) (l.drop k)=7:=by
 rw [drop_cons h,dI,if_pos hn,if_pos (wU hb),if_pos hh]
theorem mF (h:l[k]? = some s) (hn:cK s=true) (hb:k=0∨∃ y,l[k - 1]? = some y∧bytesLess y.toList s.toList=true) (hh:has s=false) :
 dI has (prevK qH l k) (l.drop k)=dI has (prevK qH l (k+1)) (l.drop (k+1)):=by
 have e1:prevK qH l (k+1)=some s:=by unfold prevK; rw [if_neg (by omega),Nat.add_sub_cancel,h]; rfl
 rw [drop_cons h,dI,if_pos hn,if_pos (wU hb),if_neg (by rw [hh]; simp),e1]
theorem KG (h:l.length≤k) (p:Option ByteArray):dI has p (l.drop k)=0:=by
 rw [List.drop_of_length_le h]; rfl
end
def mN (s:ByteArray):List Value:=[.string s]
theorem jQ (s:ByteArray):(mN s).length=1:=rfl
def lsE (l:ak):Int:=if cK l.job && cK l.node then (if ranged l.till 0 1099511627776 then 0 else 1) else 4
structure aK where
 from_:Int
 to_:Int
 jobs:List aB
 nodes:List av
 leases:List ak
 gj:List ByteArray
 gn:List ByteArray
 gl:List ByteArray
def jR (d:aK):Bool:=decide (d.jobs.length≤40) && decide (d.leases.length≤40) && decide (d.gj.length≤40) && decide (d.gl.length≤40) && decide (d.nodes.length≤20) && decide (d.gn.length≤20)
def kI (d:aK):Bool:=ranged d.from_ 0 1099511627776 && decide (d.from_<d.to_) && decide (d.to_≤1099511627776)
def iF:List Int→Int
 | []=>0
 | e :: l=>if e=0 then iF l else e
def wV (d:aK):List Int:=
 [bM eZ aB.name d.jobs,bM eV av.name d.nodes,bM lsE ak.job d.leases,
  nE (fun s=>(eu d.jobs s).isSome) d.gj,nE (fun s=>(dX d.nodes s).isSome) d.gn,nE (fun s=>(fJ d.leases s).isSome) d.gl]
def cW (d:aK):Int:=if kI d=false then 1 else if jR d=false then 2 else iF (wV d)
theorem gK {e:Int} {l:List Int} (h:e=0):iF (e :: l)=iF l:=by unfold iF; rw [if_pos h]; cases l <;> rfl
theorem wW {e:Int} {l:List Int} (h:e≠0):iF (e :: l)=e:=by unfold iF; rw [if_neg h]
def cY (a b:ByteArray):Bool:=bytesLess a.toList b.toList
theorem eB (a:ByteArray):cY a a=false:=lP _
theorem iG {a b c:ByteArray} (h:cY a b=true) (h2:cY b c=true):cY a c=true:=pJ _ _ _ h h2
theorem xN {a b:ByteArray} (h:a.toList=b.toList):a=b:=by rw [ByteArray.toList_eq,ByteArray.toList_eq] at h; exact ByteArray.ext (Array.toList_inj.1 h)
theorem iS {a b:ByteArray} (h:cY a b=false) (hne:a≠b):cY b a=true:=by
 have ht:=iH a.toList b.toList
 unfold cY at h ⊢
 rw [h] at ht
 rcases Bool.or_eq_true_iff.1 ht.symm with h1 | h1
 · exact h1
 · exact absurd (xN (beq_iff_eq.1 h1)).symm hne
section
variable {α:Type} (key:α→ByteArray)
def aT (l:List α):Prop:=l.Pairwise fun a b=>cY (key a) (key b)=true
variable {key}
theorem mQ:∀ {l r:List α},aT key l→aT key r→(∀ x,x ∈ l↔x ∈ r)→l=r
 | [],[],_,_,_=>rfl
 | [],b :: r,_,_,h=>absurd ((h b).2 List.mem_cons_self) List.not_mem_nil
 | a :: l,[],_,_,h=>absurd ((h a).1 List.mem_cons_self) List.not_mem_nil
 | a :: l,b :: r,hl,hr,h=>by
  obtain⟨hl1,hl2⟩:=List.pairwise_cons.1 hl
  obtain⟨hr1,hr2⟩:=List.pairwise_cons.1 hr
  have hab:a=b:=by
   rcases List.mem_cons.1 ((h a).1 List.mem_cons_self) with h1 | h1
   · exact h1
   · rcases List.mem_cons.1 ((h b).2 List.mem_cons_self) with h2 | h2
     · exact h2.symm
     · have:=iG (hr1 a h1) (hl1 b h2)
       rw [eB] at this; cases this
  subst hab
  refine congrArg (a :: ·) (mQ hl2 hr2 fun x=>⟨fun hx=>?_,fun hx=>?_⟩)
  · rcases List.mem_cons.1 ((h x).1 (List.mem_cons_of_mem _ hx)) with h1 | h1
    · subst h1
      have:=hl1 x hx
      rw [eB] at this; cases this
    · exact h1
  · rcases List.mem_cons.1 ((h x).2 (List.mem_cons_of_mem _ hx)) with h1 | h1
    · subst h1
      have:=hr1 x hx
      rw [eB] at this; cases this
    · exact h1
theorem cO {l:List α} (h:aT key l):l.Pairwise fun a b=>key a≠key b:=
 h.imp fun {a b} hlt e=>by rw [e,eB] at hlt; cases hlt
variable (key)
def iq (x:α):Bool→List α→List α
 | d,[]=>if d then [] else [x]
 | d,y :: l=>(if !d && !cY (key y) (key x) then [x] else []) ++ (if key y≠key x then [y] else []) ++ iq x (d || !cY (key y) (key x)) l
def pK (l:List α) (x:α):List α:=iq key x false l
variable {key}
theorem gL (x z:α):∀ (l:List α) (d:Bool),z ∈ iq key x d l↔(d=false∧z=x)∨(z ∈ l∧key z≠key x)
 | [],d=>by cases d <;> simp [iq]
 | y :: l,d=>by
  rw [iq,List.mem_append,List.mem_append,gL x z l]
  have h2:(z ∈ if key y≠key x then [y] else [])↔(z=y∧key z≠key x):=by
   by_cases h:key y=key x
   · rw [if_neg (by simp [h])]
     exact⟨fun h'=>absurd h' List.not_mem_nil,fun ⟨h1,h2⟩=>absurd (by rw [h1,h]) h2⟩
   · rw [if_pos h,List.mem_singleton]
     exact⟨fun h'=>⟨h',by rw [h']; exact h⟩,fun h'=>h'.1⟩
  rw [h2,List.mem_cons]
  cases d <;> cases hk:cY (key y) (key x) <;> simp <;> grind
theorem wX (x:α):∀ (l:List α),aT key l→aT key (iq key x true l)
 | [],_=>List.Pairwise.nil
 | y :: l,h=>by
  obtain⟨h1,h2⟩:=List.pairwise_cons.1 h
  have ih:=wX x l h2
  rw [iq]
  simp only [Bool.not_true,Bool.false_and,Bool.false_eq_true,if_false,List.nil_append,Bool.true_or]
  by_cases hk:key y=key x
  · rw [if_neg (by simp [hk])]; exact ih
  · rw [if_pos hk]
    refine List.pairwise_cons.2 ⟨fun z hz=>?_,ih⟩
    rcases (gL x z l true).1 hz with hc | hc
    · cases hc.1
    · exact h1 z hc.1
theorem sorted_put (x:α):∀ (l:List α),aT key l→aT key (iq key x false l)
 | [],_=>List.pairwise_singleton _ _
 | y :: l,h=>by
  obtain⟨h1,h2⟩:=List.pairwise_cons.1 h
  cases hk:cY (key y) (key x) with
  | true=>
   have hne:key y≠key x:=fun e=>by rw [e,eB] at hk; cases hk
   have ih:=sorted_put x l h2
   rw [iq,hk]
   simp only [Bool.not_true,Bool.and_false,Bool.false_eq_true,if_false,List.nil_append,Bool.or_false,if_pos hne]
   refine List.pairwise_cons.2 ⟨fun z hz=>?_,ih⟩
   rcases (gL x z l false).1 hz with hc | hc
   · rw [hc.2]; exact hk
   · exact h1 z hc.1
  | false=>
   have ih:=wX x (y :: l) h
   have e:iq key x false (y :: l)=x :: iq key x true (y :: l):=by
    rw [iq,iq,hk]
    simp
   rw [e]
   refine List.pairwise_cons.2 ⟨fun z hz=>?_,ih⟩
   rcases (gL x z (y :: l) true).1 hz with hc | hc
   · cases hc.1
   · rcases List.mem_cons.1 hc.1 with e | hz
     · subst e
       exact iS hk hc.2
     · have hyz:=h1 z hz
       by_cases hxy:key y=key x
       · rw [hxy] at hyz; exact hyz
       · exact iG (iS hk hxy) hyz
theorem Bi:∀ (set l:List α),aT key l→set.Pairwise (fun a b=>key a≠key b) →
 aT key (set.foldl (pK key) l)∧∀ z,z ∈ set.foldl (pK key) l↔z ∈ set∨(z ∈ l∧∀ s ∈ set,key z≠key s)
 | [],l,h,_=>⟨h,fun z=>by simp⟩
 | s :: set,l,h,hd=>by
  obtain⟨d1,d2⟩:=List.pairwise_cons.1 hd
  obtain⟨i1,i2⟩:=Bi set (pK key l s) (sorted_put s l h) d2
  refine⟨i1,fun z=>?_⟩
  rw [List.foldl_cons,i2]
  have hm:z ∈ pK key l s↔z=s∨(z ∈ l∧key z≠key s):=by
   unfold pK; rw [gL]; simp
  rw [hm,List.mem_cons]
  constructor
  · rintro (h1 | ⟨h1 | h1,h2⟩)
    · exact .inl (.inr h1)
    · exact .inl (.inl h1)
    · exact .inr ⟨h1.1,fun r hr=>by
       rcases List.mem_cons.1 hr with e | hr
       · rw [e]; exact h1.2
       · exact h2 r hr⟩
  · rintro ((h1 | h1) | ⟨h1,h2⟩)
    · exact .inr ⟨.inl h1,fun r hr=>by rw [h1]; exact d1 r hr⟩
    · exact .inl h1
    · exact .inr ⟨.inr ⟨h1,h2 s List.mem_cons_self⟩,fun r hr=>h2 r (List.mem_cons_of_mem _ hr)⟩
variable (key)
def bR (rows set:List α) (gone:List ByteArray):List α:=set.foldl (pK key) (rows.filter fun x=>!gone.any fun s=>decide (s=key x))
def aW (rows:List α) (gone:List ByteArray):Bool:=gone.any fun s=>!rows.any fun r=>decide (key r=s)
def eA (rows:List α) (gone:List ByteArray) (set:List α) (s:ByteArray):Option α:=
 match set.find? fun x=>decide (key x=s) with
 | some x=>some x
 | none=>if gone.any (fun q=>decide (q=s)) then none else rows.find? fun x=>decide (key x=s)
variable {key}
theorem mG {l:List α} (h:l.Pairwise fun a b=>key a≠key b) {x:α} (hx:x ∈ l):l.find? (fun y=>decide (key y=key x))=some x:=by
 induction l with
 | nil=>cases hx
 | cons a l ih=>
  obtain⟨h1,h2⟩:=List.pairwise_cons.1 h
  rw [List.find?_cons]
  by_cases e:key a=key x
  · rcases List.mem_cons.1 hx with rfl | hx
    · simp
    · exact absurd e (h1 x hx)
  · rw [decide_eq_false e]
    rcases List.mem_cons.1 hx with rfl | hx
    · exact absurd rfl e
    · exact ih h2 hx
theorem oF {l:List α} {s:ByteArray} {x:α} (h:l.find? (fun y=>decide (key y=s))=some x):key x=s∧x ∈ l:=⟨by simpa using List.find?_some h,List.mem_of_find?_eq_some h⟩
theorem yD {rows set:List α} {gone:List ByteArray} {s:ByteArray} {x:α} (h:eA key rows gone set s=some x):key x=s:=by
 unfold eA at h
 cases hf:set.find? (fun y=>decide (key y=s)) with
 | some y=>rw [hf] at h; injection h with h; subst h; exact (oF hf).1
 | none=>
  rw [hf] at h
  dsimp only at h
  split at h
  · cases h
  · exact (oF h).1
theorem Bj {rows set:List α} {gone:List ByteArray} {l:List α} (hr:aT key rows) (hs:aT key set) (hl:aT key l)
 (hm:∀ z,z ∈ l↔eA key rows gone set (key z)=some z):l=bR key rows set gone:=by
 obtain⟨i1,i2⟩:=Bi set (rows.filter fun x=>!gone.any fun s=>decide (s=key x)) (List.Pairwise.filter _ hr) (cO hs)
 refine mQ hl i1 fun z=>?_
 rw [hm]
 unfold bR
 rw [i2]
 unfold eA
 cases hf:set.find? (fun y=>decide (key y=key z)) with
 | some y=>
  obtain⟨e,hy⟩:=oF hf
  constructor
  · intro h
    injection h with h
    subst h
    exact .inl hy
  · rintro (h | ⟨_,h⟩)
    · rw [mG (cO hs) h] at hf; exact hf.symm
    · exact absurd e.symm (h y hy)
 | none=>
  have hn:∀ s ∈ set,key z≠key s:=fun s hs' e=>by
   have:=List.find?_eq_none.1 hf s hs'
   simp [e] at this
  dsimp only
  rw [List.mem_filter]
  constructor
  · intro h
    split at h
    · cases h
    · rename_i hg
      exact .inr ⟨⟨(oF h).2,by show (!gone.any fun s=>decide (s=key z))=true; rw [Bool.eq_false_iff.2 hg]; rfl⟩,hn⟩
  · rintro (h | ⟨⟨h,hg⟩,_⟩)
    · exact absurd rfl (hn z h)
    · rw [if_neg (by intro h'; rw [h'] at hg; cases hg)]
      exact mG (cO hr) h
end
def kJ (s:ah) (d:aK):ah:=⟨d.to_,bR aB.name s.jobs d.jobs d.gj,bR av.name s.nodes d.nodes d.gn,bR ak.job s.leases d.leases d.gl⟩
def gN (s:ah) (d:aK):ah × Int:=
 if ay s≠0 then (aY,ay s) else if cW d≠0 then (aY,cW d) else if d.from_≠s.rev then (aY,10)
 else if (aW aB.name s.jobs d.gj || aW av.name s.nodes d.gn || aW ak.job s.leases d.gl)=true then (aY,6)
 else if ay (kJ s d)≠0 then (aY,ay (kJ s d)) else (kJ s d,0)
def nP (xs:List aB):Prop:=∀ x ∈ xs,x.name.size≤9223372036854775807∧x.tag.size≤9223372036854775807
def Pu (xs:List aB) (n:Nat) (R:Int) (w:World) (i:Value) (wr:World):Prop:=∃ k:Nat,k≤n∧i = .int .i64 k∧dS eZ aB.name (prevK aB.name xs k) (xs.drop k)=R∧Below w.heap.size w wr
def kX (xs:List av):Prop:=∀ x ∈ xs,x.name.size≤9223372036854775807∧x.zone.size≤9223372036854775807
def Nd (xs:List av) (n:Nat) (R:Int) (w:World) (i:Value) (wr:World):Prop:=∃ k:Nat,k≤n∧i = .int .i64 k∧dS eV av.name (prevK av.name xs k) (xs.drop k)=R∧Below w.heap.size w wr
theorem l9 {s:ByteArray} {k c:Nat} (h:k<s.size) (hc:s[k].toNat=c) (W:World):(Instr.index 9 (.string s) (.int .i64 (k:Int))).run Tryz.prog W = .ok (.int .u8 (c:Int)) W:=by
 rw [run_index_string W 9 s .i64 (k:Int) Tryz.underlying9,dif_pos ⟨by omega,by omega⟩]
 subst hc
 simp only [Int.toNat_natCast]
def vC (s:ByteArray) (w:World) (e:Ending) (w':World):Prop:=e = .returned (rdV s)∧w=w'
theorem vC.mk' {s:ByteArray} {w:World} {a k e:Nat} (h:rdNum s=(a,k,e)):vC s w (.returned (.tuple #[.int .u64 (a:Int),.int .i64 (k:Int),.int .i64 (e:Int)])) w:=⟨by rw [KH h],rfl⟩
def QL (s:ByteArray) (n i:Value):Prop:=∃ (k acc:Nat),k≤9∧k≤s.size∧acc<128 ^ k∧i = .int .i64 k∧n = .int .u64 acc∧rdNum s=rdB s (10 - k) k acc
theorem KI (s:ByteArray) (w:World) (hs:s.size≤9223372036854775807) :
 Calls Tryz.prog 87 #[.string s] w (vC s w):=by
 go_enter Tryz.func87,Tryz.ntmps87
 go_wp2
 go_loop [2,3,4,5,6,7,8,10] (fun _ _ _ n _ _ i _=>QL s n i) (fun _ _ _ _ _ _ i _=>10 - (intOf i).toNat)
 case atStart=>exact⟨0,0,by omega,by omega,by decide,rfl,rfl,rfl⟩
 case round=>
  obtain⟨k,acc,hk,hks,ha,rfl,rfl,hr⟩:=hrel
  have Hr:=hid hr
  have Ha:=hid ha
  clear hr ha
  by_cases hsz:k<s.size
  · have e3:((k:Int) == s.size)=false:=by simp; omega
    obtain⟨c,hc⟩:∃ c:Nat,s[k].toNat=c:=⟨_,rfl⟩
    have hc2:c<256:=by rw [← hc]; exact s[k].toNat_lt
    have Hi:=l9 hsz hc
    have Hc:=hid hc
    clear hc
    have form:=fun (hb:(k=9∧1<c)∨(0<k∧c=0))=>vC.mk' (w:=w) (Hr.out.trans (KJ (by omega) hsz Hc.out hb))
    have last:=fun (hb:¬ ((k=9∧1<c)∨(0<k∧c=0))) (h1:c<128)=>vC.mk' (w:=w) (Hr.out.trans (KK (by omega) hsz Hc.out hb h1))
    have more:=fun (hb:¬ ((k=9∧1<c)∨(0<k∧c=0))) (h1:¬ c<128)=>Hr.out.trans (KL (by omega) hsz Hc.out hb h1)
    have step:=fun (h9:k=9→c≤1)=>Id (k:=k) (by omega) hc2 h9 Ha.out
    have Form:=hid form
    have Last:=hid last
    have More:=hid more
    have Step:=hid step
    clear form last more step
    by_cases b9:9≤k <;> by_cases b0:1≤c
    all_goals first | (have e1:((k:Int) == 9)=true:=by simp; omega) | (have e1:((k:Int) == 9)=false:=by simp; omega)
    all_goals first | (have e2:((c:Int) == 0)=true:=by simp; omega) | (have e2:((c:Int) == 0)=false:=by simp; omega)
    all_goals go_wp2
    all_goals first
     | (go_ret3; exact Form.out (by omega))
     | (have st:=(Step.out (by omega)).1; go_ret3; rw [st]; exact Last.out (by omega) (by omega))
     | (have st:=Step.out (by omega); exact⟨⟨k+1,_,by omega,by omega,st.2.1,by go_num,by rw [st.1],More.out (by omega) (by omega)⟩,by simp only [intOf]; omega⟩)
  · have e3:((k:Int) == s.size)=true:=by simp; omega
    have fin:=hid (vC.mk' (w:=w) (Hr.out.trans (IZ (by omega) (by omega))))
    go_wp2
    go_ret3
    exact fin.out
theorem oG {s:ByteArray} {k:Nat} (h:k<s.size):s.data.toList.take (k+1)=s.data.toList.take k ++ [s[k]]:=by
 rw [List.take_succ_eq_append_getElem (by simpa using h)]; rfl
theorem rF {s:ByteArray} {a k e:Nat} (h:rdNum s=(a,k,e)) (w:World) (hs:s.size≤9223372036854775807) :
 Calls Tryz.prog 87 #[.string s] w fun x w'=>x = .returned (.tuple #[.int .u64 (a:Int),.int .i64 (k:Int),.int .i64 (e:Int)])∧w=w':=
 (KI s w hs).mono fun _ _ ⟨h1,h2⟩=>⟨by rw [h1,KH h],h2⟩
def mo (s:ByteArray) (w:World) (e:Ending) (w':World):Prop:=e = .returned (.tuple #[.string (mh s).1,.int .i64 ((mh s).2.1:Int),.int .i64 ((mh s).2.2:Int)])∧Below w.heap.size w w'
theorem mo.mk' {s a:ByteArray} {n e:Nat} {w w':World} (h:mh s=(a,n,e)) (hb:Below w.heap.size w w'):mo s w (.returned (.tuple #[.string a,.int .i64 (n:Int),.int .i64 (e:Int)])) w':=⟨by rw [h],hb⟩
theorem Cq (s:ByteArray) (w:World) (hs:s.size≤9223372036854775807) (hT:Tabs w):Calls Tryz.prog 132 #[.string s] w (mo s w):=by
 obtain⟨n,k,e,hr⟩:∃ n k e,rdNum s=(n,k,e):=⟨_,_,_,rfl⟩
 have h1:=hid (rF hr w hs)
 obtain⟨f1,f2,f3,f4⟩:=jG hr
 have HR:=hid hr
 clear hr
 by_cases he:e=0
 · subst he
   have f5:=f4 rfl
   clear f4 f3
   by_cases hn:16<n
   · have fin:=hid (mo.mk' (w:=w) (w':=w) (yI HR.out hn) (Below.refl _ _))
     go_enter Tryz.func132,Tryz.ntmps132
     go_wp2_with fail
     refine Calls.mono h1.out ?_
     rintro x w' ⟨rfl,rfl⟩
     go_wp2
     refine bodyPost_ret (v:=.tuple #[.string ⟨#[]⟩,.int .i64 0,.int .i64 2]) (by simp [results,Tryz.results132,go_sem]) rfl fin.out
   · by_cases hl:s.size<k+n
     · have fin:=hid (mo.mk' (w:=w) (w':=w) (yJ HR.out hn hl) (Below.refl _ _))
       clear f1
       go_enter Tryz.func132,Tryz.ntmps132
       go_wp2_with fail
       refine Calls.mono h1.out ?_
       rintro x w' ⟨rfl,rfl⟩
       go_wp2
       refine bodyPost_ret (v:=.tuple #[.string ⟨#[]⟩,.int .i64 0,.int .i64 3]) (by simp [results,Tryz.results132,go_sem]) rfl fin.out
     · clear f1
       have hV:=hid (vD (s.extract k (k+n)) w (by rw [ByteArray.size_extract]; omega) hT)
       cases hv:validD (s.extract k (k+n)).data.toList
       · have fin:=hid (fun w'=>mo.mk' (w:=w) (w':=w') (Bh HR.out hn hl hv))
         rw [hv] at hV
         go_enter Tryz.func132,Tryz.ntmps132
         go_wp2_with fail
         refine Calls.mono h1.out ?_
         rintro x w' ⟨rfl,rfl⟩
         go_wp2_with fail
         refine Calls.mono hV.out ?_
         rintro x w1 ⟨rfl,hb⟩
         go_wp2
         refine bodyPost_ret (v:=.tuple #[.string ⟨#[]⟩,.int .i64 0,.int .i64 4]) (by simp [results,Tryz.results132,go_sem]) rfl (fin.out _ hb)
       · have fin:=hid (fun w'=>mo.mk' (w:=w) (w':=w') (Co HR.out hn hl hv))
         rw [hv] at hV
         go_enter Tryz.func132,Tryz.ntmps132
         go_wp2_with fail
         refine Calls.mono h1.out ?_
         rintro x w' ⟨rfl,rfl⟩
         go_wp2_with fail
         refine Calls.mono hV.out ?_
         rintro x w1 ⟨rfl,hb⟩
         go_wp2
         refine bodyPost_ret (v:=.tuple #[.string (s.extract k (k+n)),.int .i64 ((k:Int)+n),.int .i64 0]) (by simp [results,Tryz.results132,go_sem]) rfl ?_
         have:=fin.out _ hb
         rw [Int.natCast_add] at this
         exact this
 · have fin:=hid (mo.mk' (w:=w) (w':=w) (Dv HR.out he) (Below.refl _ _))
   clear f4 f1
   go_enter Tryz.func132,Tryz.ntmps132
   go_wp2_with fail
   refine Calls.mono h1.out ?_
   rintro x w' ⟨rfl,rfl⟩
   go_wp2
   refine bodyPost_ret (v:=.tuple #[.string ⟨#[]⟩,.int .i64 0,.int .i64 (e:Int)]) (by simp [results,Tryz.results132,go_sem]) rfl fin.out
theorem cU {s:ByteArray} (h:cK s=true):s.size≤16:=by
 by_cases hs:s.size≤16
 · exact hs
 · unfold cK at h; rw [sJ hs] at h; simp at h
theorem iI {s:ByteArray} (h:iZ s=true):s.size≤16:=by
 by_cases hs:s.size≤16
 · exact hs
 · rw [sJ hs] at h; simp at h
theorem fQ {j:aB} (h:eZ j=0):cK j.name=true∧iZ j.tag=true∧(-1000≤j.prio∧j.prio≤1000)∧(0≤j.need∧j.need≤1000000)∧(0≤j.tries∧j.tries≤100):=by
 unfold eZ at h
 by_cases h1:(cK j.name && iZ j.tag)=true
 · rw [if_pos h1] at h
   by_cases h2:(ranged j.prio (-1000) 1000 && ranged j.need 0 1000000 && ranged j.tries 0 100)=true
   · simp only [Bool.and_eq_true] at h1 h2
     exact⟨h1.1,h1.2,aZ.1 h2.1.1,aZ.1 h2.1.2,aZ.1 h2.2⟩
   · rw [if_neg h2] at h; exact absurd h (by decide)
 · rw [if_neg h1] at h; exact absurd h (by decide)
theorem iJ {n:av} (h:eV n=0):cK n.name=true∧iZ n.zone=true∧(0≤n.room∧n.room≤1000000):=by
 unfold eV at h
 by_cases h1:(cK n.name && iZ n.zone)=true
 · rw [if_pos h1] at h
   by_cases h2:ranged n.room 0 1000000=true
   · simp only [Bool.and_eq_true] at h1
     exact⟨h1.1,h1.2,aZ.1 h2⟩
   · rw [if_neg h2] at h; exact absurd h (by decide)
 · rw [if_neg h1] at h; exact absurd h (by decide)
theorem Dz {l:ak} (h:lsE l=0):cK l.job=true∧cK l.node=true∧(0≤l.till∧l.till≤1099511627776):=by
 unfold lsE at h
 by_cases h1:(cK l.job && cK l.node)=true
 · rw [if_pos h1] at h
   by_cases h2:ranged l.till 0 1099511627776=true
   · simp only [Bool.and_eq_true] at h1
     exact⟨h1.1,h1.2,aZ.1 h2⟩
   · rw [if_neg h2] at h; exact absurd h (by decide)
 · rw [if_neg h1] at h; exact absurd h (by decide)
def tQ (s:ByteArray):ByteArray × Int:=if 16<s.size then (⟨#[]⟩,2) else if validD s.data.toList=true then (⟨#[UInt8.ofNat s.size]⟩ ++ s,0) else (⟨#[]⟩,4)
def lq (s:ByteArray) (w:World) (e:Ending) (w':World):Prop:=e = .returned (.tuple #[.string (tQ s).1,.int .i64 (tQ s).2])∧Below w.heap.size w w'
theorem lq.large {s:ByteArray} {w w':World} (h:16<s.size) (hb:Below w.heap.size w w'):lq s w (.returned (.tuple #[.string ⟨#[]⟩,.int .i64 2])) w':=⟨by unfold tQ; rw [if_pos h],hb⟩
theorem lq.form {s:ByteArray} {w w':World} (h:¬ 16<s.size) (hv:validD s.data.toList=false) (hb:Below w.heap.size w w'):lq s w (.returned (.tuple #[.string ⟨#[]⟩,.int .i64 4])) w':=⟨by unfold tQ; rw [if_neg h,if_neg (by rw [hv]; simp)],hb⟩
theorem lq.ok {s x:ByteArray} {w w':World} (h:¬ 16<s.size) (hv:validD s.data.toList=true) (hx:x=⟨#[UInt8.ofNat s.size]⟩ ++ s) (hb:Below w.heap.size w w'):lq s w (.returned (.tuple #[.string x,.int .i64 0])) w':=⟨by unfold tQ; rw [if_neg h,if_pos hv,hx],hb⟩
theorem KM (s:ByteArray) (w:World) (hs:s.size≤9223372036854775807) (hT:Tabs w):Calls Tryz.prog 169 #[.string s] w (lq s w):=by
 by_cases h:16<s.size
 · have fin:=hid (lq.large (w:=w) (w':=w) h (Below.refl _ _))
   go_enter Tryz.func169,Tryz.ntmps169
   go_wp2
   go_ret2
   exact fin.out
 · have hV:=hid (vD s w hs hT)
   cases hv:validD s.data.toList
   · have fin:=hid (fun w'=>lq.form (w:=w) (w':=w') h hv)
     rw [hv] at hV
     go_enter Tryz.func169,Tryz.ntmps169
     go_wp2_with fail
     refine Calls.mono hV.out ?_
     rintro e w1 ⟨rfl,hb⟩
     go_wp2
     go_ret2
     exact fin.out _ hb
   · have fin:=hid (fun x w'=>lq.ok (x:=x) (w:=w) (w':=w') h hv)
     rw [hv] at hV
     have hsz:=hid (sK (n:=s.size) (by omega))
     go_enter Tryz.func169,Tryz.ntmps169
     go_wp2_with fail
     refine Calls.mono hV.out ?_
     rintro e w1 ⟨rfl,hb⟩
     go_wp2_with fail
     refine Calls.mono (yL (s.size:Int) w1 (by omega) (by omega)) ?_
     rintro e w2 ⟨rfl,hb2⟩
     rw [show ((s.size:Int)).toNat=s.size from by omega,hsz.out]
     have hb3:=hid (hb.trans (hb2.mono hb.size))
     clear hb hb2
     go_wp2
     go_ret2
     exact fin.out _ _ rfl hb3.out
theorem AV (B n:Nat) (i:Int) (h0 : -9223372036854775808≤i) (h1:i≤9223372036854775807) (sv:Value) (xs:List Value) (w:World) (hown:w.ownsRow B 5 1 sv n xs) (hBw:B≤w.heap.size) (hlim:n+21≤140737488355328)
 (htab : Lib.TabBelow Tryz.prog B w "internal/strconv.uint64pow10" .u64 Lib.pow10Tab) :
 Calls Tryz.prog 75 #[sv,.int .i64 i,.int .i64 10] w fun e w'=>∃ v',e = .returned v'∧w'.ownsRow B 5 1 v' (n+(Lib.itoa i).length) (xs ++ Lib.byteCells (Lib.itoa i))∧RowKit.Below B w w'∧Lib.OthersKept 5 none w w':=Any.strconv_AppendInt_10 Cr B n i h0 h1 sv xs w hown hBw hlim htab
end Go.Proofs.YtcpgnjmaampglaaGreatDoor
