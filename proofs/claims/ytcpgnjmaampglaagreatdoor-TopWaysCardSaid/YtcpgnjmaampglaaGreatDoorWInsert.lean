/- Of the proof of a statement: Insert, Delete, DelFunc, StTop, PlFrs, CkSz. -/
import Derived.Lib.Overlaps
import Derived.Laws.Externs
import Derived.Lib.QuietBelow
import Derived.Test.YtcpgnjmaampglaaGreatDoorWPlJson
import Derived.Test.YtcpgnjmaampglaaGreatDoorWRPhQ
import Derived.Test.YtcpgnjmaampglaaGreatDoorWRowsC
import Derived.Test.YtcpgnjmaampglaaGreatDoorWTake
set_option linter.unusedVariables false
set_option linter.unusedSimpArgs false
set_option maxRecDepth 100000
set_option maxHeartbeats 8000000
/- slices.Insert of one row into a row of the call's own. -/
namespace Go.Proofs.YtcpgnjmaampglaaGreatDoor
open Go.Lib (hid)
open Go.RowKit
theorem BB {P:Program} {w:World} {ops:Array Oper} {rest:List Oper} {o:Oper} {a:Act} {Q:Exit→Act→World→Prop} {α:Type} (enc:α→List Value) (hgd:o.guard=none) (s x:Operand) (t e:TypeId) (z:Value) (sz bytes:Nat) (ho:o.op = .call { callee:=.builtin .append,args:=#[s,x],argTypes:=#[t,t] })
 (ht:P.underlying t=some (.slice e)) (hinfo:(P.info? e).map (fun i=>(i.zero,i.size,i.bytes))=some (some z,sz,bytes)) (hzs:z.cells.size=sz) (hsz:0<sz)
 (henc:∀ a,(enc a).length=sz) (h1:∀ a,∀ u ∈ enc a,u.oneCell'=true)
 (base:Nat) (A:Option Addr) (m c:Nat) (l:List α) (hs:a.eval s = .slice A m c) (hown:w.ownsRow base e sz (.slice A m c) m (au enc l))
 (b:α) (g c2:Nat) (hr:dw w g 0 (enc b)) (hx:a.eval x = .slice (some ⟨g,0,none⟩) 1 c2) (hm:(m+1)*bytes≤140737488355328) (h63:m+1≤maxLen) (hbase:base≤w.heap.size)
 (h:∀ A' c' w',w'.ownsRow base e sz (.slice A' (m+1) c') (m+1) (au enc (l ++ [b]))→dE w w' (.slice A m c) (.slice A' (m+1) c')→wpList P ops Q rest (a.put o.dst (.slice A' (m+1) c')) w') :
 wpList P ops Q (o :: rest) a w:=by
 obtain⟨i0,hi,hz0,hz1,hz2⟩:=info_parts hinfo
 refine wpList_append_own_at _ hgd s x t ho base e i0 z sz bytes ht hi hz0 hz1 hz2 hzs hsz _ m _ hs hown ⟨g,0,none⟩ 1 c2 (enc b) hx (by rw [henc,Nat.one_mul]) (fun j u hu=>by
  have ea:(⟨g,0,none⟩:Addr).add j=⟨g,0+j,none⟩:=by unfold Addr.add; split <;> simp_all
  rw [ea]; exact hr j u hu) (fun u hu=>h1 _ _ hu) h63 hm hbase (fun v' w' o' g' hnil hb=>?_)
 have e1:au enc l ++ enc b=au enc (l ++ [b]):=by rw [dK,kO]
 rw [e1] at o'
 obtain⟨g,cap,hv,_⟩:=o'.form (by omega)
 subst hv
 refine h _ _ _ o' ⟨g',?_⟩
 rcases hb with hb | hb
 · exact .inl hb
 · exact .inr ⟨_,hb,Nat.le_refl _⟩
def jY {α:Type} (enc:α→List Value) (base:Nat) (T:TypeId) (sz:Nat) (A:Option Addr) (n c:Nat) (l:List α) (w:World) (e:Ending) (w':World):Prop:=
 ∃ A' m c',e = .returned (.slice A' m c')∧m=l.length∧w'.ownsRow base T sz (.slice A' m c') m (au enc l)∧dE w w' (.slice A n c) (.slice A' m c')
theorem um:(Tryz.prog.info? 59).map (fun i=>(i.zero,i.size,i.bytes))=some (some (.agg #[.string ⟨#[]⟩,.int .i64 0,.int .i64 0,.int .i64 0,.string ⟨#[]⟩]),5,56):=by kernel_rfl
theorem mJ (a:aB) (u:Value) (h:u ∈ aH a):u.oneCell'=true:=by
 simp only [aH,List.mem_cons,List.not_mem_nil,or_false] at h
 rcases h with rfl | rfl | rfl | rfl | rfl <;> rfl
theorem LB (base:Nat) (A:Option Addr) (n c vb:Nat) (l:List aB) (x:aB) (w:World) (ho:w.ownsRow base 59 5 (.slice A n c) n (au aH l)) (hl:l.length=n) (hn:n≤1000) (hv:dw w vb 0 (aH x)) (hbase:base≤w.heap.size) :
 Calls Tryz.prog 248 #[.slice A n c,.int .i64 n,.slice (some ⟨vb,0,none⟩) 1 1] w (jY aH base 59 5 A n c (l ++ [x]) w):=by
 have Ho:=hid ho
 have Hv:=hid hv
 have Hl:=hid (show n+1=(l ++ [x]).length by simp [hl])
 clear ho hv hl
 by_cases hcn:c=n
 · subst hcn
   go_enter Tryz.func248,Tryz.ntmps248
   go_wp2_with (at_builtin; refine BB aH rfl _ _ 22 59 (.agg #[.string ⟨#[]⟩,.int .i64 0,.int .i64 0,.int .i64 0,.string ⟨#[]⟩]) 5 56 rfl Tryz.underlying22 um rfl (by decide) aN mJ base A c c l rfl Ho.out x vb 1 Hv.out rfl (by omega) (by unfold maxLen; omega) hbase ?_; intro A' c' w' ho' hg')
   go_ret
   exact⟨A',c+1,c',rfl,Hl.out,ho',hg'⟩
 · go_enter Tryz.func248,Tryz.ntmps248
   go_wp2_with (at_builtin; refine BB aH rfl _ _ 22 59 (.agg #[.string ⟨#[]⟩,.int .i64 0,.int .i64 0,.int .i64 0,.string ⟨#[]⟩]) 5 56 rfl Tryz.underlying22 um rfl (by decide) aN mJ base A n c l rfl Ho.out x vb 1 Hv.out rfl (by omega) (by unfold maxLen; omega) hbase ?_; intro A' c' w' ho' hg')
   go_ret
   exact⟨A',n+1,c',rfl,Hl.out,ho',hg'⟩
theorem LC (base g n c vb k:Nat) (l:List aB) (x:aB) (w:World) (ho:w.ownsRow base 59 5 (.slice (some ⟨g,0,none⟩) n c) n (au aH l)) (hl:l.length=n) (hn:n≤1000) (hk:k<n) (hroom:n+1≤c) (hv:Blk w vb 59 (aH x).toArray) (hvg:vb≠g) (hbase:base≤w.heap.size) :
 Calls Tryz.prog 248 #[.slice (some ⟨g,0,none⟩) n c,.int .i64 k,.slice (some ⟨vb,0,none⟩) 1 1] w (jY aH base 59 5 (some ⟨g,0,none⟩) n c (l.take k ++ x :: l.drop k) w):=by
 obtain⟨cur,hR,hnc,htk⟩:=kH.of ho
 have hc63:=hR.cap_
 unfold maxLen at hc63
 have Hl:=hid hl
 have HR:=hid hR
 have Htk:=hid htk
 have Hv:=hid hv
 have hb2:¬ (c=k+1):=by omega
 have hb4:¬ (c=k):=by omega
 have hz2:¬ ((k:Int)=(n:Int)):=by omega
 have hw1:IntKind.i64.wrap ((k:Int)+1)=(k:Int)+1:=by rw [IntKind.wrap_i64]; omega
 have hb1:(0:Int)≤(k:Int)+1:=by omega
 have htn:((k:Int)+1).toNat=k+1:=by omega
 have hb3:(k:Int)≤(n:Int)+1:=by omega
 have hb5:(k:Int)+1≤(n:Int)+1:=by omega
 have hinfo:(Tryz.prog.info? 59).map (·.size)=some 5:=by
  obtain⟨i0,hi,hz0,hz1,hz2⟩:=info_parts um
  rw [hi]; simp [hz1]
 have hsa:w.shape? vb=some (59,5):=by unfold World.shape?; rw [show w.heap[vb]? = some (.cells (aH x).toArray 59 (0,0)) from hv]; rfl
 have hsb:w.shape? g=some (59,cur.size):=by unfold World.shape?; rw [hR.blk]
 have hov:∀ lb cb,(callFunc 278 #[.slice (some ⟨vb,0,none⟩) 1 1,.slice (some ⟨g,(k+1)*5,none⟩) lb cb]).run Tryz.prog w = .ok (.value (.bool false)) w:=fun lb cb=>by
  rw [run_callFunc_extern Tryz.func278 (by kernel_rfl) (by kernel_rfl) (by kernel_rfl) (e:=Extern.SlicesOverlaps.overlaps #[22,22] #[4]) (by kernel_rfl),
   Lib.run_overlaps_apart w 22 4 59 Tryz.underlying22 5 Tryz.sizeOf59 ⟨vb,0,none⟩ ⟨g,(k+1)*5,none⟩ 1 1 lb cb hvg 59 59 5 cur.size hsa hsb (by rw [hR.size]; omega) (hv.thaw 0) (hv.thaw 5)]
  rfl
 obtain⟨L,hL⟩:∃ L,cur.toList=L:=⟨_,rfl⟩
 have hLl:L.length=c*5:=by rw [← hL,Array.length_toList,hR.size]
 obtain⟨C1,hC1⟩:∃ C1,(L.drop (k*5)).take (n*5 - k*5)=C1:=⟨_,rfl⟩
 have lC1:C1.length=(n - k)*5:=by rw [← hC1,List.length_take,List.length_drop,hLl]; omega
 have m1C:∀ v ∈ C1,v ∈ au aH l:=fun v hv'=>by
  rw [← hC1,← List.drop_take,← hL,htk] at hv'
  exact List.mem_of_mem_drop hv'
 have one:∀ v ∈ au aH l,v.oneCell'=true:=fun v hv'=>by
  obtain⟨a,_,ha⟩:=List.mem_flatMap.1 hv'
  exact mJ a v ha
 have hcp1:∀ ty dc sc,(Builtin.copy_ #[22,22] ty #[.slice (some ⟨g,(k+1)*5,none⟩) (n - k) dc,.slice (some ⟨g,k*5,none⟩) (n+1 - k) sc]).run Tryz.prog w.drew = .ok (.int .i64 ((n - k:Nat):Int)) (w.drew.setRow g (cur.toList.take ((k+1)*5) ++ C1 ++ cur.toList.drop ((k+1)*5+C1.length)).toArray):=fun ty dc sc=>by
  have h:=kY (P:=Tryz.prog) w.drew 22 22 ty 59 5 g ((k+1)*5) (n - k) dc ⟨g,k*5,none⟩ (n+1 - k) sc cur 59 C1 Tryz.underlying22 hinfo hR.blk (by rw [lC1]; congr 1; show _=min _ _; omega)
   (fun j v hj=>(hR.cells (k*5)) j v (by
    rw [hL]
    rw [← hC1,List.getElem?_take] at hj
    split at hj
    · exact hj
    · cases hj)) (by rw [lC1,hR.size]; omega) (fun v hv'=>one v (m1C v hv'))
  rw [h]
  congr 2
  congr 1
  show min _ _=_
  omega
 obtain⟨kP,uo⟩:∃ kP,(cur.toList.take ((k+1)*5) ++ C1 ++ cur.toList.drop ((k+1)*5+C1.length)).toArray=kP:=⟨_,rfl⟩
 rw [uo] at hcp1
 have hs1:kP.size=c*5:=by rw [← uo]; simp only [List.size_toArray,List.length_append,List.length_take,List.length_drop,hL,hLl,lC1]; omega
 have hR1:kH (w.drew.setRow g kP) base 59 5 g c kP:=kH.set (w:=w.drew) ⟨hR.ge,hR.blk,hR.cap_,hR.size⟩ kP hs1
 have hv1:Blk (w.drew.setRow g kP) vb 59 (aH x).toArray:=(setRow_other w.drew g vb kP hvg).trans hv
 obtain⟨W1,hW1⟩:∃ W1,w.drew.setRow g kP=W1:=⟨_,rfl⟩
 rw [hW1] at hcp1 hR1 hv1
 obtain⟨oV,uq⟩:∃ oV,(kP.toList.take (k*5) ++ aH x ++ kP.toList.drop (k*5+(aH x).length)).toArray=oV:=⟨_,rfl⟩
 have hcp2:∀ ty dc,(Builtin.copy_ #[22,22] ty #[.slice (some ⟨g,k*5,none⟩) (n+1 - k) dc,.slice (some ⟨vb,0,none⟩) 1 1]).run Tryz.prog W1 = .ok (.int .i64 ((1:Nat):Int)) (W1.setRow g oV):=fun ty dc=>by
  have h:=kY (P:=Tryz.prog) W1 22 22 ty 59 5 g (k*5) (n+1 - k) dc ⟨vb,0,none⟩ 1 1 kP 59 (aH x) Tryz.underlying22 hinfo hR1.blk (by rw [aN]; show _=min _ _*_; rw [Nat.min_eq_left (by omega)])
   (fun j v hj=>by
    have ea:(⟨vb,0,none⟩:Addr).add j=⟨vb,j,none⟩:=by unfold Addr.add; split <;> simp_all
    rw [ea,hv1.cell j,List.getElem?_toArray]; exact hj) (by rw [aN,hs1]; omega) (fun v hv'=>mJ x v hv')
  rw [h,uq]
  congr 2
  congr 1
  show min _ _=_
  omega
 have hs2:oV.size=c*5:=by rw [← uq]; simp only [List.size_toArray,List.length_append,List.length_take,List.length_drop,Array.length_toList,hs1,aN]; omega
 have hfin:=(hR1.set oV hs2).own (n:=n+1) (by omega) (xs:=au aH (l.take k ++ x :: l.drop k)) (by
  have h:=Fo (L:=L) (R:=au aH l) (X:=aH x) (a:=k*5) (b:=n*5) (s:=5) (Nat.mul_le_mul_right _ (by omega)) (by omega) (aN x) (by rw [← hL]; exact htk)
  rw [dK,show au aH (x :: l.drop k)=aH x ++ au aH (l.drop k) from rfl,← pH aN,← pI aN,← List.append_assoc,← h,← uq,← uo]
  simp only [hL,lC1,aN]
  rw [← hC1,show (k+1)*5=k*5+5 by omega,show (n+1)*5=n*5+5 by omega,show (n - k)*5=n*5 - k*5 by omega])
 have hgr:dE w (W1.setRow g oV) (.slice (some ⟨g,0,none⟩) n c) (.slice (some ⟨g,0,none⟩) (n+1) c):=by
  rw [← hW1]
  exact (show dE w (w.drew.setRow g kP) (.slice (some ⟨g,0,none⟩) n c) (.slice (some ⟨g,0,none⟩) n c) from Ck w g n n c c kP).trans (Dt _ g n (n+1) c c oV)
 have cX:=hid (show jY aH base 59 5 (some ⟨g,0,none⟩) n c (l.take k ++ x :: l.drop k) w (.returned (.slice (some ⟨g,0,none⟩) (n+1) c)) (W1.setRow g oV) from ⟨_,n+1,c,rfl,by rw [List.length_append,List.length_cons,List.length_take,List.length_drop]; omega,hfin,hgr⟩)
 clear hl hR htk hv hvg ho Hl HR Htk Hv hsa hsb hinfo hL hLl hC1 lC1 m1C one uo hs1 hR1 hv1 hW1 uq hs2 hfin hgr
 go_enter Tryz.func248,Tryz.ntmps248
 go_wp2_with (simp only [hov])
 go_region_law (refine qG rfl _ _ 22 22 rfl _ _ (by simp [Act.eval,Act.put]) (by simp [Act.eval,Act.put]) (hcp1 _ _ _) ?_)
 go_wp2_with (refine oD _ rfl _ _ 22 22 rfl _ _ rfl rfl (hcp2 _ _) ?_)
 go_ret
 exact cX.out
theorem LD (base g n vb k:Nat) (l:List aB) (x:aB) (w:World) (ho:w.ownsRow base 59 5 (.slice (some ⟨g,0,none⟩) n n) n (au aH l)) (hl:l.length=n) (hn:n≤1000) (hk:k<n) (hv:Blk w vb 59 (aH x).toArray) (hbase:base≤w.heap.size) :
 Calls Tryz.prog 248 #[.slice (some ⟨g,0,none⟩) n n,.int .i64 k,.slice (some ⟨vb,0,none⟩) 1 1] w (jY aH base 59 5 (some ⟨g,0,none⟩) n n (l.take k ++ x :: l.drop k) w):=by
 obtain⟨cur,hR,hnc,htk⟩:=kH.of ho
 have hz2:¬ ((k:Int)=(n:Int)):=by omega
 have hb4:¬ (n=k):=by omega
 have hw1:IntKind.i64.wrap ((k:Int)+1)=(k:Int)+1:=by rw [IntKind.wrap_i64]; omega
 have hb1:(0:Int)≤(k:Int)+1:=by omega
 have htn:((k:Int)+1).toNat=k+1:=by omega
 have hb5:(k:Int)+1≤(n:Int)+1:=by omega
 have hb3:(k:Int)≤(n:Int):=by omega
 obtain⟨i0,hi0,hz0,hz1,hzb⟩:=info_parts um
 have hinfo:(Tryz.prog.info? 59).map (·.size)=some 5:=by rw [hi0]; simp [hz1]
 obtain⟨L,hL⟩:∃ L,cur.toList=L:=⟨_,rfl⟩
 have hLl:L.length=n*5:=by rw [← hL,Array.length_toList,hR.size]
 have hLr:L=au aH l:=by rw [← htk,hL,List.take_of_length_le (by omega)]
 have one:∀ v ∈ au aH l,v.oneCell'=true:=fun v hv'=>by
  obtain⟨a,_,ha⟩:=List.mem_flatMap.1 hv'
  exact mJ a v ha
 have hold:(Builtin.firstCells i0.size k (.slice (some ⟨g,0,none⟩) k n)).run Tryz.prog w.drew = .ok (L.take (k*5)).toArray w.drew:=by
  refine run_firstCells_some (P:=Tryz.prog) w.drew i0.size k ⟨g,0,none⟩ k n _ (by rw [List.length_take,hz1]; omega) (fun j v hj=>?_)
  have h:=hR.cells 0 j v (by
   rw [List.drop_zero,hL]
   rw [List.getElem?_take] at hj
   split at hj
   · exact hj
   · cases hj)
  exact h
 obtain⟨C,hC⟩:∃ C,grownCap w (n+1) n 59 = C:=⟨_,rfl⟩
 have hCn:n+1≤C:=by rw [← hC]; exact grownCap_ge w _ _ _
 have hCm:C≤maxLen:=by rw [← hC]; exact grownCap_le_maxLen w _ _ _ (by unfold maxLen; omega)
 have hCm':=hCm
 unfold maxLen at hCm'
 obtain⟨vY,Ip⟩:∃ vY,(L.take (k*5)).toArray ++ Builtin.zeroCells (Value.cells (.agg #[.string ⟨#[]⟩,.int .i64 0,.int .i64 0,.int .i64 0,.string ⟨#[]⟩])) (n+1 - k) ++ Builtin.zeroCells (Value.cells (.agg #[.string ⟨#[]⟩,.int .i64 0,.int .i64 0,.int .i64 0,.string ⟨#[]⟩])) (C - (n+1))=vY:=⟨_,rfl⟩
 have happ:∀ ty,(Builtin.append_ #[22,3] ty #[.slice (some ⟨g,0,none⟩) k n,.int .i64 ((n:Int)+1 - (k:Int))]).run Tryz.prog w = .ok (.slice (some ⟨w.heap.size,0,none⟩) (n+1) C) (w.drew.alloc (.cells vY 59)):=fun ty=>by
  have h:=Lib.run_append_grow_zeros w 22 3 ty 59 i0 _ .i64 .i64 Tryz.underlying22 Tryz.underlying3 hi0 hz0 (some ⟨g,0,none⟩) k n (L.take (k*5)) hold (n+1 - k) (by omega) (by omega) (by omega) (by omega) (by rw [hzb]; omega) (by rw [hzb,show k+(n+1 - k)=n+1 by omega]; exact growslice_fits (by omega) (by omega))
  rw [show k+(n+1 - k)=n+1 by omega,hC,Ip,show ((n+1 - k:Nat):Int)=(n:Int)+1 - k by omega] at h
  exact h
 have hs0:vY.size=C*5:=by rw [← Ip]; simp only [Array.size_append,List.size_toArray,size_zeroCells,List.length_take,hLl]; show min _ _+_*5+_*5=_; omega
 have h0t:vY.toList.take (k*5)=L.take (k*5):=by
  rw [← Ip,Array.toList_append,Array.toList_append,List.append_assoc,List.take_append_of_le_length (by rw [List.length_take]; omega),List.take_of_length_le (by rw [List.length_take]; omega)]
 obtain⟨W1,hW1⟩:∃ W1,w.drew.alloc (.cells vY 59)=W1:=⟨_,rfl⟩
 have NN:Below w.heap.size w W1:=by rw [← hW1]; exact (Below.refl w.heap.size w).drew.alloc (Nat.le_refl _) _
 have hR1:kH W1 base 59 5 w.heap.size C vY:=by rw [← hW1]; exact⟨hbase,heap_alloc_new w.drew _,hCm,hs0⟩
 have hg1:kH W1 base 59 5 g n cur:=⟨hR.ge,(NN.block g (Array.getElem?_eq_some_iff.1 hR.blk).1).trans hR.blk,hR.cap_,hR.size⟩
 have hv1:Blk W1 vb 59 (aH x).toArray:=hv.below NN hv.lt
 have hgl:g<w.heap.size:=(Array.getElem?_eq_some_iff.1 hR.blk).1
 rw [hW1] at happ
 obtain⟨kP,uo⟩:∃ kP,(vY.toList.take (k*5) ++ aH x ++ vY.toList.drop (k*5+(aH x).length)).toArray=kP:=⟨_,rfl⟩
 have hcp1:∀ ty dc,(Builtin.copy_ #[22,22] ty #[.slice (some ⟨w.heap.size,k*5,none⟩) (n+1 - k) dc,.slice (some ⟨vb,0,none⟩) 1 1]).run Tryz.prog W1 = .ok (.int .i64 ((1:Nat):Int)) (W1.setRow w.heap.size kP):=fun ty dc=>by
  have h:=kY (P:=Tryz.prog) W1 22 22 ty 59 5 w.heap.size (k*5) (n+1 - k) dc ⟨vb,0,none⟩ 1 1 vY 59 (aH x) Tryz.underlying22 hinfo hR1.blk (by rw [aN]; show _=min _ _*_; rw [Nat.min_eq_left (by omega)])
   (fun j v hj=>by
    have ea:(⟨vb,0,none⟩:Addr).add j=⟨vb,j,none⟩:=by unfold Addr.add; split <;> simp_all
    rw [ea,hv1.cell j,List.getElem?_toArray]; exact hj) (by rw [aN,hs0]; omega) (fun v hv'=>mJ x v hv')
  rw [h,uo]
  congr 2
  congr 1
  show min _ _=_
  omega
 have hs1:kP.size=C*5:=by rw [← uo]; simp only [List.size_toArray,List.length_append,List.length_take,List.length_drop,Array.length_toList,hs0,aN]; omega
 have hR2:=hR1.set kP hs1
 have hg2:kH (W1.setRow w.heap.size kP) base 59 5 g n cur:=⟨hg1.ge,(setRow_other W1 w.heap.size g kP (by omega)).trans hg1.blk,hg1.cap_,hg1.size⟩
 obtain⟨W2,hW2⟩:∃ W2,W1.setRow w.heap.size kP=W2:=⟨_,rfl⟩
 have hb2W:Below w.heap.size w W2:=by rw [← hW2]; exact NN.trans ⟨rfl,rfl,rfl,by simp [World.setRow],fun q hq=>setRow_other W1 w.heap.size q kP (by omega)⟩
 rw [hW2] at hcp1 hR2 hg2
 obtain⟨D1,hD1⟩:∃ D1,L.drop (k*5)=D1:=⟨_,rfl⟩
 have lD1:D1.length=(n - k)*5:=by rw [← hD1,List.length_drop,hLl]; omega
 obtain⟨oV,uq⟩:∃ oV,(kP.toList.take ((k+1)*5) ++ D1 ++ kP.toList.drop ((k+1)*5+D1.length)).toArray=oV:=⟨_,rfl⟩
 have hcp2:∀ ty dc sc,(Builtin.copy_ #[22,22] ty #[.slice (some ⟨w.heap.size,(k+1)*5,none⟩) (n - k) dc,.slice (some ⟨g,k*5,none⟩) (n - k) sc]).run Tryz.prog W2.drew = .ok (.int .i64 ((n - k:Nat):Int)) (W2.drew.setRow w.heap.size oV):=fun ty dc sc=>by
  have h:=kY (P:=Tryz.prog) W2.drew 22 22 ty 59 5 w.heap.size ((k+1)*5) (n - k) dc ⟨g,k*5,none⟩ (n - k) sc kP 59 D1 Tryz.underlying22 hinfo hR2.blk (by rw [lD1]; congr 1; show _=min _ _; omega)
   (fun j v hj=>hg2.cells (k*5) j v (by rw [hL,hD1]; exact hj)) (by rw [lD1,hs1]; omega) (fun v hv'=>one v (by rw [← hLr]; rw [← hD1] at hv'; exact List.mem_of_mem_drop hv'))
  rw [h,uq]
  congr 2
  congr 1
  show min _ _=_
  omega
 have hs2:oV.size=C*5:=by rw [← uq]; simp only [List.size_toArray,List.length_append,List.length_take,List.length_drop,Array.length_toList,hs1,lD1]; omega
 have hR3:kH (W2.drew.setRow w.heap.size oV) base 59 5 w.heap.size C oV:=kH.set (w:=W2.drew) ⟨hR2.ge,hR2.blk,hR2.cap_,hR2.size⟩ oV hs2
 have hfin:=hR3.own (n:=n+1) hCn (xs:=au aH (l.take k ++ x :: l.drop k)) (by
  have h:=IW (L:=vY.toList) (X:=aH x) (D:=D1) (a:=k*5) (s:=5) (by have e:vY.toList.length=vY.size:=Array.length_toList; omega) (aN x)
  rw [h0t] at h
  rw [dK,show au aH (x :: l.drop k)=aH x ++ au aH (l.drop k) from rfl,← pH aN,← pI aN,← List.append_assoc,← hLr,hD1,← h,← uq,← uo]
  simp only [lD1,aN,h0t]
  rw [show (k+1)*5=k*5+5 by omega,show (n+1)*5=k*5+5+(n - k)*5 by omega])
 have hgr:dE w (W2.drew.setRow w.heap.size oV) (.slice (some ⟨g,0,none⟩) n n) (.slice (some ⟨w.heap.size,0,none⟩) (n+1) C):=by
  have hb3:Below w.heap.size w (W2.drew.setRow w.heap.size oV):=hb2W.trans ⟨rfl,rfl,rfl,by simp [World.setRow],fun q hq=>setRow_other W2.drew w.heap.size q oV (by omega)⟩
  exact⟨⟨hb3.os,hb3.tape,hb3.output,hb3.size,fun q hq _=>hb3.block q hq⟩,.inr ⟨w.heap.size,rfl,Nat.le_refl _⟩⟩
 have cX:=hid (show jY aH base 59 5 (some ⟨g,0,none⟩) n n (l.take k ++ x :: l.drop k) w (.returned (.slice (some ⟨w.heap.size,0,none⟩) (n+1) C)) (W2.drew.setRow w.heap.size oV) from ⟨_,n+1,C,rfl,by rw [List.length_append,List.length_cons,List.length_take,List.length_drop]; omega,hfin,hgr⟩)
 have Happ:=hid happ
 have Hcp1:=hid hcp1
 have hC1:¬ C=k:=by omega
 have hC2:¬ C=k+1:=by omega
 clear hl hR htk hv ho hinfo hL hLl hLr one hold hC hCm Ip happ hs0 h0t hW1 NN hR1 hg1 hv1 uo hcp1 hs1 hR2 hg2 hW2 hb2W hD1 lD1 uq hs2 hR3 hfin hgr hi0 hz0 hz1 hzb
 go_enter Tryz.func248,Tryz.ntmps248
 go_wp2_with (first | (at_builtin; refine Lib.wpList_append_run _ rfl _ _ 22 3 rfl _ _ rfl rfl _ _ (Happ.out _) ?_) | (refine oD _ rfl _ _ 22 22 rfl _ _ rfl rfl (Hcp1.out _ _) ?_))
 go_region_law (refine qG rfl _ _ 22 22 rfl _ _ (by simp [Act.eval,Act.put]) (by simp [Act.eval,Act.put]) (hcp2 _ _ _) ?_)
 go_wp2
 go_ret
 exact cX.out
theorem NO (base:Nat) (A:Option Addr) (n c vb k:Nat) (l:List aB) (x:aB) (w:World) (ho:w.ownsRow base 59 5 (.slice A n c) n (au aH l)) (hl:l.length=n) (hn:n≤1000) (hk:k≤n) (hv:Blk w vb 59 (aH x).toArray) (hvg:∀ q,(Value.slice A n c).ownBlock=some q→vb≠q) (hbase:base≤w.heap.size) :
 Calls Tryz.prog 248 #[.slice A n c,.int .i64 k,.slice (some ⟨vb,0,none⟩) 1 1] w (jY aH base 59 5 A n c (l.take k ++ x :: l.drop k) w):=by
 by_cases hkn:k=n
 · subst hkn
   rw [List.take_of_length_le (by omega),List.drop_eq_nil_of_le (by omega)]
   exact LB base A k c vb l x w ho hl hn (fun j u hu=>by rw [Nat.zero_add,hv.cell j,List.getElem?_toArray]; exact hu) hbase
 · obtain⟨g,cap,hA,hcap⟩:=ho.form (by omega)
   injection hA with hA _ hc
   subst hA; subst hc
   by_cases hroom:n+1≤c
   · exact LC base g n c vb k l x w ho hl hn (by omega) hroom hv (hvg g rfl) hbase
   · obtain rfl:c=n:=by obtain⟨_,_,h,_⟩:=kH.of ho; omega
     exact LD base g c vb k l x w ho hl hn (by omega) hv hbase
theorem dE.after {w w1 w2:World} {v v':Value} (hb:Below w.heap.size w w1) (hg:dE w1 w2 v v'):dE w w2 v v':=
 dE.trans ⟨⟨hb.os,hb.tape,hb.output,hb.size,fun k hk _=>hb.block k hk⟩,.inl rfl⟩ hg
def CD (L:List Value) (o:Nat):List Value→List Value
 | []=>L
 | v :: r=>CD (L.set o v) (o+1) r
theorem BC:∀ (xs L:List Value) (o:Nat),o+xs.length≤L.length→CD L o xs=L.take o ++ xs ++ L.drop (o+xs.length)
 | [],L,o,_=>by simp [CD]
 | v :: r,L,o,h=>by
  rw [List.length_cons] at h
  rw [CD,BC r (L.set o v) (o+1) (by rw [List.length_set]; omega),list_seg_step L o v r h,List.length_cons]
theorem kH.setCell {w:World} {base g cap sz:Nat} {e:TypeId} {cur:Array Value} (h:kH w base e sz g cap cur) (i:Nat) (v:Value):kH (w.setCell ⟨g,i,none⟩ v) base e sz g cap (cur.setIfInBounds i v):=by
 rw [setCell_eq_setRow w g i cur e (0,0) v h.blk]
 exact h.set _ (by rw [Array.size_setIfInBounds]; exact h.size)
theorem kH.cell {w:World} {base g cap sz:Nat} {e:TypeId} {cur:Array Value} (h:kH w base e sz g cap cur) {i:Nat} {v:Value} (hv:cur.toList[i]? = some v):w.cell? ⟨g,i,none⟩=some v:=by
 rw [cell_of_row w g i cur e (0,0) h.blk,← Array.getElem?_toList]; exact hv
theorem kH.thaw {w:World} {base g cap sz:Nat} {e:TypeId} {cur:Array Value} (h:kH w base e sz g cap cur) (i:Nat):w.frozen? ⟨g,i,none⟩=false:=by
 have:=h.blk
 simp [World.frozen?,this]
theorem Jr {L X R:List Value} {a b s:Nat} (hab:a+s≤b) (hb:b≤L.length) (hX:X.length=s) (hR:L.take b=R) :
 (L.take a ++ X ++ L.drop (a+s)).take b=R.take a ++ X ++ R.drop (a+s):=by
 have l1:(L.take a).length=a:=by rw [List.length_take]; omega
 rw [List.take_append,List.take_of_length_le (by rw [List.length_append,l1,hX]; omega),List.length_append,l1,hX,← hR,List.drop_take,List.take_take,Nat.min_eq_left (by omega)]
theorem jZ {w:World} (g i n n' c c':Nat) (u:Value):dE w (w.setCell ⟨g,i,none⟩ u) (.slice (some ⟨g,0,none⟩) n c) (.slice (some ⟨g,0,none⟩) n' c'):=
 ⟨aO (World.grownBy.refl w (some g)) i u,.inl rfl⟩
theorem F4 (base g n c k:Nat) (l:List aB) (x:aB) (w W:World) (ho:w.ownsRow base 59 5 (.slice (some ⟨g,0,none⟩) n c) n (au aH l)) (hl:l.length=n) (hk:k<n) (hb:Below w.heap.size w W) :
 (∀ j,W.frozen? ⟨g,j,none⟩=false)∧(∀ j,j<n*5→∃ u,W.cell? ⟨g,j,none⟩=some u)∧jY aH base 59 5 (some ⟨g,0,none⟩) n c (l.take k ++ x :: l.drop (k+1)) w (.returned (.slice (some ⟨g,0,none⟩) n c)) (((((W.setCell ⟨g,k*5,none⟩ (.string x.name)).setCell ⟨g,k*5+1,none⟩ (.int .i64 x.prio)).setCell ⟨g,k*5+2,none⟩ (.int .i64 x.need)).setCell ⟨g,k*5+3,none⟩ (.int .i64 x.tries)).setCell ⟨g,k*5+4,none⟩ (.string x.tag)):=by
 obtain⟨cur,hR,hnc,htk⟩:=kH.of (aU ho hb)
 have lc:cur.toList.length=c*5:=by rw [Array.length_toList,hR.size]
 have hR':=(((((hR.setCell (k*5) (.string x.name)).setCell (k*5+1) (.int .i64 x.prio)).setCell (k*5+2) (.int .i64 x.need)).setCell (k*5+3) (.int .i64 x.tries)).setCell (k*5+4) (.string x.tag))
 have e0:(((((cur.setIfInBounds (k*5) (.string x.name)).setIfInBounds (k*5+1) (.int .i64 x.prio)).setIfInBounds (k*5+2) (.int .i64 x.need)).setIfInBounds (k*5+3) (.int .i64 x.tries)).setIfInBounds (k*5+4) (.string x.tag)).toList=cur.toList.take (k*5) ++ aH x ++ cur.toList.drop (k*5+5):=by
  have h:=BC (aH x) cur.toList (k*5) (by rw [aN,lc]; omega)
  rw [aN] at h
  rw [← h]
  simp only [Array.toList_setIfInBounds]
  rfl
 refine⟨hR.thaw,fun j hj=>⟨_,hR.cell (List.getElem?_eq_getElem (by rw [lc]; omega))⟩,_,n,c,rfl,by rw [List.length_append,List.length_cons,List.length_take,List.length_drop,hl]; omega,hR'.own hnc ?_,dE.after hb ((((((jZ g (k*5) n n c c (.string x.name)).trans (jZ g (k*5+1) n n c c (.int .i64 x.prio))).trans (jZ g (k*5+2) n n c c (.int .i64 x.need))).trans (jZ g (k*5+3) n n c c (.int .i64 x.tries))).trans (jZ g (k*5+4) n n c c (.string x.tag))))⟩
 have h:=Jr (L:=cur.toList) (X:=aH x) (R:=au aH l) (a:=k*5) (b:=n*5) (s:=5) (by omega) (by rw [lc]; omega) (aN x) htk
 rw [dK,show au aH (x :: l.drop (k+1))=aH x ++ au aH (l.drop (k+1)) from rfl,← pH aN,← pI aN,← List.append_assoc,show (k+1)*5=k*5+5 by omega,← h,e0]
theorem KV (base:Nat) (A:Option Addr) (n c:Nat) (l:List aB) (x:aB) (w:World) (ho:w.ownsRow base 59 5 (.slice A n c) n (au aH l)) (hl:l.length=n) (hn:n≤999) (hs:aT aB.name l) (hbase:base≤w.heap.size) :
 Calls Tryz.prog 194 #[.slice A n c,.agg (aH x).toArray,.func (.func 49) #[] #[]] w (jY aH base 59 5 A n c (pK aB.name l x) w):=by
 have hput:=D7 (x:=x) hs
 have Nr:=CF (key:=aB.name) l (aB.name x)
 have heg:=enters_of Tryz.func49 (by kernel_rfl) rfl
 obtain⟨k,hk⟩:∃ k,iw aB.name l (aB.name x)=k:=⟨_,rfl⟩
 have hb1:Below w.heap.size w (w.alloc (.cells (aH x).toArray 59)):=(Below.refl _ _).alloc (Nat.le_refl _) _
 have hB1:Blk (w.alloc (.cells (aH x).toArray 59)) w.heap.size 59 (aH x).toArray:=heap_alloc_new w _
 have HP:=hid (fun W (hb:Below w.heap.size w W)=>Jt (aB.name x) l A n c W (cD (aU ho hb)) hl (by omega) hs)
 have Ho:=hid ho
 have Hb1:=hid hb1
 have HB1:=hid hB1
 unfold vZ at HP
 rw [hk] at hput Nr
 simp only [hk] at HP
 cases his:isL aB.name l (aB.name x) with
 | true=>
  rw [his] at hput
  simp only [his] at HP
  obtain⟨y,hy,hky⟩:=F5 his
  rw [hk] at hy
  have hkn:k<n:=by have:=(List.getElem?_eq_some_iff.1 hy).1; omega
  obtain⟨g,cap,hA,hcap⟩:=ho.form (by omega)
  injection hA with hA _ hc
  subst hA; subst hc
  rw [if_pos rfl] at hput
  have HS:=hid (fun W hb=>F4 base g n c k l x w W ho hl hkn hb)
  rw [hput]
  clear hput hb1 hB1 his hy hky hk hl ho Nr hs
  obtain⟨name,prio,need,tries,tag⟩:=x
  have F6:=hid (show Blk (w.alloc (.cells #[.string name,.int .i64 prio,.int .i64 need,.int .i64 tries,.string tag] 59)) w.heap.size 59 #[.string name,.int .i64 prio,.int .i64 need,.int .i64 tries,.string tag] from HB1.out)
  obtain⟨b0,b1,b2,b3,b4⟩:=Blk.c5 (F6.out)
  show Calls Tryz.prog 194 #[.slice (some ⟨g,0,none⟩) n c,.agg #[.string name,.int .i64 prio,.int .i64 need,.int .i64 tries,.string tag],.func (.func 49) #[] #[]] w _
  have Hb1:=hid (show Below w.heap.size w (w.alloc (.cells #[.string name,.int .i64 prio,.int .i64 need,.int .i64 tries,.string tag] 59)) from Hb1.out)
  clear HB1
  go_enter Tryz.func194,Tryz.ntmps194
  go_wp2_with fail
  refine Calls.mono (fT name prio need tries tag _) ?_
  rintro e w2 ⟨rfl,hb2⟩
  have Hb2:=hid (Hb1.out.trans (hb2.mono Hb1.out.size))
  have HB2:=hid (F6.out.below hb2 F6.out.lt)
  clear hb2 b0 b1 b2 b3 b4
  go_wp2_with fail
  refine Calls.mono (HP.out _ Hb2.out) ?_
  rintro e w3 ⟨rfl,hb3⟩
  have Hb3:=hid (Hb2.out.trans (hb3.mono Hb2.out.size))
  have HB3:=hid (HB2.out.below hb3 HB2.out.lt)
  clear hb3 HB2
  obtain⟨hfz,hce,hend⟩:=HS.out w3 Hb3.out
  obtain⟨d0,d1,d2,d3,d4⟩:=Blk.c5 (HB3.out)
  have f0:=hfz (k*5)
  obtain⟨u0,p0⟩:=hce (k*5) (by omega)
  have f1:=hfz (k*5+1)
  obtain⟨u1,p1⟩:=hce (k*5+1) (by omega)
  have f2:=hfz (k*5+2)
  obtain⟨u2,p2⟩:=hce (k*5+2) (by omega)
  have f3:=hfz (k*5+3)
  obtain⟨u3,p3⟩:=hce (k*5+3) (by omega)
  have f4:=hfz (k*5+4)
  obtain⟨u4,p4⟩:=hce (k*5+4) (by omega)
  have cX:=hid hend
  clear hfz hce hend
  go_wp2
  go_ret
  exact cX.out
 | false=>
  rw [his] at hput
  simp only [his] at HP
  rw [if_neg (by decide)] at hput
  rw [hput]
  have Hl:=hid hl
  clear hput hb1 hB1 his hk hl ho hs
  obtain⟨name,prio,need,tries,tag⟩:=x
  have F6:=hid (show Blk (w.alloc (.cells #[.string name,.int .i64 prio,.int .i64 need,.int .i64 tries,.string tag] 59)) w.heap.size 59 #[.string name,.int .i64 prio,.int .i64 need,.int .i64 tries,.string tag] from HB1.out)
  obtain⟨b0,b1,b2,b3,b4⟩:=Blk.c5 (F6.out)
  show Calls Tryz.prog 194 #[.slice A n c,.agg #[.string name,.int .i64 prio,.int .i64 need,.int .i64 tries,.string tag],.func (.func 49) #[] #[]] w _
  have Hb1:=hid (show Below w.heap.size w (w.alloc (.cells #[.string name,.int .i64 prio,.int .i64 need,.int .i64 tries,.string tag] 59)) from Hb1.out)
  clear HB1
  go_enter Tryz.func194,Tryz.ntmps194
  go_wp2_with fail
  refine Calls.mono (fT name prio need tries tag _) ?_
  rintro e w2 ⟨rfl,hb2⟩
  have Hb2:=hid (Hb1.out.trans (hb2.mono Hb1.out.size))
  have HB2:=hid (F6.out.below hb2 F6.out.lt)
  clear hb2 b0 b1 b2 b3 b4
  go_wp2_with fail
  refine Calls.mono (HP.out _ Hb2.out) ?_
  rintro e w3 ⟨rfl,hb3⟩
  have Hb3:=hid (Hb2.out.trans (hb3.mono Hb2.out.size))
  have HB3:=hid (HB2.out.below hb3 HB2.out.lt)
  clear hb3 HB2
  obtain⟨d0,d1,d2,d3,d4⟩:=Blk.c5 (HB3.out)
  have hb4:Below w.heap.size w (w3.alloc (.cells #[.string name,.int .i64 prio,.int .i64 need,.int .i64 tries,.string tag] 59)):=Hb3.out.alloc Hb3.out.size _
  have hB4:Blk (w3.alloc (.cells #[.string name,.int .i64 prio,.int .i64 need,.int .i64 tries,.string tag] 59)) w3.heap.size 59 (aH ⟨name,prio,need,tries,tag⟩).toArray:=heap_alloc_new w3 _
  have HI:=hid (NO base A n c w3.heap.size k l ⟨name,prio,need,tries,tag⟩ (w3.alloc (.cells #[.string name,.int .i64 prio,.int .i64 need,.int .i64 tries,.string tag] 59)) (aU Ho.out hb4) Hl.out (by omega) (by have:=Hl.out; omega) hB4 (fun q hq=>by have:=(Ho.out.lt q hq).2; have:=Hb3.out.size; omega) (Nat.le_trans hbase hb4.size))
  have Hb4:=hid hb4
  clear hb4 hB4
  go_wp2_with fail
  refine Calls.mono HI.out ?_
  rintro e w5 ⟨A',m,c',rfl,hm,ho',hg'⟩
  have cX:=hid (show jY aH base 59 5 A n c (l.take k ++ ⟨name,prio,need,tries,tag⟩ :: l.drop k) w (.returned (.slice A' m c')) w5 from ⟨A',m,c',rfl,hm,ho',dE.after Hb4.out hg'⟩)
  clear hm ho' hg' d0 d1 d2 d3 d4
  go_wp2
  go_ret
  exact cX.out
theorem jY.out {α:Type} {enc:α→List Value} {base:Nat} {T:TypeId} {sz:Nat} {A A1:Option Addr} {n c n1 c1:Nat} {l:List α} {w w':World} (h:jY enc base T sz A n c l w (.returned (.slice A1 n1 c1)) w') :
 n1=l.length∧w'.ownsRow base T sz (.slice A1 n1 c1) n1 (au enc l)∧dE w w' (.slice A n c) (.slice A1 n1 c1):=by
 obtain⟨A',m,c',e,hm,ho,hg⟩:=h
 injection e with e
 injection e with e1 e2 e3
 subst e1; subst e2; subst e3
 exact⟨hm,ho,hg⟩
theorem fq (st:ah) (x:StA) (w:World) (hS:StAt w w.heap.size st x) (hT:Tabs w) :
 Calls Tryz.prog 7 #[.agg (stC st x)] w fun e w'=>e = .returned (.int .i64 (ay st))∧Below w.heap.size w w':=by
 have hb1:Below w.heap.size w (w.alloc (.cells (stC st x) 26)):=(Below.refl _ _).alloc (Nat.le_refl _) _
 have hC:=hid (Ju st x _ ((hS.below hb1).more hb1.size) (hT.below hb1))
 have Hb1:=hid hb1
 clear hb1 hS hT
 obtain⟨E,hE⟩:∃ E,ay st=E:=⟨_,rfl⟩
 rw [hE]
 have HE:=hid hE
 clear hE
 obtain⟨rev,jobs,nodes,leases⟩:=st
 obtain⟨aj,nj,cj,an,nn,cn,al,nl,cl⟩:=x
 simp only [stC] at *
 go_enter Tryz.func7,Tryz.ntmps7
 go_wp2_with fail
 refine Calls.mono hC.out ?_
 rintro e w1 ⟨hb,hcase⟩
 have Hb:=hid (Hb1.out.trans (hb.mono Hb1.out.size))
 clear hb hC
 rw [HE.out] at hcase
 clear HE
 rcases hcase with ⟨hE,rfl⟩ | ⟨rfl,T,b1,b2,b3,n1,n2,n3,g3,rfl,-,-⟩
 · go_wp2
   refine bodyPost_ret (v:=.int .i64 E) (by simp [results,Tryz.results7,go_sem]) rfl ⟨rfl,Hb.out⟩
 · go_wp2
   refine bodyPost_ret (v:=.int .i64 0) (by simp [results,Tryz.results7,go_sem]) rfl ⟨rfl,Hb.out⟩
theorem F7 {s:ByteArray} {f:bL} {n e:Nat} (h:eK s=(f,n,e)):(e≠0→f = .zero∧n=0)∧(e=0→9≤n∧n≤s.size):=by
 unfold eK at h
 by_cases hd:jU s=0
 · rw [if_pos hd] at h
   obtain⟨n',k,x,hr⟩:∃ n k x,rdNum (s.extract 4 s.size)=(n,k,x):=⟨_,_,_,rfl⟩
   have hf:=jG hr
   rw [hr] at h
   dsimp only at h
   by_cases hx:x=0
   · rw [if_pos hx] at h
     have h1:=(hf.2.2.2 hx).1
     by_cases hn:6000<n'
     · rw [if_pos hn] at h; cases h; exact⟨fun _=>⟨rfl,rfl⟩,fun h=>absurd h (by omega)⟩
     · rw [if_neg hn] at h
       by_cases hl:s.size<8+k+n'
       · rw [if_pos hl] at h; cases h; exact⟨fun _=>⟨rfl,rfl⟩,fun h=>absurd h (by omega)⟩
       · rw [if_neg hl] at h
         split at h
         · cases h; exact⟨fun h=>absurd rfl h,fun _=>⟨by omega,by omega⟩⟩
         · cases h; exact⟨fun _=>⟨rfl,rfl⟩,fun h=>absurd h (by omega)⟩
   · rw [if_neg hx] at h; cases h; exact⟨fun _=>⟨rfl,rfl⟩,fun h=>absurd h hx⟩
 · rw [if_neg hd] at h; cases h; exact⟨fun _=>⟨rfl,rfl⟩,fun h=>absurd h hd⟩
inductive Frs:ByteArray→List bL→Nat→Nat→Prop
 | stop {s:ByteArray} {e:Nat}:eK s=(.zero,0,e)→e≠0→Frs s [] 0 e
 | step {s:ByteArray} {f:bL} {n:Nat} {fs:List bL} {m e:Nat}:eK s=(f,n,0)→1≤n→n≤s.size→Frs (s.extract n s.size) fs m e→Frs s (f :: fs) (n+m) e
theorem Frs.all_:∀ (k:Nat) (s:ByteArray),s.size≤k→∃ fs m e,Frs s fs m e
 | k,s,hk=>by
  obtain⟨f,n,e,h⟩:∃ f n e,eK s=(f,n,e):=⟨_,_,_,rfl⟩
  obtain⟨h1,h2⟩:=F7 h
  by_cases he:e=0
  · subst he
    obtain⟨h3,h4⟩:=h2 rfl
    match k,hk with
    | 0,hk=>omega
    | k+1,hk=>
     obtain⟨fs,m,e,hr⟩:=Frs.all_ k (s.extract n s.size) (by rw [ByteArray.size_extract]; omega)
     exact⟨_,_,_,.step h (by omega) h4 hr⟩
  · obtain⟨rfl,rfl⟩:=h1 he
    exact⟨_,_,_,.stop h he⟩
theorem Frs.all (s:ByteArray):∃ fs m e,Frs s fs m e:=Frs.all_ s.size s (Nat.le_refl _)
theorem Frs.facts {s:ByteArray} {fs:List bL} {m e:Nat} (h:Frs s fs m e):m≤s.size∧e≠0∧fs.length≤m:=by
 induction h with
 | stop _ he=>exact⟨Nat.zero_le _,he,Nat.le_refl _⟩
 | step _ h1 h2 _ ih=>
  rw [ByteArray.size_extract] at ih
  refine⟨by omega,ih.2.1,?_⟩
  rw [List.length_cons]; omega
theorem qK {st:ah} (h:ay st=0):st.jobs.length≤40∧st.nodes.length≤20∧st.leases.length≤40:=by
 have hz:dR st=true:=by
  cases hr:ranged st.rev 0 1099511627776 with
  | false=>rw [F8 hr] at h; exact absurd h (by decide)
  | true=>
   cases hs:dR st with
   | true=>rfl
   | false=>rw [qT hr hs] at h; exact absurd h (by decide)
 unfold dR at hz
 simp at hz
 omega
theorem StAt.upE {w w':World} {st:ah} {x:StA} (hS:StAt w w.heap.size st x) (hb:Below w.heap.size w w'):StAt w' w'.heap.size st x:=(hS.below hb).more hb.size
end Go.Proofs.YtcpgnjmaampglaaGreatDoor
