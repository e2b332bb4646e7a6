/- Of the proof of a statement: Insert. -/
import Derived.Lib.Overlaps
import Derived.Laws.Externs
import Derived.Test.YtbllgmociapjeaaGreatDoorVBSearch
import Derived.Test.YtbllgmociapjeaaGreatDoorVTake
set_option linter.unusedVariables false
set_option linter.unusedSimpArgs false
set_option maxRecDepth 100000
set_option maxHeartbeats 8000000
/- slices.Insert of one row into a row of the call's own. -/
namespace Go.Proofs.YtbllgmociapjeaaGreatDoor
open Go.Lib (hid)
open Go.RowKit
theorem kY {P:Program} {w:World} {ops:Array Oper} {rest:List Oper} {o:Oper} {a:Act} {Q:Exit→Act→World→Prop} {α:Type} (enc:α→List Value) (hgd:o.guard=none) (s x:Operand) (t e:TypeId) (z:Value) (sz bytes:Nat) (ho:o.op = .call { callee:=.builtin .append,args:=#[s,x],argTypes:=#[t,t] })
 (ht:P.underlying t=some (.slice e)) (hinfo:(P.info? e).map (fun i=>(i.zero,i.size,i.bytes))=some (some z,sz,bytes)) (hzs:z.cells.size=sz) (hsz:0<sz)
 (henc:∀ a,(enc a).length=sz) (h1:∀ a,∀ u ∈ enc a,u.oneCell'=true)
 (base:Nat) (A:Option Addr) (m c:Nat) (l:List α) (hs:a.eval s = .slice A m c) (hown:w.ownsRow base e sz (.slice A m c) m (au enc l))
 (b:α) (g c2:Nat) (hr:fL w g 0 (enc b)) (hx:a.eval x = .slice (some ⟨g,0,none⟩) 1 c2) (hm:(m+1)*bytes≤140737488355328) (h63:m+1≤maxLen) (hbase:base≤w.heap.size)
 (h:∀ A' c' w',w'.ownsRow base e sz (.slice A' (m+1) c') (m+1) (au enc (l ++ [b]))→bZ w w' (.slice A m c) (.slice A' (m+1) c')→wpList P ops Q rest (a.put o.dst (.slice A' (m+1) c')) w') :
 wpList P ops Q (o :: rest) a w:=by
 obtain⟨i0,hi,hz0,hz1,hz2⟩:=info_parts hinfo
 refine wpList_append_own_at _ hgd s x t ho base e i0 z sz bytes ht hi hz0 hz1 hz2 hzs hsz _ m _ hs hown ⟨g,0,none⟩ 1 c2 (enc b) hx (by rw [henc,Nat.one_mul]) (fun j u hu=>by
  have ea:(⟨g,0,none⟩:Addr).add j=⟨g,0+j,none⟩:=by unfold Addr.add; split <;> simp_all
  rw [ea]; exact hr j u hu) (fun u hu=>h1 _ _ hu) h63 hm hbase (fun v' w' o' g' hnil hb=>?_)
 have e1:au enc l ++ enc b=au enc (l ++ [b]):=by rw [bU,pB]
 rw [e1] at o'
 obtain⟨g,cap,hv,_⟩:=o'.form (by omega)
 subst hv
 refine h _ _ _ o' ⟨g',?_⟩
 rcases hb with hb | hb
 · exact .inl hb
 · exact .inr ⟨_,hb,Nat.le_refl _⟩
def aX {α:Type} (enc:α→List Value) (base:Nat) (T:TypeId) (sz:Nat) (A:Option Addr) (n c:Nat) (l:List α) (w:World) (e:Ending) (w':World):Prop:=
 ∃ A' m c',e = .returned (.slice A' m c')∧m=l.length∧w'.ownsRow base T sz (.slice A' m c') m (au enc l)∧bZ w w' (.slice A n c) (.slice A' m c')
theorem nY:(Tryz.prog.info? 32).map (fun i=>(i.zero,i.size,i.bytes))=some (some (.agg #[.string ⟨#[]⟩,.int .i64 0,.int .i64 0,.int .i64 0,.string ⟨#[]⟩]),5,56):=by kernel_rfl
theorem gY (a:aC) (u:Value) (h:u ∈ aI a):u.oneCell'=true:=by
 simp only [aI,List.mem_cons,List.not_mem_nil,or_false] at h
 rcases h with rfl | rfl | rfl | rfl | rfl <;> rfl
theorem Gs (base:Nat) (A:Option Addr) (n c vb:Nat) (l:List aC) (x:aC) (w:World) (ho:w.ownsRow base 32 5 (.slice A n c) n (au aI l)) (hl:l.length=n) (hn:n≤1000) (hv:fL w vb 0 (aI x)) (hbase:base≤w.heap.size) :
 Calls Tryz.prog 191 #[.slice A n c,.int .i64 n,.slice (some ⟨vb,0,none⟩) 1 1] w (aX aI base 32 5 A n c (l ++ [x]) w):=by
 have Ho:=hid ho
 have Hv:=hid hv
 have Hl:=hid (show n+1=(l ++ [x]).length by simp [hl])
 clear ho hv hl
 by_cases hcn:c=n
 · subst hcn
   go_enter Tryz.func191,Tryz.ntmps191
   go_wp2_with (at_builtin; refine kY aI rfl _ _ 22 32 (.agg #[.string ⟨#[]⟩,.int .i64 0,.int .i64 0,.int .i64 0,.string ⟨#[]⟩]) 5 56 rfl Tryz.underlying22 nY rfl (by decide) aV gY base A c c l rfl Ho.out x vb 1 Hv.out rfl (by omega) (by unfold maxLen; omega) hbase ?_; intro A' c' w' ho' hg')
   go_ret
   exact⟨A',c+1,c',rfl,Hl.out,ho',hg'⟩
 · go_enter Tryz.func191,Tryz.ntmps191
   go_wp2_with (at_builtin; refine kY aI rfl _ _ 22 32 (.agg #[.string ⟨#[]⟩,.int .i64 0,.int .i64 0,.int .i64 0,.string ⟨#[]⟩]) 5 56 rfl Tryz.underlying22 nY rfl (by decide) aV gY base A n c l rfl Ho.out x vb 1 Hv.out rfl (by omega) (by unfold maxLen; omega) hbase ?_; intro A' c' w' ho' hg')
   go_ret
   exact⟨A',n+1,c',rfl,Hl.out,ho',hg'⟩
theorem Gt (base g n c vb k:Nat) (l:List aC) (x:aC) (w:World) (ho:w.ownsRow base 32 5 (.slice (some ⟨g,0,none⟩) n c) n (au aI l)) (hl:l.length=n) (hn:n≤1000) (hk:k<n) (hroom:n+1≤c) (hv:Blk w vb 32 (aI x).toArray) (hvg:vb≠g) (hbase:base≤w.heap.size) :
 Calls Tryz.prog 191 #[.slice (some ⟨g,0,none⟩) n c,.int .i64 k,.slice (some ⟨vb,0,none⟩) 1 1] w (aX aI base 32 5 (some ⟨g,0,none⟩) n c (l.take k ++ x :: l.drop k) w):=by
 obtain⟨cur,hR,hnc,htk⟩:=cL.of ho
 have hc63:=hR.cap_
 unfold maxLen at hc63
 have Hl:=hid hl
 have HR:=hid hR
 have Htk:=hid htk
 have Hv:=hid hv
 have hb2:¬ (c=k+1):=by omega
 have hb4:¬ (c=k):=by omega
 have hz2:¬ ((k:Int)=(n:Int)):=by omega
 have hw1:IntKind.i64.wrap ((k:Int)+1)=(k:Int)+1:=by rw [IntKind.wrap_i64]; omega
 have hb1:(0:Int)≤(k:Int)+1:=by omega
 have htn:((k:Int)+1).toNat=k+1:=by omega
 have hb3:(k:Int)≤(n:Int)+1:=by omega
 have hb5:(k:Int)+1≤(n:Int)+1:=by omega
 have hinfo:(Tryz.prog.info? 32).map (·.size)=some 5:=by
  obtain⟨i0,hi,hz0,hz1,hz2⟩:=info_parts nY
  rw [hi]; simp [hz1]
 have hsa:w.shape? vb=some (32,5):=by unfold World.shape?; rw [show w.heap[vb]? = some (.cells (aI x).toArray 32 (0,0)) from hv]; rfl
 have hsb:w.shape? g=some (32,cur.size):=by unfold World.shape?; rw [hR.blk]
 have hov:∀ lb cb,(callFunc 224 #[.slice (some ⟨vb,0,none⟩) 1 1,.slice (some ⟨g,(k+1)*5,none⟩) lb cb]).run Tryz.prog w = .ok (.value (.bool false)) w:=fun lb cb=>by
  rw [run_callFunc_extern Tryz.func224 (by kernel_rfl) (by kernel_rfl) (by kernel_rfl) (e:=Extern.SlicesOverlaps.overlaps #[22,22] #[4]) (by kernel_rfl),
   Lib.run_overlaps_apart w 22 4 32 Tryz.underlying22 5 Tryz.sizeOf32 ⟨vb,0,none⟩ ⟨g,(k+1)*5,none⟩ 1 1 lb cb hvg 32 32 5 cur.size hsa hsb (by rw [hR.size]; omega) (hv.thaw 0) (hv.thaw 5)]
  rfl
 obtain⟨L,hL⟩:∃ L,cur.toList=L:=⟨_,rfl⟩
 have hLl:L.length=c*5:=by rw [← hL,Array.length_toList,hR.size]
 obtain⟨C1,hC1⟩:∃ C1,(L.drop (k*5)).take (n*5 - k*5)=C1:=⟨_,rfl⟩
 have lC1:C1.length=(n - k)*5:=by rw [← hC1,List.length_take,List.length_drop,hLl]; omega
 have m1C:∀ v ∈ C1,v ∈ au aI l:=fun v hv'=>by
  rw [← hC1,← List.drop_take,← hL,htk] at hv'
  exact List.mem_of_mem_drop hv'
 have one:∀ v ∈ au aI l,v.oneCell'=true:=fun v hv'=>by
  obtain⟨a,_,ha⟩:=List.mem_flatMap.1 hv'
  exact gY a v ha
 have hcp1:∀ ty dc sc,(Builtin.copy_ #[22,22] ty #[.slice (some ⟨g,(k+1)*5,none⟩) (n - k) dc,.slice (some ⟨g,k*5,none⟩) (n+1 - k) sc]).run Tryz.prog w.drew = .ok (.int .i64 ((n - k:Nat):Int)) (w.drew.setRow g (cur.toList.take ((k+1)*5) ++ C1 ++ cur.toList.drop ((k+1)*5+C1.length)).toArray):=fun ty dc sc=>by
  have h:=cK (P:=Tryz.prog) w.drew 22 22 ty 32 5 g ((k+1)*5) (n - k) dc ⟨g,k*5,none⟩ (n+1 - k) sc cur 32 C1 Tryz.underlying22 hinfo hR.blk (by rw [lC1]; congr 1; show _=min _ _; omega)
   (fun j v hj=>(hR.cells (k*5)) j v (by
    rw [hL]
    rw [← hC1,List.getElem?_take] at hj
    split at hj
    · exact hj
    · cases hj)) (by rw [lC1,hR.size]; omega) (fun v hv'=>one v (m1C v hv'))
  rw [h]
  congr 2
  congr 1
  show min _ _=_
  omega
 obtain⟨aS,cQ⟩:∃ aS,(cur.toList.take ((k+1)*5) ++ C1 ++ cur.toList.drop ((k+1)*5+C1.length)).toArray=aS:=⟨_,rfl⟩
 rw [cQ] at hcp1
 have hs1:aS.size=c*5:=by rw [← cQ]; simp only [List.size_toArray,List.length_append,List.length_take,List.length_drop,hL,hLl,lC1]; omega
 have hR1:cL (w.drew.setRow g aS) base 32 5 g c aS:=cL.set (w:=w.drew) ⟨hR.ge,hR.blk,hR.cap_,hR.size⟩ aS hs1
 have hv1:Blk (w.drew.setRow g aS) vb 32 (aI x).toArray:=(setRow_other w.drew g vb aS hvg).trans hv
 obtain⟨W1,hW1⟩:∃ W1,w.drew.setRow g aS=W1:=⟨_,rfl⟩
 rw [hW1] at hcp1 hR1 hv1
 obtain⟨aT,bM⟩:∃ aT,(aS.toList.take (k*5) ++ aI x ++ aS.toList.drop (k*5+(aI x).length)).toArray=aT:=⟨_,rfl⟩
 have hcp2:∀ ty dc,(Builtin.copy_ #[22,22] ty #[.slice (some ⟨g,k*5,none⟩) (n+1 - k) dc,.slice (some ⟨vb,0,none⟩) 1 1]).run Tryz.prog W1 = .ok (.int .i64 ((1:Nat):Int)) (W1.setRow g aT):=fun ty dc=>by
  have h:=cK (P:=Tryz.prog) W1 22 22 ty 32 5 g (k*5) (n+1 - k) dc ⟨vb,0,none⟩ 1 1 aS 32 (aI x) Tryz.underlying22 hinfo hR1.blk (by rw [aV]; show _=min _ _*_; rw [Nat.min_eq_left (by omega)])
   (fun j v hj=>by
    have ea:(⟨vb,0,none⟩:Addr).add j=⟨vb,j,none⟩:=by unfold Addr.add; split <;> simp_all
    rw [ea,hv1.cell j,List.getElem?_toArray]; exact hj) (by rw [aV,hs1]; omega) (fun v hv'=>gY x v hv')
  rw [h,bM]
  congr 2
  congr 1
  show min _ _=_
  omega
 have hs2:aT.size=c*5:=by rw [← bM]; simp only [List.size_toArray,List.length_append,List.length_take,List.length_drop,Array.length_toList,hs1,aV]; omega
 have hfin:=(hR1.set aT hs2).own (n:=n+1) (by omega) (xs:=au aI (l.take k ++ x :: l.drop k)) (by
  have h:=qm (L:=L) (R:=au aI l) (X:=aI x) (a:=k*5) (b:=n*5) (s:=5) (Nat.mul_le_mul_right _ (by omega)) (by omega) (aV x) (by rw [← hL]; exact htk)
  rw [bU,show au aI (x :: l.drop k)=aI x ++ au aI (l.drop k) from rfl,← cI aV,← dU aV,← List.append_assoc,← h,← bM,← cQ]
  simp only [hL,lC1,aV]
  rw [← hC1,show (k+1)*5=k*5+5 by omega,show (n+1)*5=n*5+5 by omega,show (n - k)*5=n*5 - k*5 by omega])
 have hgr:bZ w (W1.setRow g aT) (.slice (some ⟨g,0,none⟩) n c) (.slice (some ⟨g,0,none⟩) (n+1) c):=by
  rw [← hW1]
  exact (show bZ w (w.drew.setRow g aS) (.slice (some ⟨g,0,none⟩) n c) (.slice (some ⟨g,0,none⟩) n c) from eN w g n n c c aS).trans (jh _ g n (n+1) c c aT)
 have aP:=hid (show aX aI base 32 5 (some ⟨g,0,none⟩) n c (l.take k ++ x :: l.drop k) w (.returned (.slice (some ⟨g,0,none⟩) (n+1) c)) (W1.setRow g aT) from ⟨_,n+1,c,rfl,by rw [List.length_append,List.length_cons,List.length_take,List.length_drop]; omega,hfin,hgr⟩)
 clear hl hR htk hv hvg ho Hl HR Htk Hv hsa hsb hinfo hL hLl hC1 lC1 m1C one cQ hs1 hR1 hv1 hW1 bM hs2 hfin hgr
 go_enter Tryz.func191,Tryz.ntmps191
 go_wp2_with (simp only [hov])
 go_region_law (refine fS rfl _ _ 22 22 rfl _ _ (by simp [Act.eval,Act.put]) (by simp [Act.eval,Act.put]) (hcp1 _ _ _) ?_)
 go_wp2_with (refine eS _ rfl _ _ 22 22 rfl _ _ rfl rfl (hcp2 _ _) ?_)
 go_ret
 exact aP.out
theorem Gu (base g n vb k:Nat) (l:List aC) (x:aC) (w:World) (ho:w.ownsRow base 32 5 (.slice (some ⟨g,0,none⟩) n n) n (au aI l)) (hl:l.length=n) (hn:n≤1000) (hk:k<n) (hv:Blk w vb 32 (aI x).toArray) (hbase:base≤w.heap.size) :
 Calls Tryz.prog 191 #[.slice (some ⟨g,0,none⟩) n n,.int .i64 k,.slice (some ⟨vb,0,none⟩) 1 1] w (aX aI base 32 5 (some ⟨g,0,none⟩) n n (l.take k ++ x :: l.drop k) w):=by
 obtain⟨cur,hR,hnc,htk⟩:=cL.of ho
 have hz2:¬ ((k:Int)=(n:Int)):=by omega
 have hb4:¬ (n=k):=by omega
 have hw1:IntKind.i64.wrap ((k:Int)+1)=(k:Int)+1:=by rw [IntKind.wrap_i64]; omega
 have hb1:(0:Int)≤(k:Int)+1:=by omega
 have htn:((k:Int)+1).toNat=k+1:=by omega
 have hb5:(k:Int)+1≤(n:Int)+1:=by omega
 have hb3:(k:Int)≤(n:Int):=by omega
 obtain⟨i0,hi0,hz0,hz1,hzb⟩:=info_parts nY
 have hinfo:(Tryz.prog.info? 32).map (·.size)=some 5:=by rw [hi0]; simp [hz1]
 obtain⟨L,hL⟩:∃ L,cur.toList=L:=⟨_,rfl⟩
 have hLl:L.length=n*5:=by rw [← hL,Array.length_toList,hR.size]
 have hLr:L=au aI l:=by rw [← htk,hL,List.take_of_length_le (by omega)]
 have one:∀ v ∈ au aI l,v.oneCell'=true:=fun v hv'=>by
  obtain⟨a,_,ha⟩:=List.mem_flatMap.1 hv'
  exact gY a v ha
 have hold:(Builtin.firstCells i0.size k (.slice (some ⟨g,0,none⟩) k n)).run Tryz.prog w.drew = .ok (L.take (k*5)).toArray w.drew:=by
  refine run_firstCells_some (P:=Tryz.prog) w.drew i0.size k ⟨g,0,none⟩ k n _ (by rw [List.length_take,hz1]; omega) (fun j v hj=>?_)
  have h:=hR.cells 0 j v (by
   rw [List.drop_zero,hL]
   rw [List.getElem?_take] at hj
   split at hj
   · exact hj
   · cases hj)
  exact h
 obtain⟨C,hC⟩:∃ C,grownCap w (n+1) n 32 = C:=⟨_,rfl⟩
 have hCn:n+1≤C:=by rw [← hC]; exact grownCap_ge w _ _ _
 have hCm:C≤maxLen:=by rw [← hC]; exact grownCap_le_maxLen w _ _ _ (by unfold maxLen; omega)
 have Gv:=hCm
 unfold maxLen at Gv
 obtain⟨fT,l9⟩:∃ fT,(L.take (k*5)).toArray ++ Builtin.zeroCells (Value.cells (.agg #[.string ⟨#[]⟩,.int .i64 0,.int .i64 0,.int .i64 0,.string ⟨#[]⟩])) (n+1 - k) ++ Builtin.zeroCells (Value.cells (.agg #[.string ⟨#[]⟩,.int .i64 0,.int .i64 0,.int .i64 0,.string ⟨#[]⟩])) (C - (n+1))=fT:=⟨_,rfl⟩
 have happ:∀ ty,(Builtin.append_ #[22,3] ty #[.slice (some ⟨g,0,none⟩) k n,.int .i64 ((n:Int)+1 - (k:Int))]).run Tryz.prog w = .ok (.slice (some ⟨w.heap.size,0,none⟩) (n+1) C) (w.drew.alloc (.cells fT 32)):=fun ty=>by
  have h:=Lib.run_append_grow_zeros w 22 3 ty 32 i0 _ .i64 .i64 Tryz.underlying22 Tryz.underlying3 hi0 hz0 (some ⟨g,0,none⟩) k n (L.take (k*5)) hold (n+1 - k) (by omega) (by omega) (by omega) (by omega) (by rw [hzb]; omega) (by rw [hzb,show k+(n+1 - k)=n+1 by omega]; exact growslice_fits (by omega) (by omega))
  rw [show k+(n+1 - k)=n+1 by omega,hC,l9,show ((n+1 - k:Nat):Int)=(n:Int)+1 - k by omega] at h
  exact h
 have hs0:fT.size=C*5:=by rw [← l9]; simp only [Array.size_append,List.size_toArray,size_zeroCells,List.length_take,hLl]; show min _ _+_*5+_*5=_; omega
 have h0t:fT.toList.take (k*5)=L.take (k*5):=by
  rw [← l9,Array.toList_append,Array.toList_append,List.append_assoc,List.take_append_of_le_length (by rw [List.length_take]; omega),List.take_of_length_le (by rw [List.length_take]; omega)]
 obtain⟨W1,hW1⟩:∃ W1,w.drew.alloc (.cells fT 32)=W1:=⟨_,rfl⟩
 have nN:Below w.heap.size w W1:=by rw [← hW1]; exact (Below.refl w.heap.size w).drew.alloc (Nat.le_refl _) _
 have hR1:cL W1 base 32 5 w.heap.size C fT:=by rw [← hW1]; exact⟨hbase,heap_alloc_new w.drew _,hCm,hs0⟩
 have hg1:cL W1 base 32 5 g n cur:=⟨hR.ge,(nN.block g (Array.getElem?_eq_some_iff.1 hR.blk).1).trans hR.blk,hR.cap_,hR.size⟩
 have hv1:Blk W1 vb 32 (aI x).toArray:=hv.below nN hv.lt
 have hgl:g<w.heap.size:=(Array.getElem?_eq_some_iff.1 hR.blk).1
 rw [hW1] at happ
 obtain⟨aS,cQ⟩:∃ aS,(fT.toList.take (k*5) ++ aI x ++ fT.toList.drop (k*5+(aI x).length)).toArray=aS:=⟨_,rfl⟩
 have hcp1:∀ ty dc,(Builtin.copy_ #[22,22] ty #[.slice (some ⟨w.heap.size,k*5,none⟩) (n+1 - k) dc,.slice (some ⟨vb,0,none⟩) 1 1]).run Tryz.prog W1 = .ok (.int .i64 ((1:Nat):Int)) (W1.setRow w.heap.size aS):=fun ty dc=>by
  have h:=cK (P:=Tryz.prog) W1 22 22 ty 32 5 w.heap.size (k*5) (n+1 - k) dc ⟨vb,0,none⟩ 1 1 fT 32 (aI x) Tryz.underlying22 hinfo hR1.blk (by rw [aV]; show _=min _ _*_; rw [Nat.min_eq_left (by omega)])
   (fun j v hj=>by
    have ea:(⟨vb,0,none⟩:Addr).add j=⟨vb,j,none⟩:=by unfold Addr.add; split <;> simp_all
    rw [ea,hv1.cell j,List.getElem?_toArray]; exact hj) (by rw [aV,hs0]; omega) (fun v hv'=>gY x v hv')
  rw [h,cQ]
  congr 2
  congr 1
  show min _ _=_
  omega
 have hs1:aS.size=C*5:=by rw [← cQ]; simp only [List.size_toArray,List.length_append,List.length_take,List.length_drop,Array.length_toList,hs0,aV]; omega
 have hR2:=hR1.set aS hs1
 have hg2:cL (W1.setRow w.heap.size aS) base 32 5 g n cur:=⟨hg1.ge,(setRow_other W1 w.heap.size g aS (by omega)).trans hg1.blk,hg1.cap_,hg1.size⟩
 obtain⟨W2,hW2⟩:∃ W2,W1.setRow w.heap.size aS=W2:=⟨_,rfl⟩
 have AJ:Below w.heap.size w W2:=by rw [← hW2]; exact nN.trans ⟨rfl,rfl,rfl,by simp [World.setRow],fun q hq=>setRow_other W1 w.heap.size q aS (by omega)⟩
 rw [hW2] at hcp1 hR2 hg2
 obtain⟨D1,hD1⟩:∃ D1,L.drop (k*5)=D1:=⟨_,rfl⟩
 have lD1:D1.length=(n - k)*5:=by rw [← hD1,List.length_drop,hLl]; omega
 obtain⟨aT,bM⟩:∃ aT,(aS.toList.take ((k+1)*5) ++ D1 ++ aS.toList.drop ((k+1)*5+D1.length)).toArray=aT:=⟨_,rfl⟩
 have hcp2:∀ ty dc sc,(Builtin.copy_ #[22,22] ty #[.slice (some ⟨w.heap.size,(k+1)*5,none⟩) (n - k) dc,.slice (some ⟨g,k*5,none⟩) (n - k) sc]).run Tryz.prog W2.drew = .ok (.int .i64 ((n - k:Nat):Int)) (W2.drew.setRow w.heap.size aT):=fun ty dc sc=>by
  have h:=cK (P:=Tryz.prog) W2.drew 22 22 ty 32 5 w.heap.size ((k+1)*5) (n - k) dc ⟨g,k*5,none⟩ (n - k) sc aS 32 D1 Tryz.underlying22 hinfo hR2.blk (by rw [lD1]; congr 1; show _=min _ _; omega)
   (fun j v hj=>hg2.cells (k*5) j v (by rw [hL,hD1]; exact hj)) (by rw [lD1,hs1]; omega) (fun v hv'=>one v (by rw [← hLr]; rw [← hD1] at hv'; exact List.mem_of_mem_drop hv'))
  rw [h,bM]
  congr 2
  congr 1
  show min _ _=_
  omega
 have hs2:aT.size=C*5:=by rw [← bM]; simp only [List.size_toArray,List.length_append,List.length_take,List.length_drop,Array.length_toList,hs1,lD1]; omega
 have hR3:cL (W2.drew.setRow w.heap.size aT) base 32 5 w.heap.size C aT:=cL.set (w:=W2.drew) ⟨hR2.ge,hR2.blk,hR2.cap_,hR2.size⟩ aT hs2
 have hfin:=hR3.own (n:=n+1) hCn (xs:=au aI (l.take k ++ x :: l.drop k)) (by
  have h:=sM (L:=fT.toList) (X:=aI x) (D:=D1) (a:=k*5) (s:=5) (by have e:fT.toList.length=fT.size:=Array.length_toList; omega) (aV x)
  rw [h0t] at h
  rw [bU,show au aI (x :: l.drop k)=aI x ++ au aI (l.drop k) from rfl,← cI aV,← dU aV,← List.append_assoc,← hLr,hD1,← h,← bM,← cQ]
  simp only [lD1,aV,h0t]
  rw [show (k+1)*5=k*5+5 by omega,show (n+1)*5=k*5+5+(n - k)*5 by omega])
 have hgr:bZ w (W2.drew.setRow w.heap.size aT) (.slice (some ⟨g,0,none⟩) n n) (.slice (some ⟨w.heap.size,0,none⟩) (n+1) C):=by
  have hb3:Below w.heap.size w (W2.drew.setRow w.heap.size aT):=AJ.trans ⟨rfl,rfl,rfl,by simp [World.setRow],fun q hq=>setRow_other W2.drew w.heap.size q aT (by omega)⟩
  exact⟨⟨hb3.os,hb3.tape,hb3.output,hb3.size,fun q hq _=>hb3.block q hq⟩,.inr ⟨w.heap.size,rfl,Nat.le_refl _⟩⟩
 have aP:=hid (show aX aI base 32 5 (some ⟨g,0,none⟩) n n (l.take k ++ x :: l.drop k) w (.returned (.slice (some ⟨w.heap.size,0,none⟩) (n+1) C)) (W2.drew.setRow w.heap.size aT) from ⟨_,n+1,C,rfl,by rw [List.length_append,List.length_cons,List.length_take,List.length_drop]; omega,hfin,hgr⟩)
 have Gw:=hid happ
 have Gx:=hid hcp1
 have hC1:¬ C=k:=by omega
 have hC2:¬ C=k+1:=by omega
 clear hl hR htk hv ho hinfo hL hLl hLr one hold hC hCm l9 happ hs0 h0t hW1 nN hR1 hg1 hv1 cQ hcp1 hs1 hR2 hg2 hW2 AJ hD1 lD1 bM hs2 hR3 hfin hgr hi0 hz0 hz1 hzb
 go_enter Tryz.func191,Tryz.ntmps191
 go_wp2_with (first | (at_builtin; refine Lib.wpList_append_run _ rfl _ _ 22 3 rfl _ _ rfl rfl _ _ (Gw.out _) ?_) | (refine eS _ rfl _ _ 22 22 rfl _ _ rfl rfl (Gx.out _ _) ?_))
 go_region_law (refine fS rfl _ _ 22 22 rfl _ _ (by simp [Act.eval,Act.put]) (by simp [Act.eval,Act.put]) (hcp2 _ _ _) ?_)
 go_wp2
 go_ret
 exact aP.out
theorem IQ (base:Nat) (A:Option Addr) (n c vb k:Nat) (l:List aC) (x:aC) (w:World) (ho:w.ownsRow base 32 5 (.slice A n c) n (au aI l)) (hl:l.length=n) (hn:n≤1000) (hk:k≤n) (hv:Blk w vb 32 (aI x).toArray) (hvg:∀ q,(Value.slice A n c).ownBlock=some q→vb≠q) (hbase:base≤w.heap.size) :
 Calls Tryz.prog 191 #[.slice A n c,.int .i64 k,.slice (some ⟨vb,0,none⟩) 1 1] w (aX aI base 32 5 A n c (l.take k ++ x :: l.drop k) w):=by
 by_cases hkn:k=n
 · subst hkn
   rw [List.take_of_length_le (by omega),List.drop_eq_nil_of_le (by omega)]
   exact Gs base A k c vb l x w ho hl hn (fun j u hu=>by rw [Nat.zero_add,hv.cell j,List.getElem?_toArray]; exact hu) hbase
 · obtain⟨g,cap,hA,hcap⟩:=ho.form (by omega)
   injection hA with hA _ hc
   subst hA; subst hc
   by_cases hroom:n+1≤c
   · exact Gt base g n c vb k l x w ho hl hn (by omega) hroom hv (hvg g rfl) hbase
   · obtain rfl:c=n:=by obtain⟨_,_,h,_⟩:=cL.of ho; omega
     exact Gu base g c vb k l x w ho hl hn (by omega) hv hbase
theorem mO:(Tryz.prog.info? 34).map (fun i=>(i.zero,i.size,i.bytes))=some (some (.agg #[.string ⟨#[]⟩,.int .i64 0,.string ⟨#[]⟩]),3,40):=by kernel_rfl
theorem fZ (a:aA) (u:Value) (h:u ∈ aB a):u.oneCell'=true:=by
 simp only [aB,List.mem_cons,List.not_mem_nil,or_false] at h
 rcases h with rfl | rfl | rfl <;> rfl
theorem Eh (base:Nat) (A:Option Addr) (n c vb:Nat) (l:List aA) (x:aA) (w:World) (ho:w.ownsRow base 34 3 (.slice A n c) n (au aB l)) (hl:l.length=n) (hn:n≤1000) (hv:fL w vb 0 (aB x)) (hbase:base≤w.heap.size) :
 Calls Tryz.prog 193 #[.slice A n c,.int .i64 n,.slice (some ⟨vb,0,none⟩) 1 1] w (aX aB base 34 3 A n c (l ++ [x]) w):=by
 have Ho:=hid ho
 have Hv:=hid hv
 have Hl:=hid (show n+1=(l ++ [x]).length by simp [hl])
 clear ho hv hl
 by_cases hcn:c=n
 · subst hcn
   go_enter Tryz.func193,Tryz.ntmps193
   go_wp2_with (at_builtin; refine kY aB rfl _ _ 23 34 (.agg #[.string ⟨#[]⟩,.int .i64 0,.string ⟨#[]⟩]) 3 40 rfl Tryz.underlying23 mO rfl (by decide) aJ fZ base A c c l rfl Ho.out x vb 1 Hv.out rfl (by omega) (by unfold maxLen; omega) hbase ?_; intro A' c' w' ho' hg')
   go_ret
   exact⟨A',c+1,c',rfl,Hl.out,ho',hg'⟩
 · go_enter Tryz.func193,Tryz.ntmps193
   go_wp2_with (at_builtin; refine kY aB rfl _ _ 23 34 (.agg #[.string ⟨#[]⟩,.int .i64 0,.string ⟨#[]⟩]) 3 40 rfl Tryz.underlying23 mO rfl (by decide) aJ fZ base A n c l rfl Ho.out x vb 1 Hv.out rfl (by omega) (by unfold maxLen; omega) hbase ?_; intro A' c' w' ho' hg')
   go_ret
   exact⟨A',n+1,c',rfl,Hl.out,ho',hg'⟩
theorem Ei (base g n c vb k:Nat) (l:List aA) (x:aA) (w:World) (ho:w.ownsRow base 34 3 (.slice (some ⟨g,0,none⟩) n c) n (au aB l)) (hl:l.length=n) (hn:n≤1000) (hk:k<n) (hroom:n+1≤c) (hv:Blk w vb 34 (aB x).toArray) (hvg:vb≠g) (hbase:base≤w.heap.size) :
 Calls Tryz.prog 193 #[.slice (some ⟨g,0,none⟩) n c,.int .i64 k,.slice (some ⟨vb,0,none⟩) 1 1] w (aX aB base 34 3 (some ⟨g,0,none⟩) n c (l.take k ++ x :: l.drop k) w):=by
 obtain⟨cur,hR,hnc,htk⟩:=cL.of ho
 have hc63:=hR.cap_
 unfold maxLen at hc63
 have Hl:=hid hl
 have HR:=hid hR
 have Htk:=hid htk
 have Hv:=hid hv
 have hb2:¬ (c=k+1):=by omega
 have hb4:¬ (c=k):=by omega
 have hz2:¬ ((k:Int)=(n:Int)):=by omega
 have hw1:IntKind.i64.wrap ((k:Int)+1)=(k:Int)+1:=by rw [IntKind.wrap_i64]; omega
 have hb1:(0:Int)≤(k:Int)+1:=by omega
 have htn:((k:Int)+1).toNat=k+1:=by omega
 have hb3:(k:Int)≤(n:Int)+1:=by omega
 have hb5:(k:Int)+1≤(n:Int)+1:=by omega
 have hinfo:(Tryz.prog.info? 34).map (·.size)=some 3:=by
  obtain⟨i0,hi,hz0,hz1,hz2⟩:=info_parts mO
  rw [hi]; simp [hz1]
 have hsa:w.shape? vb=some (34,3):=by unfold World.shape?; rw [show w.heap[vb]? = some (.cells (aB x).toArray 34 (0,0)) from hv]; rfl
 have hsb:w.shape? g=some (34,cur.size):=by unfold World.shape?; rw [hR.blk]
 have hov:∀ lb cb,(callFunc 228 #[.slice (some ⟨vb,0,none⟩) 1 1,.slice (some ⟨g,(k+1)*3,none⟩) lb cb]).run Tryz.prog w = .ok (.value (.bool false)) w:=fun lb cb=>by
  rw [run_callFunc_extern Tryz.func228 (by kernel_rfl) (by kernel_rfl) (by kernel_rfl) (e:=Extern.SlicesOverlaps.overlaps #[23,23] #[4]) (by kernel_rfl),
   Lib.run_overlaps_apart w 23 4 34 Tryz.underlying23 3 Tryz.sizeOf34 ⟨vb,0,none⟩ ⟨g,(k+1)*3,none⟩ 1 1 lb cb hvg 34 34 3 cur.size hsa hsb (by rw [hR.size]; omega) (hv.thaw 0) (hv.thaw 3)]
  rfl
 obtain⟨L,hL⟩:∃ L,cur.toList=L:=⟨_,rfl⟩
 have hLl:L.length=c*3:=by rw [← hL,Array.length_toList,hR.size]
 obtain⟨C1,hC1⟩:∃ C1,(L.drop (k*3)).take (n*3 - k*3)=C1:=⟨_,rfl⟩
 have lC1:C1.length=(n - k)*3:=by rw [← hC1,List.length_take,List.length_drop,hLl]; omega
 have m1C:∀ v ∈ C1,v ∈ au aB l:=fun v hv'=>by
  rw [← hC1,← List.drop_take,← hL,htk] at hv'
  exact List.mem_of_mem_drop hv'
 have one:∀ v ∈ au aB l,v.oneCell'=true:=fun v hv'=>by
  obtain⟨a,_,ha⟩:=List.mem_flatMap.1 hv'
  exact fZ a v ha
 have hcp1:∀ ty dc sc,(Builtin.copy_ #[23,23] ty #[.slice (some ⟨g,(k+1)*3,none⟩) (n - k) dc,.slice (some ⟨g,k*3,none⟩) (n+1 - k) sc]).run Tryz.prog w.drew = .ok (.int .i64 ((n - k:Nat):Int)) (w.drew.setRow g (cur.toList.take ((k+1)*3) ++ C1 ++ cur.toList.drop ((k+1)*3+C1.length)).toArray):=fun ty dc sc=>by
  have h:=cK (P:=Tryz.prog) w.drew 23 23 ty 34 3 g ((k+1)*3) (n - k) dc ⟨g,k*3,none⟩ (n+1 - k) sc cur 34 C1 Tryz.underlying23 hinfo hR.blk (by rw [lC1]; congr 1; show _=min _ _; omega)
   (fun j v hj=>(hR.cells (k*3)) j v (by
    rw [hL]
    rw [← hC1,List.getElem?_take] at hj
    split at hj
    · exact hj
    · cases hj)) (by rw [lC1,hR.size]; omega) (fun v hv'=>one v (m1C v hv'))
  rw [h]
  congr 2
  congr 1
  show min _ _=_
  omega
 obtain⟨aS,cQ⟩:∃ aS,(cur.toList.take ((k+1)*3) ++ C1 ++ cur.toList.drop ((k+1)*3+C1.length)).toArray=aS:=⟨_,rfl⟩
 rw [cQ] at hcp1
 have hs1:aS.size=c*3:=by rw [← cQ]; simp only [List.size_toArray,List.length_append,List.length_take,List.length_drop,hL,hLl,lC1]; omega
 have hR1:cL (w.drew.setRow g aS) base 34 3 g c aS:=cL.set (w:=w.drew) ⟨hR.ge,hR.blk,hR.cap_,hR.size⟩ aS hs1
 have hv1:Blk (w.drew.setRow g aS) vb 34 (aB x).toArray:=(setRow_other w.drew g vb aS hvg).trans hv
 obtain⟨W1,hW1⟩:∃ W1,w.drew.setRow g aS=W1:=⟨_,rfl⟩
 rw [hW1] at hcp1 hR1 hv1
 obtain⟨aT,bM⟩:∃ aT,(aS.toList.take (k*3) ++ aB x ++ aS.toList.drop (k*3+(aB x).length)).toArray=aT:=⟨_,rfl⟩
 have hcp2:∀ ty dc,(Builtin.copy_ #[23,23] ty #[.slice (some ⟨g,k*3,none⟩) (n+1 - k) dc,.slice (some ⟨vb,0,none⟩) 1 1]).run Tryz.prog W1 = .ok (.int .i64 ((1:Nat):Int)) (W1.setRow g aT):=fun ty dc=>by
  have h:=cK (P:=Tryz.prog) W1 23 23 ty 34 3 g (k*3) (n+1 - k) dc ⟨vb,0,none⟩ 1 1 aS 34 (aB x) Tryz.underlying23 hinfo hR1.blk (by rw [aJ]; show _=min _ _*_; rw [Nat.min_eq_left (by omega)])
   (fun j v hj=>by
    have ea:(⟨vb,0,none⟩:Addr).add j=⟨vb,j,none⟩:=by unfold Addr.add; split <;> simp_all
    rw [ea,hv1.cell j,List.getElem?_toArray]; exact hj) (by rw [aJ,hs1]; omega) (fun v hv'=>fZ x v hv')
  rw [h,bM]
  congr 2
  congr 1
  show min _ _=_
  omega
 have hs2:aT.size=c*3:=by rw [← bM]; simp only [List.size_toArray,List.length_append,List.length_take,List.length_drop,Array.length_toList,hs1,aJ]; omega
 have hfin:=(hR1.set aT hs2).own (n:=n+1) (by omega) (xs:=au aB (l.take k ++ x :: l.drop k)) (by
  have h:=qm (L:=L) (R:=au aB l) (X:=aB x) (a:=k*3) (b:=n*3) (s:=3) (Nat.mul_le_mul_right _ (by omega)) (by omega) (aJ x) (by rw [← hL]; exact htk)
  rw [bU,show au aB (x :: l.drop k)=aB x ++ au aB (l.drop k) from rfl,← cI aJ,← dU aJ,← List.append_assoc,← h,← bM,← cQ]
  simp only [hL,lC1,aJ]
  rw [← hC1,show (k+1)*3=k*3+3 by omega,show (n+1)*3=n*3+3 by omega,show (n - k)*3=n*3 - k*3 by omega])
 have hgr:bZ w (W1.setRow g aT) (.slice (some ⟨g,0,none⟩) n c) (.slice (some ⟨g,0,none⟩) (n+1) c):=by
  rw [← hW1]
  exact (show bZ w (w.drew.setRow g aS) (.slice (some ⟨g,0,none⟩) n c) (.slice (some ⟨g,0,none⟩) n c) from eN w g n n c c aS).trans (jh _ g n (n+1) c c aT)
 have aP:=hid (show aX aB base 34 3 (some ⟨g,0,none⟩) n c (l.take k ++ x :: l.drop k) w (.returned (.slice (some ⟨g,0,none⟩) (n+1) c)) (W1.setRow g aT) from ⟨_,n+1,c,rfl,by rw [List.length_append,List.length_cons,List.length_take,List.length_drop]; omega,hfin,hgr⟩)
 clear hl hR htk hv hvg ho Hl HR Htk Hv hsa hsb hinfo hL hLl hC1 lC1 m1C one cQ hs1 hR1 hv1 hW1 bM hs2 hfin hgr
 go_enter Tryz.func193,Tryz.ntmps193
 go_wp2_with (simp only [hov])
 go_region_law (refine fS rfl _ _ 23 23 rfl _ _ (by simp [Act.eval,Act.put]) (by simp [Act.eval,Act.put]) (hcp1 _ _ _) ?_)
 go_wp2_with (refine eS _ rfl _ _ 23 23 rfl _ _ rfl rfl (hcp2 _ _) ?_)
 go_ret
 exact aP.out
theorem Ej (base g n vb k:Nat) (l:List aA) (x:aA) (w:World) (ho:w.ownsRow base 34 3 (.slice (some ⟨g,0,none⟩) n n) n (au aB l)) (hl:l.length=n) (hn:n≤1000) (hk:k<n) (hv:Blk w vb 34 (aB x).toArray) (hbase:base≤w.heap.size) :
 Calls Tryz.prog 193 #[.slice (some ⟨g,0,none⟩) n n,.int .i64 k,.slice (some ⟨vb,0,none⟩) 1 1] w (aX aB base 34 3 (some ⟨g,0,none⟩) n n (l.take k ++ x :: l.drop k) w):=by
 obtain⟨cur,hR,hnc,htk⟩:=cL.of ho
 have hz2:¬ ((k:Int)=(n:Int)):=by omega
 have hb4:¬ (n=k):=by omega
 have hw1:IntKind.i64.wrap ((k:Int)+1)=(k:Int)+1:=by rw [IntKind.wrap_i64]; omega
 have hb1:(0:Int)≤(k:Int)+1:=by omega
 have htn:((k:Int)+1).toNat=k+1:=by omega
 have hb5:(k:Int)+1≤(n:Int)+1:=by omega
 have hb3:(k:Int)≤(n:Int):=by omega
 obtain⟨i0,hi0,hz0,hz1,hzb⟩:=info_parts mO
 have hinfo:(Tryz.prog.info? 34).map (·.size)=some 3:=by rw [hi0]; simp [hz1]
 obtain⟨L,hL⟩:∃ L,cur.toList=L:=⟨_,rfl⟩
 have hLl:L.length=n*3:=by rw [← hL,Array.length_toList,hR.size]
 have hLr:L=au aB l:=by rw [← htk,hL,List.take_of_length_le (by omega)]
 have one:∀ v ∈ au aB l,v.oneCell'=true:=fun v hv'=>by
  obtain⟨a,_,ha⟩:=List.mem_flatMap.1 hv'
  exact fZ a v ha
 have hold:(Builtin.firstCells i0.size k (.slice (some ⟨g,0,none⟩) k n)).run Tryz.prog w.drew = .ok (L.take (k*3)).toArray w.drew:=by
  refine run_firstCells_some (P:=Tryz.prog) w.drew i0.size k ⟨g,0,none⟩ k n _ (by rw [List.length_take,hz1]; omega) (fun j v hj=>?_)
  have h:=hR.cells 0 j v (by
   rw [List.drop_zero,hL]
   rw [List.getElem?_take] at hj
   split at hj
   · exact hj
   · cases hj)
  exact h
 obtain⟨C,hC⟩:∃ C,grownCap w (n+1) n 34 = C:=⟨_,rfl⟩
 have hCn:n+1≤C:=by rw [← hC]; exact grownCap_ge w _ _ _
 have hCm:C≤maxLen:=by rw [← hC]; exact grownCap_le_maxLen w _ _ _ (by unfold maxLen; omega)
 have Gv:=hCm
 unfold maxLen at Gv
 obtain⟨fT,l9⟩:∃ fT,(L.take (k*3)).toArray ++ Builtin.zeroCells (Value.cells (.agg #[.string ⟨#[]⟩,.int .i64 0,.string ⟨#[]⟩])) (n+1 - k) ++ Builtin.zeroCells (Value.cells (.agg #[.string ⟨#[]⟩,.int .i64 0,.string ⟨#[]⟩])) (C - (n+1))=fT:=⟨_,rfl⟩
 have happ:∀ ty,(Builtin.append_ #[23,3] ty #[.slice (some ⟨g,0,none⟩) k n,.int .i64 ((n:Int)+1 - (k:Int))]).run Tryz.prog w = .ok (.slice (some ⟨w.heap.size,0,none⟩) (n+1) C) (w.drew.alloc (.cells fT 34)):=fun ty=>by
  have h:=Lib.run_append_grow_zeros w 23 3 ty 34 i0 _ .i64 .i64 Tryz.underlying23 Tryz.underlying3 hi0 hz0 (some ⟨g,0,none⟩) k n (L.take (k*3)) hold (n+1 - k) (by omega) (by omega) (by omega) (by omega) (by rw [hzb]; omega) (by rw [hzb,show k+(n+1 - k)=n+1 by omega]; exact growslice_fits (by omega) (by omega))
  rw [show k+(n+1 - k)=n+1 by omega,hC,l9,show ((n+1 - k:Nat):Int)=(n:Int)+1 - k by omega] at h
  exact h
 have hs0:fT.size=C*3:=by rw [← l9]; simp only [Array.size_append,List.size_toArray,size_zeroCells,List.length_take,hLl]; show min _ _+_*3+_*3=_; omega
 have h0t:fT.toList.take (k*3)=L.take (k*3):=by
  rw [← l9,Array.toList_append,Array.toList_append,List.append_assoc,List.take_append_of_le_length (by rw [List.length_take]; omega),List.take_of_length_le (by rw [List.length_take]; omega)]
 obtain⟨W1,hW1⟩:∃ W1,w.drew.alloc (.cells fT 34)=W1:=⟨_,rfl⟩
 have nN:Below w.heap.size w W1:=by rw [← hW1]; exact (Below.refl w.heap.size w).drew.alloc (Nat.le_refl _) _
 have hR1:cL W1 base 34 3 w.heap.size C fT:=by rw [← hW1]; exact⟨hbase,heap_alloc_new w.drew _,hCm,hs0⟩
 have hg1:cL W1 base 34 3 g n cur:=⟨hR.ge,(nN.block g (Array.getElem?_eq_some_iff.1 hR.blk).1).trans hR.blk,hR.cap_,hR.size⟩
 have hv1:Blk W1 vb 34 (aB x).toArray:=hv.below nN hv.lt
 have hgl:g<w.heap.size:=(Array.getElem?_eq_some_iff.1 hR.blk).1
 rw [hW1] at happ
 obtain⟨aS,cQ⟩:∃ aS,(fT.toList.take (k*3) ++ aB x ++ fT.toList.drop (k*3+(aB x).length)).toArray=aS:=⟨_,rfl⟩
 have hcp1:∀ ty dc,(Builtin.copy_ #[23,23] ty #[.slice (some ⟨w.heap.size,k*3,none⟩) (n+1 - k) dc,.slice (some ⟨vb,0,none⟩) 1 1]).run Tryz.prog W1 = .ok (.int .i64 ((1:Nat):Int)) (W1.setRow w.heap.size aS):=fun ty dc=>by
  have h:=cK (P:=Tryz.prog) W1 23 23 ty 34 3 w.heap.size (k*3) (n+1 - k) dc ⟨vb,0,none⟩ 1 1 fT 34 (aB x) Tryz.underlying23 hinfo hR1.blk (by rw [aJ]; show _=min _ _*_; rw [Nat.min_eq_left (by omega)])
   (fun j v hj=>by
    have ea:(⟨vb,0,none⟩:Addr).add j=⟨vb,j,none⟩:=by unfold Addr.add; split <;> simp_all
    rw [ea,hv1.cell j,List.getElem?_toArray]; exact hj) (by rw [aJ,hs0]; omega) (fun v hv'=>fZ x v hv')
  rw [h,cQ]
  congr 2
  congr 1
  show min _ _=_
  omega
 have hs1:aS.size=C*3:=by rw [← cQ]; simp only [List.size_toArray,List.length_append,List.length_take,List.length_drop,Array.length_toList,hs0,aJ]; omega
 have hR2:=hR1.set aS hs1
 have hg2:cL (W1.setRow w.heap.size aS) base 34 3 g n cur:=⟨hg1.ge,(setRow_other W1 w.heap.size g aS (by omega)).trans hg1.blk,hg1.cap_,hg1.size⟩
 obtain⟨W2,hW2⟩:∃ W2,W1.setRow w.heap.size aS=W2:=⟨_,rfl⟩
 have AJ:Below w.heap.size w W2:=by rw [← hW2]; exact nN.trans ⟨rfl,rfl,rfl,by simp [World.setRow],fun q hq=>setRow_other W1 w.heap.size q aS (by omega)⟩
 rw [hW2] at hcp1 hR2 hg2
 obtain⟨D1,hD1⟩:∃ D1,L.drop (k*3)=D1:=⟨_,rfl⟩
 have lD1:D1.length=(n - k)*3:=by rw [← hD1,List.length_drop,hLl]; omega
 obtain⟨aT,bM⟩:∃ aT,(aS.toList.take ((k+1)*3) ++ D1 ++ aS.toList.drop ((k+1)*3+D1.length)).toArray=aT:=⟨_,rfl⟩
 have hcp2:∀ ty dc sc,(Builtin.copy_ #[23,23] ty #[.slice (some ⟨w.heap.size,(k+1)*3,none⟩) (n - k) dc,.slice (some ⟨g,k*3,none⟩) (n - k) sc]).run Tryz.prog W2.drew = .ok (.int .i64 ((n - k:Nat):Int)) (W2.drew.setRow w.heap.size aT):=fun ty dc sc=>by
  have h:=cK (P:=Tryz.prog) W2.drew 23 23 ty 34 3 w.heap.size ((k+1)*3) (n - k) dc ⟨g,k*3,none⟩ (n - k) sc aS 34 D1 Tryz.underlying23 hinfo hR2.blk (by rw [lD1]; congr 1; show _=min _ _; omega)
   (fun j v hj=>hg2.cells (k*3) j v (by rw [hL,hD1]; exact hj)) (by rw [lD1,hs1]; omega) (fun v hv'=>one v (by rw [← hLr]; rw [← hD1] at hv'; exact List.mem_of_mem_drop hv'))
  rw [h,bM]
  congr 2
  congr 1
  show min _ _=_
  omega
 have hs2:aT.size=C*3:=by rw [← bM]; simp only [List.size_toArray,List.length_append,List.length_take,List.length_drop,Array.length_toList,hs1,lD1]; omega
 have hR3:cL (W2.drew.setRow w.heap.size aT) base 34 3 w.heap.size C aT:=cL.set (w:=W2.drew) ⟨hR2.ge,hR2.blk,hR2.cap_,hR2.size⟩ aT hs2
 have hfin:=hR3.own (n:=n+1) hCn (xs:=au aB (l.take k ++ x :: l.drop k)) (by
  have h:=sM (L:=fT.toList) (X:=aB x) (D:=D1) (a:=k*3) (s:=3) (by have e:fT.toList.length=fT.size:=Array.length_toList; omega) (aJ x)
  rw [h0t] at h
  rw [bU,show au aB (x :: l.drop k)=aB x ++ au aB (l.drop k) from rfl,← cI aJ,← dU aJ,← List.append_assoc,← hLr,hD1,← h,← bM,← cQ]
  simp only [lD1,aJ,h0t]
  rw [show (k+1)*3=k*3+3 by omega,show (n+1)*3=k*3+3+(n - k)*3 by omega])
 have hgr:bZ w (W2.drew.setRow w.heap.size aT) (.slice (some ⟨g,0,none⟩) n n) (.slice (some ⟨w.heap.size,0,none⟩) (n+1) C):=by
  have hb3:Below w.heap.size w (W2.drew.setRow w.heap.size aT):=AJ.trans ⟨rfl,rfl,rfl,by simp [World.setRow],fun q hq=>setRow_other W2.drew w.heap.size q aT (by omega)⟩
  exact⟨⟨hb3.os,hb3.tape,hb3.output,hb3.size,fun q hq _=>hb3.block q hq⟩,.inr ⟨w.heap.size,rfl,Nat.le_refl _⟩⟩
 have aP:=hid (show aX aB base 34 3 (some ⟨g,0,none⟩) n n (l.take k ++ x :: l.drop k) w (.returned (.slice (some ⟨w.heap.size,0,none⟩) (n+1) C)) (W2.drew.setRow w.heap.size aT) from ⟨_,n+1,C,rfl,by rw [List.length_append,List.length_cons,List.length_take,List.length_drop]; omega,hfin,hgr⟩)
 have Gw:=hid happ
 have Gx:=hid hcp1
 have hC1:¬ C=k:=by omega
 have hC2:¬ C=k+1:=by omega
 clear hl hR htk hv ho hinfo hL hLl hLr one hold hC hCm l9 happ hs0 h0t hW1 nN hR1 hg1 hv1 cQ hcp1 hs1 hR2 hg2 hW2 AJ hD1 lD1 bM hs2 hR3 hfin hgr hi0 hz0 hz1 hzb
 go_enter Tryz.func193,Tryz.ntmps193
 go_wp2_with (first | (at_builtin; refine Lib.wpList_append_run _ rfl _ _ 23 3 rfl _ _ rfl rfl _ _ (Gw.out _) ?_) | (refine eS _ rfl _ _ 23 23 rfl _ _ rfl rfl (Gx.out _ _) ?_))
 go_region_law (refine fS rfl _ _ 23 23 rfl _ _ (by simp [Act.eval,Act.put]) (by simp [Act.eval,Act.put]) (hcp2 _ _ _) ?_)
 go_wp2
 go_ret
 exact aP.out
theorem FH (base:Nat) (A:Option Addr) (n c vb k:Nat) (l:List aA) (x:aA) (w:World) (ho:w.ownsRow base 34 3 (.slice A n c) n (au aB l)) (hl:l.length=n) (hn:n≤1000) (hk:k≤n) (hv:Blk w vb 34 (aB x).toArray) (hvg:∀ q,(Value.slice A n c).ownBlock=some q→vb≠q) (hbase:base≤w.heap.size) :
 Calls Tryz.prog 193 #[.slice A n c,.int .i64 k,.slice (some ⟨vb,0,none⟩) 1 1] w (aX aB base 34 3 A n c (l.take k ++ x :: l.drop k) w):=by
 by_cases hkn:k=n
 · subst hkn
   rw [List.take_of_length_le (by omega),List.drop_eq_nil_of_le (by omega)]
   exact Eh base A k c vb l x w ho hl hn (fun j u hu=>by rw [Nat.zero_add,hv.cell j,List.getElem?_toArray]; exact hu) hbase
 · obtain⟨g,cap,hA,hcap⟩:=ho.form (by omega)
   injection hA with hA _ hc
   subst hA; subst hc
   by_cases hroom:n+1≤c
   · exact Ei base g n c vb k l x w ho hl hn (by omega) hroom hv (hvg g rfl) hbase
   · obtain rfl:c=n:=by obtain⟨_,_,h,_⟩:=cL.of ho; omega
     exact Ej base g c vb k l x w ho hl hn (by omega) hv hbase
theorem lK:(Tryz.prog.info? 36).map (fun i=>(i.zero,i.size,i.bytes))=some (some (.agg #[.string ⟨#[]⟩,.string ⟨#[]⟩,.int .i64 0]),3,40):=by kernel_rfl
theorem eQ (a:ak) (u:Value) (h:u ∈ av a):u.oneCell'=true:=by
 simp only [av,List.mem_cons,List.not_mem_nil,or_false] at h
 rcases h with rfl | rfl | rfl <;> rfl
theorem B7 (base:Nat) (A:Option Addr) (n c vb:Nat) (l:List ak) (x:ak) (w:World) (ho:w.ownsRow base 36 3 (.slice A n c) n (au av l)) (hl:l.length=n) (hn:n≤1000) (hv:fL w vb 0 (av x)) (hbase:base≤w.heap.size) :
 Calls Tryz.prog 233 #[.slice A n c,.int .i64 n,.slice (some ⟨vb,0,none⟩) 1 1] w (aX av base 36 3 A n c (l ++ [x]) w):=by
 have Ho:=hid ho
 have Hv:=hid hv
 have Hl:=hid (show n+1=(l ++ [x]).length by simp [hl])
 clear ho hv hl
 by_cases hcn:c=n
 · subst hcn
   go_enter Tryz.func233,Tryz.ntmps233
   go_wp2_with (at_builtin; refine kY av rfl _ _ 24 36 (.agg #[.string ⟨#[]⟩,.string ⟨#[]⟩,.int .i64 0]) 3 40 rfl Tryz.underlying24 lK rfl (by decide) aG eQ base A c c l rfl Ho.out x vb 1 Hv.out rfl (by omega) (by unfold maxLen; omega) hbase ?_; intro A' c' w' ho' hg')
   go_ret
   exact⟨A',c+1,c',rfl,Hl.out,ho',hg'⟩
 · go_enter Tryz.func233,Tryz.ntmps233
   go_wp2_with (at_builtin; refine kY av rfl _ _ 24 36 (.agg #[.string ⟨#[]⟩,.string ⟨#[]⟩,.int .i64 0]) 3 40 rfl Tryz.underlying24 lK rfl (by decide) aG eQ base A n c l rfl Ho.out x vb 1 Hv.out rfl (by omega) (by unfold maxLen; omega) hbase ?_; intro A' c' w' ho' hg')
   go_ret
   exact⟨A',n+1,c',rfl,Hl.out,ho',hg'⟩
theorem B8 (base g n c vb k:Nat) (l:List ak) (x:ak) (w:World) (ho:w.ownsRow base 36 3 (.slice (some ⟨g,0,none⟩) n c) n (au av l)) (hl:l.length=n) (hn:n≤1000) (hk:k<n) (hroom:n+1≤c) (hv:Blk w vb 36 (av x).toArray) (hvg:vb≠g) (hbase:base≤w.heap.size) :
 Calls Tryz.prog 233 #[.slice (some ⟨g,0,none⟩) n c,.int .i64 k,.slice (some ⟨vb,0,none⟩) 1 1] w (aX av base 36 3 (some ⟨g,0,none⟩) n c (l.take k ++ x :: l.drop k) w):=by
 obtain⟨cur,hR,hnc,htk⟩:=cL.of ho
 have hc63:=hR.cap_
 unfold maxLen at hc63
 have Hl:=hid hl
 have HR:=hid hR
 have Htk:=hid htk
 have Hv:=hid hv
 have hb2:¬ (c=k+1):=by omega
 have hb4:¬ (c=k):=by omega
 have hz2:¬ ((k:Int)=(n:Int)):=by omega
 have hw1:IntKind.i64.wrap ((k:Int)+1)=(k:Int)+1:=by rw [IntKind.wrap_i64]; omega
 have hb1:(0:Int)≤(k:Int)+1:=by omega
 have htn:((k:Int)+1).toNat=k+1:=by omega
 have hb3:(k:Int)≤(n:Int)+1:=by omega
 have hb5:(k:Int)+1≤(n:Int)+1:=by omega
 have hinfo:(Tryz.prog.info? 36).map (·.size)=some 3:=by
  obtain⟨i0,hi,hz0,hz1,hz2⟩:=info_parts lK
  rw [hi]; simp [hz1]
 have hsa:w.shape? vb=some (36,3):=by unfold World.shape?; rw [show w.heap[vb]? = some (.cells (av x).toArray 36 (0,0)) from hv]; rfl
 have hsb:w.shape? g=some (36,cur.size):=by unfold World.shape?; rw [hR.blk]
 have hov:∀ lb cb,(callFunc 247 #[.slice (some ⟨vb,0,none⟩) 1 1,.slice (some ⟨g,(k+1)*3,none⟩) lb cb]).run Tryz.prog w = .ok (.value (.bool false)) w:=fun lb cb=>by
  rw [run_callFunc_extern Tryz.func247 (by kernel_rfl) (by kernel_rfl) (by kernel_rfl) (e:=Extern.SlicesOverlaps.overlaps #[24,24] #[4]) (by kernel_rfl),
   Lib.run_overlaps_apart w 24 4 36 Tryz.underlying24 3 Tryz.sizeOf36 ⟨vb,0,none⟩ ⟨g,(k+1)*3,none⟩ 1 1 lb cb hvg 36 36 3 cur.size hsa hsb (by rw [hR.size]; omega) (hv.thaw 0) (hv.thaw 3)]
  rfl
 obtain⟨L,hL⟩:∃ L,cur.toList=L:=⟨_,rfl⟩
 have hLl:L.length=c*3:=by rw [← hL,Array.length_toList,hR.size]
 obtain⟨C1,hC1⟩:∃ C1,(L.drop (k*3)).take (n*3 - k*3)=C1:=⟨_,rfl⟩
 have lC1:C1.length=(n - k)*3:=by rw [← hC1,List.length_take,List.length_drop,hLl]; omega
 have m1C:∀ v ∈ C1,v ∈ au av l:=fun v hv'=>by
  rw [← hC1,← List.drop_take,← hL,htk] at hv'
  exact List.mem_of_mem_drop hv'
 have one:∀ v ∈ au av l,v.oneCell'=true:=fun v hv'=>by
  obtain⟨a,_,ha⟩:=List.mem_flatMap.1 hv'
  exact eQ a v ha
 have hcp1:∀ ty dc sc,(Builtin.copy_ #[24,24] ty #[.slice (some ⟨g,(k+1)*3,none⟩) (n - k) dc,.slice (some ⟨g,k*3,none⟩) (n+1 - k) sc]).run Tryz.prog w.drew = .ok (.int .i64 ((n - k:Nat):Int)) (w.drew.setRow g (cur.toList.take ((k+1)*3) ++ C1 ++ cur.toList.drop ((k+1)*3+C1.length)).toArray):=fun ty dc sc=>by
  have h:=cK (P:=Tryz.prog) w.drew 24 24 ty 36 3 g ((k+1)*3) (n - k) dc ⟨g,k*3,none⟩ (n+1 - k) sc cur 36 C1 Tryz.underlying24 hinfo hR.blk (by rw [lC1]; congr 1; show _=min _ _; omega)
   (fun j v hj=>(hR.cells (k*3)) j v (by
    rw [hL]
    rw [← hC1,List.getElem?_take] at hj
    split at hj
    · exact hj
    · cases hj)) (by rw [lC1,hR.size]; omega) (fun v hv'=>one v (m1C v hv'))
  rw [h]
  congr 2
  congr 1
  show min _ _=_
  omega
 obtain⟨aS,cQ⟩:∃ aS,(cur.toList.take ((k+1)*3) ++ C1 ++ cur.toList.drop ((k+1)*3+C1.length)).toArray=aS:=⟨_,rfl⟩
 rw [cQ] at hcp1
 have hs1:aS.size=c*3:=by rw [← cQ]; simp only [List.size_toArray,List.length_append,List.length_take,List.length_drop,hL,hLl,lC1]; omega
 have hR1:cL (w.drew.setRow g aS) base 36 3 g c aS:=cL.set (w:=w.drew) ⟨hR.ge,hR.blk,hR.cap_,hR.size⟩ aS hs1
 have hv1:Blk (w.drew.setRow g aS) vb 36 (av x).toArray:=(setRow_other w.drew g vb aS hvg).trans hv
 obtain⟨W1,hW1⟩:∃ W1,w.drew.setRow g aS=W1:=⟨_,rfl⟩
 rw [hW1] at hcp1 hR1 hv1
 obtain⟨aT,bM⟩:∃ aT,(aS.toList.take (k*3) ++ av x ++ aS.toList.drop (k*3+(av x).length)).toArray=aT:=⟨_,rfl⟩
 have hcp2:∀ ty dc,(Builtin.copy_ #[24,24] ty #[.slice (some ⟨g,k*3,none⟩) (n+1 - k) dc,.slice (some ⟨vb,0,none⟩) 1 1]).run Tryz.prog W1 = .ok (.int .i64 ((1:Nat):Int)) (W1.setRow g aT):=fun ty dc=>by
  have h:=cK (P:=Tryz.prog) W1 24 24 ty 36 3 g (k*3) (n+1 - k) dc ⟨vb,0,none⟩ 1 1 aS 36 (av x) Tryz.underlying24 hinfo hR1.blk (by rw [aG]; show _=min _ _*_; rw [Nat.min_eq_left (by omega)])
   (fun j v hj=>by
    have ea:(⟨vb,0,none⟩:Addr).add j=⟨vb,j,none⟩:=by unfold Addr.add; split <;> simp_all
    rw [ea,hv1.cell j,List.getElem?_toArray]; exact hj) (by rw [aG,hs1]; omega) (fun v hv'=>eQ x v hv')
  rw [h,bM]
  congr 2
  congr 1
  show min _ _=_
  omega
 have hs2:aT.size=c*3:=by rw [← bM]; simp only [List.size_toArray,List.length_append,List.length_take,List.length_drop,Array.length_toList,hs1,aG]; omega
 have hfin:=(hR1.set aT hs2).own (n:=n+1) (by omega) (xs:=au av (l.take k ++ x :: l.drop k)) (by
  have h:=qm (L:=L) (R:=au av l) (X:=av x) (a:=k*3) (b:=n*3) (s:=3) (Nat.mul_le_mul_right _ (by omega)) (by omega) (aG x) (by rw [← hL]; exact htk)
  rw [bU,show au av (x :: l.drop k)=av x ++ au av (l.drop k) from rfl,← cI aG,← dU aG,← List.append_assoc,← h,← bM,← cQ]
  simp only [hL,lC1,aG]
  rw [← hC1,show (k+1)*3=k*3+3 by omega,show (n+1)*3=n*3+3 by omega,show (n - k)*3=n*3 - k*3 by omega])
 have hgr:bZ w (W1.setRow g aT) (.slice (some ⟨g,0,none⟩) n c) (.slice (some ⟨g,0,none⟩) (n+1) c):=by
  rw [← hW1]
  exact (show bZ w (w.drew.setRow g aS) (.slice (some ⟨g,0,none⟩) n c) (.slice (some ⟨g,0,none⟩) n c) from eN w g n n c c aS).trans (jh _ g n (n+1) c c aT)
 have aP:=hid (show aX av base 36 3 (some ⟨g,0,none⟩) n c (l.take k ++ x :: l.drop k) w (.returned (.slice (some ⟨g,0,none⟩) (n+1) c)) (W1.setRow g aT) from ⟨_,n+1,c,rfl,by rw [List.length_append,List.length_cons,List.length_take,List.length_drop]; omega,hfin,hgr⟩)
 clear hl hR htk hv hvg ho Hl HR Htk Hv hsa hsb hinfo hL hLl hC1 lC1 m1C one cQ hs1 hR1 hv1 hW1 bM hs2 hfin hgr
 go_enter Tryz.func233,Tryz.ntmps233
 go_wp2_with (simp only [hov])
 go_region_law (refine fS rfl _ _ 24 24 rfl _ _ (by simp [Act.eval,Act.put]) (by simp [Act.eval,Act.put]) (hcp1 _ _ _) ?_)
 go_wp2_with (refine eS _ rfl _ _ 24 24 rfl _ _ rfl rfl (hcp2 _ _) ?_)
 go_ret
 exact aP.out
theorem B9 (base g n vb k:Nat) (l:List ak) (x:ak) (w:World) (ho:w.ownsRow base 36 3 (.slice (some ⟨g,0,none⟩) n n) n (au av l)) (hl:l.length=n) (hn:n≤1000) (hk:k<n) (hv:Blk w vb 36 (av x).toArray) (hbase:base≤w.heap.size) :
 Calls Tryz.prog 233 #[.slice (some ⟨g,0,none⟩) n n,.int .i64 k,.slice (some ⟨vb,0,none⟩) 1 1] w (aX av base 36 3 (some ⟨g,0,none⟩) n n (l.take k ++ x :: l.drop k) w):=by
 obtain⟨cur,hR,hnc,htk⟩:=cL.of ho
 have hz2:¬ ((k:Int)=(n:Int)):=by omega
 have hb4:¬ (n=k):=by omega
 have hw1:IntKind.i64.wrap ((k:Int)+1)=(k:Int)+1:=by rw [IntKind.wrap_i64]; omega
 have hb1:(0:Int)≤(k:Int)+1:=by omega
 have htn:((k:Int)+1).toNat=k+1:=by omega
 have hb5:(k:Int)+1≤(n:Int)+1:=by omega
 have hb3:(k:Int)≤(n:Int):=by omega
 obtain⟨i0,hi0,hz0,hz1,hzb⟩:=info_parts lK
 have hinfo:(Tryz.prog.info? 36).map (·.size)=some 3:=by rw [hi0]; simp [hz1]
 obtain⟨L,hL⟩:∃ L,cur.toList=L:=⟨_,rfl⟩
 have hLl:L.length=n*3:=by rw [← hL,Array.length_toList,hR.size]
 have hLr:L=au av l:=by rw [← htk,hL,List.take_of_length_le (by omega)]
 have one:∀ v ∈ au av l,v.oneCell'=true:=fun v hv'=>by
  obtain⟨a,_,ha⟩:=List.mem_flatMap.1 hv'
  exact eQ a v ha
 have hold:(Builtin.firstCells i0.size k (.slice (some ⟨g,0,none⟩) k n)).run Tryz.prog w.drew = .ok (L.take (k*3)).toArray w.drew:=by
  refine run_firstCells_some (P:=Tryz.prog) w.drew i0.size k ⟨g,0,none⟩ k n _ (by rw [List.length_take,hz1]; omega) (fun j v hj=>?_)
  have h:=hR.cells 0 j v (by
   rw [List.drop_zero,hL]
   rw [List.getElem?_take] at hj
   split at hj
   · exact hj
   · cases hj)
  exact h
 obtain⟨C,hC⟩:∃ C,grownCap w (n+1) n 36 = C:=⟨_,rfl⟩
 have hCn:n+1≤C:=by rw [← hC]; exact grownCap_ge w _ _ _
 have hCm:C≤maxLen:=by rw [← hC]; exact grownCap_le_maxLen w _ _ _ (by unfold maxLen; omega)
 have Gv:=hCm
 unfold maxLen at Gv
 obtain⟨fT,l9⟩:∃ fT,(L.take (k*3)).toArray ++ Builtin.zeroCells (Value.cells (.agg #[.string ⟨#[]⟩,.string ⟨#[]⟩,.int .i64 0])) (n+1 - k) ++ Builtin.zeroCells (Value.cells (.agg #[.string ⟨#[]⟩,.string ⟨#[]⟩,.int .i64 0])) (C - (n+1))=fT:=⟨_,rfl⟩
 have happ:∀ ty,(Builtin.append_ #[24,3] ty #[.slice (some ⟨g,0,none⟩) k n,.int .i64 ((n:Int)+1 - (k:Int))]).run Tryz.prog w = .ok (.slice (some ⟨w.heap.size,0,none⟩) (n+1) C) (w.drew.alloc (.cells fT 36)):=fun ty=>by
  have h:=Lib.run_append_grow_zeros w 24 3 ty 36 i0 _ .i64 .i64 Tryz.underlying24 Tryz.underlying3 hi0 hz0 (some ⟨g,0,none⟩) k n (L.take (k*3)) hold (n+1 - k) (by omega) (by omega) (by omega) (by omega) (by rw [hzb]; omega) (by rw [hzb,show k+(n+1 - k)=n+1 by omega]; exact growslice_fits (by omega) (by omega))
  rw [show k+(n+1 - k)=n+1 by omega,hC,l9,show ((n+1 - k:Nat):Int)=(n:Int)+1 - k by omega] at h
  exact h
 have hs0:fT.size=C*3:=by rw [← l9]; simp only [Array.size_append,List.size_toArray,size_zeroCells,List.length_take,hLl]; show min _ _+_*3+_*3=_; omega
 have h0t:fT.toList.take (k*3)=L.take (k*3):=by
  rw [← l9,Array.toList_append,Array.toList_append,List.append_assoc,List.take_append_of_le_length (by rw [List.length_take]; omega),List.take_of_length_le (by rw [List.length_take]; omega)]
 obtain⟨W1,hW1⟩:∃ W1,w.drew.alloc (.cells fT 36)=W1:=⟨_,rfl⟩
 have nN:Below w.heap.size w W1:=by rw [← hW1]; exact (Below.refl w.heap.size w).drew.alloc (Nat.le_refl _) _
 have hR1:cL W1 base 36 3 w.heap.size C fT:=by rw [← hW1]; exact⟨hbase,heap_alloc_new w.drew _,hCm,hs0⟩
 have hg1:cL W1 base 36 3 g n cur:=⟨hR.ge,(nN.block g (Array.getElem?_eq_some_iff.1 hR.blk).1).trans hR.blk,hR.cap_,hR.size⟩
 have hv1:Blk W1 vb 36 (av x).toArray:=hv.below nN hv.lt
 have hgl:g<w.heap.size:=(Array.getElem?_eq_some_iff.1 hR.blk).1
 rw [hW1] at happ
 obtain⟨aS,cQ⟩:∃ aS,(fT.toList.take (k*3) ++ av x ++ fT.toList.drop (k*3+(av x).length)).toArray=aS:=⟨_,rfl⟩
 have hcp1:∀ ty dc,(Builtin.copy_ #[24,24] ty #[.slice (some ⟨w.heap.size,k*3,none⟩) (n+1 - k) dc,.slice (some ⟨vb,0,none⟩) 1 1]).run Tryz.prog W1 = .ok (.int .i64 ((1:Nat):Int)) (W1.setRow w.heap.size aS):=fun ty dc=>by
  have h:=cK (P:=Tryz.prog) W1 24 24 ty 36 3 w.heap.size (k*3) (n+1 - k) dc ⟨vb,0,none⟩ 1 1 fT 36 (av x) Tryz.underlying24 hinfo hR1.blk (by rw [aG]; show _=min _ _*_; rw [Nat.min_eq_left (by omega)])
   (fun j v hj=>by
    have ea:(⟨vb,0,none⟩:Addr).add j=⟨vb,j,none⟩:=by unfold Addr.add; split <;> simp_all
    rw [ea,hv1.cell j,List.getElem?_toArray]; exact hj) (by rw [aG,hs0]; omega) (fun v hv'=>eQ x v hv')
  rw [h,cQ]
  congr 2
  congr 1
  show min _ _=_
  omega
 have hs1:aS.size=C*3:=by rw [← cQ]; simp only [List.size_toArray,List.length_append,List.length_take,List.length_drop,Array.length_toList,hs0,aG]; omega
 have hR2:=hR1.set aS hs1
 have hg2:cL (W1.setRow w.heap.size aS) base 36 3 g n cur:=⟨hg1.ge,(setRow_other W1 w.heap.size g aS (by omega)).trans hg1.blk,hg1.cap_,hg1.size⟩
 obtain⟨W2,hW2⟩:∃ W2,W1.setRow w.heap.size aS=W2:=⟨_,rfl⟩
 have AJ:Below w.heap.size w W2:=by rw [← hW2]; exact nN.trans ⟨rfl,rfl,rfl,by simp [World.setRow],fun q hq=>setRow_other W1 w.heap.size q aS (by omega)⟩
 rw [hW2] at hcp1 hR2 hg2
 obtain⟨D1,hD1⟩:∃ D1,L.drop (k*3)=D1:=⟨_,rfl⟩
 have lD1:D1.length=(n - k)*3:=by rw [← hD1,List.length_drop,hLl]; omega
 obtain⟨aT,bM⟩:∃ aT,(aS.toList.take ((k+1)*3) ++ D1 ++ aS.toList.drop ((k+1)*3+D1.length)).toArray=aT:=⟨_,rfl⟩
 have hcp2:∀ ty dc sc,(Builtin.copy_ #[24,24] ty #[.slice (some ⟨w.heap.size,(k+1)*3,none⟩) (n - k) dc,.slice (some ⟨g,k*3,none⟩) (n - k) sc]).run Tryz.prog W2.drew = .ok (.int .i64 ((n - k:Nat):Int)) (W2.drew.setRow w.heap.size aT):=fun ty dc sc=>by
  have h:=cK (P:=Tryz.prog) W2.drew 24 24 ty 36 3 w.heap.size ((k+1)*3) (n - k) dc ⟨g,k*3,none⟩ (n - k) sc aS 36 D1 Tryz.underlying24 hinfo hR2.blk (by rw [lD1]; congr 1; show _=min _ _; omega)
   (fun j v hj=>hg2.cells (k*3) j v (by rw [hL,hD1]; exact hj)) (by rw [lD1,hs1]; omega) (fun v hv'=>one v (by rw [← hLr]; rw [← hD1] at hv'; exact List.mem_of_mem_drop hv'))
  rw [h,bM]
  congr 2
  congr 1
  show min _ _=_
  omega
 have hs2:aT.size=C*3:=by rw [← bM]; simp only [List.size_toArray,List.length_append,List.length_take,List.length_drop,Array.length_toList,hs1,lD1]; omega
 have hR3:cL (W2.drew.setRow w.heap.size aT) base 36 3 w.heap.size C aT:=cL.set (w:=W2.drew) ⟨hR2.ge,hR2.blk,hR2.cap_,hR2.size⟩ aT hs2
 have hfin:=hR3.own (n:=n+1) hCn (xs:=au av (l.take k ++ x :: l.drop k)) (by
  have h:=sM (L:=fT.toList) (X:=av x) (D:=D1) (a:=k*3) (s:=3) (by have e:fT.toList.length=fT.size:=Array.length_toList; omega) (aG x)
  rw [h0t] at h
  rw [bU,show au av (x :: l.drop k)=av x ++ au av (l.drop k) from rfl,← cI aG,← dU aG,← List.append_assoc,← hLr,hD1,← h,← bM,← cQ]
  simp only [lD1,aG,h0t]
  rw [show (k+1)*3=k*3+3 by omega,show (n+1)*3=k*3+3+(n - k)*3 by omega])
 have hgr:bZ w (W2.drew.setRow w.heap.size aT) (.slice (some ⟨g,0,none⟩) n n) (.slice (some ⟨w.heap.size,0,none⟩) (n+1) C):=by
  have hb3:Below w.heap.size w (W2.drew.setRow w.heap.size aT):=AJ.trans ⟨rfl,rfl,rfl,by simp [World.setRow],fun q hq=>setRow_other W2.drew w.heap.size q aT (by omega)⟩
  exact⟨⟨hb3.os,hb3.tape,hb3.output,hb3.size,fun q hq _=>hb3.block q hq⟩,.inr ⟨w.heap.size,rfl,Nat.le_refl _⟩⟩
 have aP:=hid (show aX av base 36 3 (some ⟨g,0,none⟩) n n (l.take k ++ x :: l.drop k) w (.returned (.slice (some ⟨w.heap.size,0,none⟩) (n+1) C)) (W2.drew.setRow w.heap.size aT) from ⟨_,n+1,C,rfl,by rw [List.length_append,List.length_cons,List.length_take,List.length_drop]; omega,hfin,hgr⟩)
 have Gw:=hid happ
 have Gx:=hid hcp1
 have hC1:¬ C=k:=by omega
 have hC2:¬ C=k+1:=by omega
 clear hl hR htk hv ho hinfo hL hLl hLr one hold hC hCm l9 happ hs0 h0t hW1 nN hR1 hg1 hv1 cQ hcp1 hs1 hR2 hg2 hW2 AJ hD1 lD1 bM hs2 hR3 hfin hgr hi0 hz0 hz1 hzb
 go_enter Tryz.func233,Tryz.ntmps233
 go_wp2_with (first | (at_builtin; refine Lib.wpList_append_run _ rfl _ _ 24 3 rfl _ _ rfl rfl _ _ (Gw.out _) ?_) | (refine eS _ rfl _ _ 24 24 rfl _ _ rfl rfl (Gx.out _ _) ?_))
 go_region_law (refine fS rfl _ _ 24 24 rfl _ _ (by simp [Act.eval,Act.put]) (by simp [Act.eval,Act.put]) (hcp2 _ _ _) ?_)
 go_wp2
 go_ret
 exact aP.out
theorem DP (base:Nat) (A:Option Addr) (n c vb k:Nat) (l:List ak) (x:ak) (w:World) (ho:w.ownsRow base 36 3 (.slice A n c) n (au av l)) (hl:l.length=n) (hn:n≤1000) (hk:k≤n) (hv:Blk w vb 36 (av x).toArray) (hvg:∀ q,(Value.slice A n c).ownBlock=some q→vb≠q) (hbase:base≤w.heap.size) :
 Calls Tryz.prog 233 #[.slice A n c,.int .i64 k,.slice (some ⟨vb,0,none⟩) 1 1] w (aX av base 36 3 A n c (l.take k ++ x :: l.drop k) w):=by
 by_cases hkn:k=n
 · subst hkn
   rw [List.take_of_length_le (by omega),List.drop_eq_nil_of_le (by omega)]
   exact B7 base A k c vb l x w ho hl hn (fun j u hu=>by rw [Nat.zero_add,hv.cell j,List.getElem?_toArray]; exact hu) hbase
 · obtain⟨g,cap,hA,hcap⟩:=ho.form (by omega)
   injection hA with hA _ hc
   subst hA; subst hc
   by_cases hroom:n+1≤c
   · exact B8 base g n c vb k l x w ho hl hn (by omega) hroom hv (hvg g rfl) hbase
   · obtain rfl:c=n:=by obtain⟨_,_,h,_⟩:=cL.of ho; omega
     exact B9 base g c vb k l x w ho hl hn (by omega) hv hbase
end Go.Proofs.YtbllgmociapjeaaGreatDoor
