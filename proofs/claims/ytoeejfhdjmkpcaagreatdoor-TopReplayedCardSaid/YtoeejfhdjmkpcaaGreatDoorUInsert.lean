/- Of the proof of a statement: Insert. -/
import Derived.Lib.Overlaps
import Derived.Laws.Externs
import Derived.Test.YtoeejfhdjmkpcaaGreatDoorUBSearch
import Derived.Test.YtoeejfhdjmkpcaaGreatDoorURPhQ
set_option linter.unusedVariables false
set_option linter.unusedSimpArgs false
set_option maxRecDepth 100000
set_option maxHeartbeats 8000000
/- slices.Insert of one row into a row of the call's own. -/
namespace Go.Proofs.YtoeejfhdjmkpcaaGreatDoor
open Go.Lib (hid)
open Go.RowKit
theorem lR {P:Program} {w:World} {ops:Array Oper} {rest:List Oper} {o:Oper} {a:Act} {Q:Exit→Act→World→Prop} {α:Type} (enc:α→List Value) (hgd:o.guard=none) (s x:Operand) (t e:TypeId) (z:Value) (sz bytes:Nat) (ho:o.op = .call { callee:=.builtin .append,args:=#[s,x],argTypes:=#[t,t] })
 (ht:P.underlying t=some (.slice e)) (hinfo:(P.info? e).map (fun i=>(i.zero,i.size,i.bytes))=some (some z,sz,bytes)) (hzs:z.cells.size=sz) (hsz:0<sz)
 (henc:∀ a,(enc a).length=sz) (h1:∀ a,∀ u ∈ enc a,u.oneCell'=true)
 (base:Nat) (A:Option Addr) (m c:Nat) (l:List α) (hs:a.eval s = .slice A m c) (hown:w.ownsRow base e sz (.slice A m c) m (au enc l))
 (b:α) (g c2:Nat) (hr:fW w g 0 (enc b)) (hx:a.eval x = .slice (some ⟨g,0,none⟩) 1 c2) (hm:(m+1)*bytes≤140737488355328) (h63:m+1≤maxLen) (hbase:base≤w.heap.size)
 (h:∀ A' c' w',w'.ownsRow base e sz (.slice A' (m+1) c') (m+1) (au enc (l ++ [b]))→cE w w' (.slice A m c) (.slice A' (m+1) c')→wpList P ops Q rest (a.put o.dst (.slice A' (m+1) c')) w') :
 wpList P ops Q (o :: rest) a w:=by
 obtain⟨i0,hi,hz0,hz1,hz2⟩:=info_parts hinfo
 refine wpList_append_own_at _ hgd s x t ho base e i0 z sz bytes ht hi hz0 hz1 hz2 hzs hsz _ m _ hs hown ⟨g,0,none⟩ 1 c2 (enc b) hx (by rw [henc,Nat.one_mul]) (fun j u hu=>by
  have ea:(⟨g,0,none⟩:Addr).add j=⟨g,0+j,none⟩:=by unfold Addr.add; split <;> simp_all
  rw [ea]; exact hr j u hu) (fun u hu=>h1 _ _ hu) h63 hm hbase (fun v' w' o' g' hnil hb=>?_)
 have e1:au enc l ++ enc b=au enc (l ++ [b]):=by rw [bS,nL]
 rw [e1] at o'
 obtain⟨g,cap,hv,_⟩:=o'.form (by omega)
 subst hv
 refine h _ _ _ o' ⟨g',?_⟩
 rcases hb with hb | hb
 · exact .inl hb
 · exact .inr ⟨_,hb,Nat.le_refl _⟩
def bf {α:Type} (enc:α→List Value) (base:Nat) (T:TypeId) (sz:Nat) (A:Option Addr) (n c:Nat) (l:List α) (w:World) (e:Ending) (w':World):Prop:=
 ∃ A' m c',e = .returned (.slice A' m c')∧m=l.length∧w'.ownsRow base T sz (.slice A' m c') m (au enc l)∧cE w w' (.slice A n c) (.slice A' m c')
theorem pC:(Tryz.prog.info? 34).map (fun i=>(i.zero,i.size,i.bytes))=some (some (.agg #[.string ⟨#[]⟩,.int .i64 0,.int .i64 0,.int .i64 0,.string ⟨#[]⟩]),5,56):=by kernel_rfl
theorem iO (a:aA) (u:Value) (h:u ∈ aJ a):u.oneCell'=true:=by
 simp only [aJ,List.mem_cons,List.not_mem_nil,or_false] at h
 rcases h with rfl | rfl | rfl | rfl | rfl <;> rfl
theorem IE (base:Nat) (A:Option Addr) (n c vb:Nat) (l:List aA) (x:aA) (w:World) (ho:w.ownsRow base 34 5 (.slice A n c) n (au aJ l)) (hl:l.length=n) (hn:n≤1000) (hv:fW w vb 0 (aJ x)) (hbase:base≤w.heap.size) :
 Calls Tryz.prog 237 #[.slice A n c,.int .i64 n,.slice (some ⟨vb,0,none⟩) 1 1] w (bf aJ base 34 5 A n c (l ++ [x]) w):=by
 have Ho:=hid ho
 have Hv:=hid hv
 have Hl:=hid (show n+1=(l ++ [x]).length by simp [hl])
 clear ho hv hl
 by_cases hcn:c=n
 · subst hcn
   go_enter Tryz.func237,Tryz.ntmps237
   go_wp2_with (at_builtin; refine lR aJ rfl _ _ 22 34 (.agg #[.string ⟨#[]⟩,.int .i64 0,.int .i64 0,.int .i64 0,.string ⟨#[]⟩]) 5 56 rfl Tryz.underlying22 pC rfl (by decide) aP iO base A c c l rfl Ho.out x vb 1 Hv.out rfl (by omega) (by unfold maxLen; omega) hbase ?_; intro A' c' w' ho' hg')
   go_ret
   exact⟨A',c+1,c',rfl,Hl.out,ho',hg'⟩
 · go_enter Tryz.func237,Tryz.ntmps237
   go_wp2_with (at_builtin; refine lR aJ rfl _ _ 22 34 (.agg #[.string ⟨#[]⟩,.int .i64 0,.int .i64 0,.int .i64 0,.string ⟨#[]⟩]) 5 56 rfl Tryz.underlying22 pC rfl (by decide) aP iO base A n c l rfl Ho.out x vb 1 Hv.out rfl (by omega) (by unfold maxLen; omega) hbase ?_; intro A' c' w' ho' hg')
   go_ret
   exact⟨A',n+1,c',rfl,Hl.out,ho',hg'⟩
theorem IF (base g n c vb k:Nat) (l:List aA) (x:aA) (w:World) (ho:w.ownsRow base 34 5 (.slice (some ⟨g,0,none⟩) n c) n (au aJ l)) (hl:l.length=n) (hn:n≤1000) (hk:k<n) (hroom:n+1≤c) (hv:Blk w vb 34 (aJ x).toArray) (hvg:vb≠g) (hbase:base≤w.heap.size) :
 Calls Tryz.prog 237 #[.slice (some ⟨g,0,none⟩) n c,.int .i64 k,.slice (some ⟨vb,0,none⟩) 1 1] w (bf aJ base 34 5 (some ⟨g,0,none⟩) n c (l.take k ++ x :: l.drop k) w):=by
 obtain⟨cur,hR,hnc,htk⟩:=cS.of ho
 have hc63:=hR.cap_
 unfold maxLen at hc63
 have Hl:=hid hl
 have HR:=hid hR
 have Htk:=hid htk
 have Hv:=hid hv
 have hb2:¬ (c=k+1):=by omega
 have hb4:¬ (c=k):=by omega
 have hz2:¬ ((k:Int)=(n:Int)):=by omega
 have hw1:IntKind.i64.wrap ((k:Int)+1)=(k:Int)+1:=by rw [IntKind.wrap_i64]; omega
 have hb1:(0:Int)≤(k:Int)+1:=by omega
 have htn:((k:Int)+1).toNat=k+1:=by omega
 have hb3:(k:Int)≤(n:Int)+1:=by omega
 have hb5:(k:Int)+1≤(n:Int)+1:=by omega
 have hinfo:(Tryz.prog.info? 34).map (·.size)=some 5:=by
  obtain⟨i0,hi,hz0,hz1,hz2⟩:=info_parts pC
  rw [hi]; simp [hz1]
 have hsa:w.shape? vb=some (34,5):=by unfold World.shape?; rw [show w.heap[vb]? = some (.cells (aJ x).toArray 34 (0,0)) from hv]; rfl
 have hsb:w.shape? g=some (34,cur.size):=by unfold World.shape?; rw [hR.blk]
 have hov:∀ lb cb,(callFunc 337 #[.slice (some ⟨vb,0,none⟩) 1 1,.slice (some ⟨g,(k+1)*5,none⟩) lb cb]).run Tryz.prog w = .ok (.value (.bool false)) w:=fun lb cb=>by
  rw [run_callFunc_extern Tryz.func337 (by kernel_rfl) (by kernel_rfl) (by kernel_rfl) (e:=Extern.SlicesOverlaps.overlaps #[22,22] #[4]) (by kernel_rfl),
   Lib.run_overlaps_apart w 22 4 34 Tryz.underlying22 5 Tryz.sizeOf34 ⟨vb,0,none⟩ ⟨g,(k+1)*5,none⟩ 1 1 lb cb hvg 34 34 5 cur.size hsa hsb (by rw [hR.size]; omega) (hv.thaw 0) (hv.thaw 5)]
  rfl
 obtain⟨L,hL⟩:∃ L,cur.toList=L:=⟨_,rfl⟩
 have hLl:L.length=c*5:=by rw [← hL,Array.length_toList,hR.size]
 obtain⟨C1,hC1⟩:∃ C1,(L.drop (k*5)).take (n*5 - k*5)=C1:=⟨_,rfl⟩
 have lC1:C1.length=(n - k)*5:=by rw [← hC1,List.length_take,List.length_drop,hLl]; omega
 have m1C:∀ v ∈ C1,v ∈ au aJ l:=fun v hv'=>by
  rw [← hC1,← List.drop_take,← hL,htk] at hv'
  exact List.mem_of_mem_drop hv'
 have one:∀ v ∈ au aJ l,v.oneCell'=true:=fun v hv'=>by
  obtain⟨a,_,ha⟩:=List.mem_flatMap.1 hv'
  exact iO a v ha
 have hcp1:∀ ty dc sc,(Builtin.copy_ #[22,22] ty #[.slice (some ⟨g,(k+1)*5,none⟩) (n - k) dc,.slice (some ⟨g,k*5,none⟩) (n+1 - k) sc]).run Tryz.prog w.drew = .ok (.int .i64 ((n - k:Nat):Int)) (w.drew.setRow g (cur.toList.take ((k+1)*5) ++ C1 ++ cur.toList.drop ((k+1)*5+C1.length)).toArray):=fun ty dc sc=>by
  have h:=cQ (P:=Tryz.prog) w.drew 22 22 ty 34 5 g ((k+1)*5) (n - k) dc ⟨g,k*5,none⟩ (n+1 - k) sc cur 34 C1 Tryz.underlying22 hinfo hR.blk (by rw [lC1]; congr 1; show _=min _ _; omega)
   (fun j v hj=>(hR.cells (k*5)) j v (by
    rw [hL]
    rw [← hC1,List.getElem?_take] at hj
    split at hj
    · exact hj
    · cases hj)) (by rw [lC1,hR.size]; omega) (fun v hv'=>one v (m1C v hv'))
  rw [h]
  congr 2
  congr 1
  show min _ _=_
  omega
 obtain⟨aW,cX⟩:∃ aW,(cur.toList.take ((k+1)*5) ++ C1 ++ cur.toList.drop ((k+1)*5+C1.length)).toArray=aW:=⟨_,rfl⟩
 rw [cX] at hcp1
 have hs1:aW.size=c*5:=by rw [← cX]; simp only [List.size_toArray,List.length_append,List.length_take,List.length_drop,hL,hLl,lC1]; omega
 have hR1:cS (w.drew.setRow g aW) base 34 5 g c aW:=cS.set (w:=w.drew) ⟨hR.ge,hR.blk,hR.cap_,hR.size⟩ aW hs1
 have hv1:Blk (w.drew.setRow g aW) vb 34 (aJ x).toArray:=(setRow_other w.drew g vb aW hvg).trans hv
 obtain⟨W1,hW1⟩:∃ W1,w.drew.setRow g aW=W1:=⟨_,rfl⟩
 rw [hW1] at hcp1 hR1 hv1
 obtain⟨aX,bP⟩:∃ aX,(aW.toList.take (k*5) ++ aJ x ++ aW.toList.drop (k*5+(aJ x).length)).toArray=aX:=⟨_,rfl⟩
 have hcp2:∀ ty dc,(Builtin.copy_ #[22,22] ty #[.slice (some ⟨g,k*5,none⟩) (n+1 - k) dc,.slice (some ⟨vb,0,none⟩) 1 1]).run Tryz.prog W1 = .ok (.int .i64 ((1:Nat):Int)) (W1.setRow g aX):=fun ty dc=>by
  have h:=cQ (P:=Tryz.prog) W1 22 22 ty 34 5 g (k*5) (n+1 - k) dc ⟨vb,0,none⟩ 1 1 aW 34 (aJ x) Tryz.underlying22 hinfo hR1.blk (by rw [aP]; show _=min _ _*_; rw [Nat.min_eq_left (by omega)])
   (fun j v hj=>by
    have ea:(⟨vb,0,none⟩:Addr).add j=⟨vb,j,none⟩:=by unfold Addr.add; split <;> simp_all
    rw [ea,hv1.cell j,List.getElem?_toArray]; exact hj) (by rw [aP,hs1]; omega) (fun v hv'=>iO x v hv')
  rw [h,bP]
  congr 2
  congr 1
  show min _ _=_
  omega
 have hs2:aX.size=c*5:=by rw [← bP]; simp only [List.size_toArray,List.length_append,List.length_take,List.length_drop,Array.length_toList,hs1,aP]; omega
 have hfin:=(hR1.set aX hs2).own (n:=n+1) (by omega) (xs:=au aJ (l.take k ++ x :: l.drop k)) (by
  have h:=rz (L:=L) (R:=au aJ l) (X:=aJ x) (a:=k*5) (b:=n*5) (s:=5) (Nat.mul_le_mul_right _ (by omega)) (by omega) (aP x) (by rw [← hL]; exact htk)
  rw [bS,show au aJ (x :: l.drop k)=aJ x ++ au aJ (l.drop k) from rfl,← cN aP,← dX aP,← List.append_assoc,← h,← bP,← cX]
  simp only [hL,lC1,aP]
  rw [← hC1,show (k+1)*5=k*5+5 by omega,show (n+1)*5=n*5+5 by omega,show (n - k)*5=n*5 - k*5 by omega])
 have hgr:cE w (W1.setRow g aX) (.slice (some ⟨g,0,none⟩) n c) (.slice (some ⟨g,0,none⟩) (n+1) c):=by
  rw [← hW1]
  exact (show cE w (w.drew.setRow g aW) (.slice (some ⟨g,0,none⟩) n c) (.slice (some ⟨g,0,none⟩) n c) from eK w g n n c c aW).trans (jD _ g n (n+1) c c aX)
 have aS:=hid (show bf aJ base 34 5 (some ⟨g,0,none⟩) n c (l.take k ++ x :: l.drop k) w (.returned (.slice (some ⟨g,0,none⟩) (n+1) c)) (W1.setRow g aX) from ⟨_,n+1,c,rfl,by rw [List.length_append,List.length_cons,List.length_take,List.length_drop]; omega,hfin,hgr⟩)
 clear hl hR htk hv hvg ho Hl HR Htk Hv hsa hsb hinfo hL hLl hC1 lC1 m1C one cX hs1 hR1 hv1 hW1 bP hs2 hfin hgr
 go_enter Tryz.func237,Tryz.ntmps237
 go_wp2_with (simp only [hov])
 go_region_law (refine fY rfl _ _ 22 22 rfl _ _ (by simp [Act.eval,Act.put]) (by simp [Act.eval,Act.put]) (hcp1 _ _ _) ?_)
 go_wp2_with (refine eS _ rfl _ _ 22 22 rfl _ _ rfl rfl (hcp2 _ _) ?_)
 go_ret
 exact aS.out
theorem IG (base g n vb k:Nat) (l:List aA) (x:aA) (w:World) (ho:w.ownsRow base 34 5 (.slice (some ⟨g,0,none⟩) n n) n (au aJ l)) (hl:l.length=n) (hn:n≤1000) (hk:k<n) (hv:Blk w vb 34 (aJ x).toArray) (hbase:base≤w.heap.size) :
 Calls Tryz.prog 237 #[.slice (some ⟨g,0,none⟩) n n,.int .i64 k,.slice (some ⟨vb,0,none⟩) 1 1] w (bf aJ base 34 5 (some ⟨g,0,none⟩) n n (l.take k ++ x :: l.drop k) w):=by
 obtain⟨cur,hR,hnc,htk⟩:=cS.of ho
 have hz2:¬ ((k:Int)=(n:Int)):=by omega
 have hb4:¬ (n=k):=by omega
 have hw1:IntKind.i64.wrap ((k:Int)+1)=(k:Int)+1:=by rw [IntKind.wrap_i64]; omega
 have hb1:(0:Int)≤(k:Int)+1:=by omega
 have htn:((k:Int)+1).toNat=k+1:=by omega
 have hb5:(k:Int)+1≤(n:Int)+1:=by omega
 have hb3:(k:Int)≤(n:Int):=by omega
 obtain⟨i0,hi0,hz0,hz1,hzb⟩:=info_parts pC
 have hinfo:(Tryz.prog.info? 34).map (·.size)=some 5:=by rw [hi0]; simp [hz1]
 obtain⟨L,hL⟩:∃ L,cur.toList=L:=⟨_,rfl⟩
 have hLl:L.length=n*5:=by rw [← hL,Array.length_toList,hR.size]
 have hLr:L=au aJ l:=by rw [← htk,hL,List.take_of_length_le (by omega)]
 have one:∀ v ∈ au aJ l,v.oneCell'=true:=fun v hv'=>by
  obtain⟨a,_,ha⟩:=List.mem_flatMap.1 hv'
  exact iO a v ha
 have hold:(Builtin.firstCells i0.size k (.slice (some ⟨g,0,none⟩) k n)).run Tryz.prog w.drew = .ok (L.take (k*5)).toArray w.drew:=by
  refine run_firstCells_some (P:=Tryz.prog) w.drew i0.size k ⟨g,0,none⟩ k n _ (by rw [List.length_take,hz1]; omega) (fun j v hj=>?_)
  have h:=hR.cells 0 j v (by
   rw [List.drop_zero,hL]
   rw [List.getElem?_take] at hj
   split at hj
   · exact hj
   · cases hj)
  exact h
 obtain⟨C,hC⟩:∃ C,grownCap w (n+1) n 34 = C:=⟨_,rfl⟩
 have hCn:n+1≤C:=by rw [← hC]; exact grownCap_ge w _ _ _
 have hCm:C≤maxLen:=by rw [← hC]; exact grownCap_le_maxLen w _ _ _ (by unfold maxLen; omega)
 have IH:=hCm
 unfold maxLen at IH
 obtain⟨gq,mR⟩:∃ gq,(L.take (k*5)).toArray ++ Builtin.zeroCells (Value.cells (.agg #[.string ⟨#[]⟩,.int .i64 0,.int .i64 0,.int .i64 0,.string ⟨#[]⟩])) (n+1 - k) ++ Builtin.zeroCells (Value.cells (.agg #[.string ⟨#[]⟩,.int .i64 0,.int .i64 0,.int .i64 0,.string ⟨#[]⟩])) (C - (n+1))=gq:=⟨_,rfl⟩
 have happ:∀ ty,(Builtin.append_ #[22,3] ty #[.slice (some ⟨g,0,none⟩) k n,.int .i64 ((n:Int)+1 - (k:Int))]).run Tryz.prog w = .ok (.slice (some ⟨w.heap.size,0,none⟩) (n+1) C) (w.drew.alloc (.cells gq 34)):=fun ty=>by
  have h:=Lib.run_append_grow_zeros w 22 3 ty 34 i0 _ .i64 .i64 Tryz.underlying22 Tryz.underlying3 hi0 hz0 (some ⟨g,0,none⟩) k n (L.take (k*5)) hold (n+1 - k) (by omega) (by omega) (by omega) (by omega) (by rw [hzb]; omega) (by rw [hzb,show k+(n+1 - k)=n+1 by omega]; exact growslice_fits (by omega) (by omega))
  rw [show k+(n+1 - k)=n+1 by omega,hC,mR,show ((n+1 - k:Nat):Int)=(n:Int)+1 - k by omega] at h
  exact h
 have hs0:gq.size=C*5:=by rw [← mR]; simp only [Array.size_append,List.size_toArray,size_zeroCells,List.length_take,hLl]; show min _ _+_*5+_*5=_; omega
 have h0t:gq.toList.take (k*5)=L.take (k*5):=by
  rw [← mR,Array.toList_append,Array.toList_append,List.append_assoc,List.take_append_of_le_length (by rw [List.length_take]; omega),List.take_of_length_le (by rw [List.length_take]; omega)]
 obtain⟨W1,hW1⟩:∃ W1,w.drew.alloc (.cells gq 34)=W1:=⟨_,rfl⟩
 have tH:Below w.heap.size w W1:=by rw [← hW1]; exact (Below.refl w.heap.size w).drew.alloc (Nat.le_refl _) _
 have hR1:cS W1 base 34 5 w.heap.size C gq:=by rw [← hW1]; exact⟨hbase,heap_alloc_new w.drew _,hCm,hs0⟩
 have hg1:cS W1 base 34 5 g n cur:=⟨hR.ge,(tH.block g (Array.getElem?_eq_some_iff.1 hR.blk).1).trans hR.blk,hR.cap_,hR.size⟩
 have hv1:Blk W1 vb 34 (aJ x).toArray:=hv.below tH hv.lt
 have hgl:g<w.heap.size:=(Array.getElem?_eq_some_iff.1 hR.blk).1
 rw [hW1] at happ
 obtain⟨aW,cX⟩:∃ aW,(gq.toList.take (k*5) ++ aJ x ++ gq.toList.drop (k*5+(aJ x).length)).toArray=aW:=⟨_,rfl⟩
 have hcp1:∀ ty dc,(Builtin.copy_ #[22,22] ty #[.slice (some ⟨w.heap.size,k*5,none⟩) (n+1 - k) dc,.slice (some ⟨vb,0,none⟩) 1 1]).run Tryz.prog W1 = .ok (.int .i64 ((1:Nat):Int)) (W1.setRow w.heap.size aW):=fun ty dc=>by
  have h:=cQ (P:=Tryz.prog) W1 22 22 ty 34 5 w.heap.size (k*5) (n+1 - k) dc ⟨vb,0,none⟩ 1 1 gq 34 (aJ x) Tryz.underlying22 hinfo hR1.blk (by rw [aP]; show _=min _ _*_; rw [Nat.min_eq_left (by omega)])
   (fun j v hj=>by
    have ea:(⟨vb,0,none⟩:Addr).add j=⟨vb,j,none⟩:=by unfold Addr.add; split <;> simp_all
    rw [ea,hv1.cell j,List.getElem?_toArray]; exact hj) (by rw [aP,hs0]; omega) (fun v hv'=>iO x v hv')
  rw [h,cX]
  congr 2
  congr 1
  show min _ _=_
  omega
 have hs1:aW.size=C*5:=by rw [← cX]; simp only [List.size_toArray,List.length_append,List.length_take,List.length_drop,Array.length_toList,hs0,aP]; omega
 have hR2:=hR1.set aW hs1
 have hg2:cS (W1.setRow w.heap.size aW) base 34 5 g n cur:=⟨hg1.ge,(setRow_other W1 w.heap.size g aW (by omega)).trans hg1.blk,hg1.cap_,hg1.size⟩
 obtain⟨W2,hW2⟩:∃ W2,W1.setRow w.heap.size aW=W2:=⟨_,rfl⟩
 have B1:Below w.heap.size w W2:=by rw [← hW2]; exact tH.trans ⟨rfl,rfl,rfl,by simp [World.setRow],fun q hq=>setRow_other W1 w.heap.size q aW (by omega)⟩
 rw [hW2] at hcp1 hR2 hg2
 obtain⟨D1,hD1⟩:∃ D1,L.drop (k*5)=D1:=⟨_,rfl⟩
 have lD1:D1.length=(n - k)*5:=by rw [← hD1,List.length_drop,hLl]; omega
 obtain⟨aX,bP⟩:∃ aX,(aW.toList.take ((k+1)*5) ++ D1 ++ aW.toList.drop ((k+1)*5+D1.length)).toArray=aX:=⟨_,rfl⟩
 have hcp2:∀ ty dc sc,(Builtin.copy_ #[22,22] ty #[.slice (some ⟨w.heap.size,(k+1)*5,none⟩) (n - k) dc,.slice (some ⟨g,k*5,none⟩) (n - k) sc]).run Tryz.prog W2.drew = .ok (.int .i64 ((n - k:Nat):Int)) (W2.drew.setRow w.heap.size aX):=fun ty dc sc=>by
  have h:=cQ (P:=Tryz.prog) W2.drew 22 22 ty 34 5 w.heap.size ((k+1)*5) (n - k) dc ⟨g,k*5,none⟩ (n - k) sc aW 34 D1 Tryz.underlying22 hinfo hR2.blk (by rw [lD1]; congr 1; show _=min _ _; omega)
   (fun j v hj=>hg2.cells (k*5) j v (by rw [hL,hD1]; exact hj)) (by rw [lD1,hs1]; omega) (fun v hv'=>one v (by rw [← hLr]; rw [← hD1] at hv'; exact List.mem_of_mem_drop hv'))
  rw [h,bP]
  congr 2
  congr 1
  show min _ _=_
  omega
 have hs2:aX.size=C*5:=by rw [← bP]; simp only [List.size_toArray,List.length_append,List.length_take,List.length_drop,Array.length_toList,hs1,lD1]; omega
 have hR3:cS (W2.drew.setRow w.heap.size aX) base 34 5 w.heap.size C aX:=cS.set (w:=W2.drew) ⟨hR2.ge,hR2.blk,hR2.cap_,hR2.size⟩ aX hs2
 have hfin:=hR3.own (n:=n+1) hCn (xs:=au aJ (l.take k ++ x :: l.drop k)) (by
  have h:=uB (L:=gq.toList) (X:=aJ x) (D:=D1) (a:=k*5) (s:=5) (by have e:gq.toList.length=gq.size:=Array.length_toList; omega) (aP x)
  rw [h0t] at h
  rw [bS,show au aJ (x :: l.drop k)=aJ x ++ au aJ (l.drop k) from rfl,← cN aP,← dX aP,← List.append_assoc,← hLr,hD1,← h,← bP,← cX]
  simp only [lD1,aP,h0t]
  rw [show (k+1)*5=k*5+5 by omega,show (n+1)*5=k*5+5+(n - k)*5 by omega])
 have hgr:cE w (W2.drew.setRow w.heap.size aX) (.slice (some ⟨g,0,none⟩) n n) (.slice (some ⟨w.heap.size,0,none⟩) (n+1) C):=by
  have hb3:Below w.heap.size w (W2.drew.setRow w.heap.size aX):=B1.trans ⟨rfl,rfl,rfl,by simp [World.setRow],fun q hq=>setRow_other W2.drew w.heap.size q aX (by omega)⟩
  exact⟨⟨hb3.os,hb3.tape,hb3.output,hb3.size,fun q hq _=>hb3.block q hq⟩,.inr ⟨w.heap.size,rfl,Nat.le_refl _⟩⟩
 have aS:=hid (show bf aJ base 34 5 (some ⟨g,0,none⟩) n n (l.take k ++ x :: l.drop k) w (.returned (.slice (some ⟨w.heap.size,0,none⟩) (n+1) C)) (W2.drew.setRow w.heap.size aX) from ⟨_,n+1,C,rfl,by rw [List.length_append,List.length_cons,List.length_take,List.length_drop]; omega,hfin,hgr⟩)
 have II:=hid happ
 have IJ:=hid hcp1
 have hC1:¬ C=k:=by omega
 have hC2:¬ C=k+1:=by omega
 clear hl hR htk hv ho hinfo hL hLl hLr one hold hC hCm mR happ hs0 h0t hW1 tH hR1 hg1 hv1 cX hcp1 hs1 hR2 hg2 hW2 B1 hD1 lD1 bP hs2 hR3 hfin hgr hi0 hz0 hz1 hzb
 go_enter Tryz.func237,Tryz.ntmps237
 go_wp2_with (first | (at_builtin; refine Lib.wpList_append_run _ rfl _ _ 22 3 rfl _ _ rfl rfl _ _ (II.out _) ?_) | (refine eS _ rfl _ _ 22 22 rfl _ _ rfl rfl (IJ.out _ _) ?_))
 go_region_law (refine fY rfl _ _ 22 22 rfl _ _ (by simp [Act.eval,Act.put]) (by simp [Act.eval,Act.put]) (hcp2 _ _ _) ?_)
 go_wp2
 go_ret
 exact aS.out
theorem JS (base:Nat) (A:Option Addr) (n c vb k:Nat) (l:List aA) (x:aA) (w:World) (ho:w.ownsRow base 34 5 (.slice A n c) n (au aJ l)) (hl:l.length=n) (hn:n≤1000) (hk:k≤n) (hv:Blk w vb 34 (aJ x).toArray) (hvg:∀ q,(Value.slice A n c).ownBlock=some q→vb≠q) (hbase:base≤w.heap.size) :
 Calls Tryz.prog 237 #[.slice A n c,.int .i64 k,.slice (some ⟨vb,0,none⟩) 1 1] w (bf aJ base 34 5 A n c (l.take k ++ x :: l.drop k) w):=by
 by_cases hkn:k=n
 · subst hkn
   rw [List.take_of_length_le (by omega),List.drop_eq_nil_of_le (by omega)]
   exact IE base A k c vb l x w ho hl hn (fun j u hu=>by rw [Nat.zero_add,hv.cell j,List.getElem?_toArray]; exact hu) hbase
 · obtain⟨g,cap,hA,hcap⟩:=ho.form (by omega)
   injection hA with hA _ hc
   subst hA; subst hc
   by_cases hroom:n+1≤c
   · exact IF base g n c vb k l x w ho hl hn (by omega) hroom hv (hvg g rfl) hbase
   · obtain rfl:c=n:=by obtain⟨_,_,h,_⟩:=cS.of ho; omega
     exact IG base g c vb k l x w ho hl hn (by omega) hv hbase
theorem nF:(Tryz.prog.info? 36).map (fun i=>(i.zero,i.size,i.bytes))=some (some (.agg #[.string ⟨#[]⟩,.int .i64 0,.string ⟨#[]⟩]),3,40):=by kernel_rfl
theorem gE (a:av) (u:Value) (h:u ∈ aB a):u.oneCell'=true:=by
 simp only [aB,List.mem_cons,List.not_mem_nil,or_false] at h
 rcases h with rfl | rfl | rfl <;> rfl
theorem FH (base:Nat) (A:Option Addr) (n c vb:Nat) (l:List av) (x:av) (w:World) (ho:w.ownsRow base 36 3 (.slice A n c) n (au aB l)) (hl:l.length=n) (hn:n≤1000) (hv:fW w vb 0 (aB x)) (hbase:base≤w.heap.size) :
 Calls Tryz.prog 239 #[.slice A n c,.int .i64 n,.slice (some ⟨vb,0,none⟩) 1 1] w (bf aB base 36 3 A n c (l ++ [x]) w):=by
 have Ho:=hid ho
 have Hv:=hid hv
 have Hl:=hid (show n+1=(l ++ [x]).length by simp [hl])
 clear ho hv hl
 by_cases hcn:c=n
 · subst hcn
   go_enter Tryz.func239,Tryz.ntmps239
   go_wp2_with (at_builtin; refine lR aB rfl _ _ 23 36 (.agg #[.string ⟨#[]⟩,.int .i64 0,.string ⟨#[]⟩]) 3 40 rfl Tryz.underlying23 nF rfl (by decide) aL gE base A c c l rfl Ho.out x vb 1 Hv.out rfl (by omega) (by unfold maxLen; omega) hbase ?_; intro A' c' w' ho' hg')
   go_ret
   exact⟨A',c+1,c',rfl,Hl.out,ho',hg'⟩
 · go_enter Tryz.func239,Tryz.ntmps239
   go_wp2_with (at_builtin; refine lR aB rfl _ _ 23 36 (.agg #[.string ⟨#[]⟩,.int .i64 0,.string ⟨#[]⟩]) 3 40 rfl Tryz.underlying23 nF rfl (by decide) aL gE base A n c l rfl Ho.out x vb 1 Hv.out rfl (by omega) (by unfold maxLen; omega) hbase ?_; intro A' c' w' ho' hg')
   go_ret
   exact⟨A',n+1,c',rfl,Hl.out,ho',hg'⟩
theorem FI (base g n c vb k:Nat) (l:List av) (x:av) (w:World) (ho:w.ownsRow base 36 3 (.slice (some ⟨g,0,none⟩) n c) n (au aB l)) (hl:l.length=n) (hn:n≤1000) (hk:k<n) (hroom:n+1≤c) (hv:Blk w vb 36 (aB x).toArray) (hvg:vb≠g) (hbase:base≤w.heap.size) :
 Calls Tryz.prog 239 #[.slice (some ⟨g,0,none⟩) n c,.int .i64 k,.slice (some ⟨vb,0,none⟩) 1 1] w (bf aB base 36 3 (some ⟨g,0,none⟩) n c (l.take k ++ x :: l.drop k) w):=by
 obtain⟨cur,hR,hnc,htk⟩:=cS.of ho
 have hc63:=hR.cap_
 unfold maxLen at hc63
 have Hl:=hid hl
 have HR:=hid hR
 have Htk:=hid htk
 have Hv:=hid hv
 have hb2:¬ (c=k+1):=by omega
 have hb4:¬ (c=k):=by omega
 have hz2:¬ ((k:Int)=(n:Int)):=by omega
 have hw1:IntKind.i64.wrap ((k:Int)+1)=(k:Int)+1:=by rw [IntKind.wrap_i64]; omega
 have hb1:(0:Int)≤(k:Int)+1:=by omega
 have htn:((k:Int)+1).toNat=k+1:=by omega
 have hb3:(k:Int)≤(n:Int)+1:=by omega
 have hb5:(k:Int)+1≤(n:Int)+1:=by omega
 have hinfo:(Tryz.prog.info? 36).map (·.size)=some 3:=by
  obtain⟨i0,hi,hz0,hz1,hz2⟩:=info_parts nF
  rw [hi]; simp [hz1]
 have hsa:w.shape? vb=some (36,3):=by unfold World.shape?; rw [show w.heap[vb]? = some (.cells (aB x).toArray 36 (0,0)) from hv]; rfl
 have hsb:w.shape? g=some (36,cur.size):=by unfold World.shape?; rw [hR.blk]
 have hov:∀ lb cb,(callFunc 341 #[.slice (some ⟨vb,0,none⟩) 1 1,.slice (some ⟨g,(k+1)*3,none⟩) lb cb]).run Tryz.prog w = .ok (.value (.bool false)) w:=fun lb cb=>by
  rw [run_callFunc_extern Tryz.func341 (by kernel_rfl) (by kernel_rfl) (by kernel_rfl) (e:=Extern.SlicesOverlaps.overlaps #[23,23] #[4]) (by kernel_rfl),
   Lib.run_overlaps_apart w 23 4 36 Tryz.underlying23 3 Tryz.sizeOf36 ⟨vb,0,none⟩ ⟨g,(k+1)*3,none⟩ 1 1 lb cb hvg 36 36 3 cur.size hsa hsb (by rw [hR.size]; omega) (hv.thaw 0) (hv.thaw 3)]
  rfl
 obtain⟨L,hL⟩:∃ L,cur.toList=L:=⟨_,rfl⟩
 have hLl:L.length=c*3:=by rw [← hL,Array.length_toList,hR.size]
 obtain⟨C1,hC1⟩:∃ C1,(L.drop (k*3)).take (n*3 - k*3)=C1:=⟨_,rfl⟩
 have lC1:C1.length=(n - k)*3:=by rw [← hC1,List.length_take,List.length_drop,hLl]; omega
 have m1C:∀ v ∈ C1,v ∈ au aB l:=fun v hv'=>by
  rw [← hC1,← List.drop_take,← hL,htk] at hv'
  exact List.mem_of_mem_drop hv'
 have one:∀ v ∈ au aB l,v.oneCell'=true:=fun v hv'=>by
  obtain⟨a,_,ha⟩:=List.mem_flatMap.1 hv'
  exact gE a v ha
 have hcp1:∀ ty dc sc,(Builtin.copy_ #[23,23] ty #[.slice (some ⟨g,(k+1)*3,none⟩) (n - k) dc,.slice (some ⟨g,k*3,none⟩) (n+1 - k) sc]).run Tryz.prog w.drew = .ok (.int .i64 ((n - k:Nat):Int)) (w.drew.setRow g (cur.toList.take ((k+1)*3) ++ C1 ++ cur.toList.drop ((k+1)*3+C1.length)).toArray):=fun ty dc sc=>by
  have h:=cQ (P:=Tryz.prog) w.drew 23 23 ty 36 3 g ((k+1)*3) (n - k) dc ⟨g,k*3,none⟩ (n+1 - k) sc cur 36 C1 Tryz.underlying23 hinfo hR.blk (by rw [lC1]; congr 1; show _=min _ _; omega)
   (fun j v hj=>(hR.cells (k*3)) j v (by
    rw [hL]
    rw [← hC1,List.getElem?_take] at hj
    split at hj
    · exact hj
    · cases hj)) (by rw [lC1,hR.size]; omega) (fun v hv'=>one v (m1C v hv'))
  rw [h]
  congr 2
  congr 1
  show min _ _=_
  omega
 obtain⟨aW,cX⟩:∃ aW,(cur.toList.take ((k+1)*3) ++ C1 ++ cur.toList.drop ((k+1)*3+C1.length)).toArray=aW:=⟨_,rfl⟩
 rw [cX] at hcp1
 have hs1:aW.size=c*3:=by rw [← cX]; simp only [List.size_toArray,List.length_append,List.length_take,List.length_drop,hL,hLl,lC1]; omega
 have hR1:cS (w.drew.setRow g aW) base 36 3 g c aW:=cS.set (w:=w.drew) ⟨hR.ge,hR.blk,hR.cap_,hR.size⟩ aW hs1
 have hv1:Blk (w.drew.setRow g aW) vb 36 (aB x).toArray:=(setRow_other w.drew g vb aW hvg).trans hv
 obtain⟨W1,hW1⟩:∃ W1,w.drew.setRow g aW=W1:=⟨_,rfl⟩
 rw [hW1] at hcp1 hR1 hv1
 obtain⟨aX,bP⟩:∃ aX,(aW.toList.take (k*3) ++ aB x ++ aW.toList.drop (k*3+(aB x).length)).toArray=aX:=⟨_,rfl⟩
 have hcp2:∀ ty dc,(Builtin.copy_ #[23,23] ty #[.slice (some ⟨g,k*3,none⟩) (n+1 - k) dc,.slice (some ⟨vb,0,none⟩) 1 1]).run Tryz.prog W1 = .ok (.int .i64 ((1:Nat):Int)) (W1.setRow g aX):=fun ty dc=>by
  have h:=cQ (P:=Tryz.prog) W1 23 23 ty 36 3 g (k*3) (n+1 - k) dc ⟨vb,0,none⟩ 1 1 aW 36 (aB x) Tryz.underlying23 hinfo hR1.blk (by rw [aL]; show _=min _ _*_; rw [Nat.min_eq_left (by omega)])
   (fun j v hj=>by
    have ea:(⟨vb,0,none⟩:Addr).add j=⟨vb,j,none⟩:=by unfold Addr.add; split <;> simp_all
    rw [ea,hv1.cell j,List.getElem?_toArray]; exact hj) (by rw [aL,hs1]; omega) (fun v hv'=>gE x v hv')
  rw [h,bP]
  congr 2
  congr 1
  show min _ _=_
  omega
 have hs2:aX.size=c*3:=by rw [← bP]; simp only [List.size_toArray,List.length_append,List.length_take,List.length_drop,Array.length_toList,hs1,aL]; omega
 have hfin:=(hR1.set aX hs2).own (n:=n+1) (by omega) (xs:=au aB (l.take k ++ x :: l.drop k)) (by
  have h:=rz (L:=L) (R:=au aB l) (X:=aB x) (a:=k*3) (b:=n*3) (s:=3) (Nat.mul_le_mul_right _ (by omega)) (by omega) (aL x) (by rw [← hL]; exact htk)
  rw [bS,show au aB (x :: l.drop k)=aB x ++ au aB (l.drop k) from rfl,← cN aL,← dX aL,← List.append_assoc,← h,← bP,← cX]
  simp only [hL,lC1,aL]
  rw [← hC1,show (k+1)*3=k*3+3 by omega,show (n+1)*3=n*3+3 by omega,show (n - k)*3=n*3 - k*3 by omega])
 have hgr:cE w (W1.setRow g aX) (.slice (some ⟨g,0,none⟩) n c) (.slice (some ⟨g,0,none⟩) (n+1) c):=by
  rw [← hW1]
  exact (show cE w (w.drew.setRow g aW) (.slice (some ⟨g,0,none⟩) n c) (.slice (some ⟨g,0,none⟩) n c) from eK w g n n c c aW).trans (jD _ g n (n+1) c c aX)
 have aS:=hid (show bf aB base 36 3 (some ⟨g,0,none⟩) n c (l.take k ++ x :: l.drop k) w (.returned (.slice (some ⟨g,0,none⟩) (n+1) c)) (W1.setRow g aX) from ⟨_,n+1,c,rfl,by rw [List.length_append,List.length_cons,List.length_take,List.length_drop]; omega,hfin,hgr⟩)
 clear hl hR htk hv hvg ho Hl HR Htk Hv hsa hsb hinfo hL hLl hC1 lC1 m1C one cX hs1 hR1 hv1 hW1 bP hs2 hfin hgr
 go_enter Tryz.func239,Tryz.ntmps239
 go_wp2_with (simp only [hov])
 go_region_law (refine fY rfl _ _ 23 23 rfl _ _ (by simp [Act.eval,Act.put]) (by simp [Act.eval,Act.put]) (hcp1 _ _ _) ?_)
 go_wp2_with (refine eS _ rfl _ _ 23 23 rfl _ _ rfl rfl (hcp2 _ _) ?_)
 go_ret
 exact aS.out
theorem FJ (base g n vb k:Nat) (l:List av) (x:av) (w:World) (ho:w.ownsRow base 36 3 (.slice (some ⟨g,0,none⟩) n n) n (au aB l)) (hl:l.length=n) (hn:n≤1000) (hk:k<n) (hv:Blk w vb 36 (aB x).toArray) (hbase:base≤w.heap.size) :
 Calls Tryz.prog 239 #[.slice (some ⟨g,0,none⟩) n n,.int .i64 k,.slice (some ⟨vb,0,none⟩) 1 1] w (bf aB base 36 3 (some ⟨g,0,none⟩) n n (l.take k ++ x :: l.drop k) w):=by
 obtain⟨cur,hR,hnc,htk⟩:=cS.of ho
 have hz2:¬ ((k:Int)=(n:Int)):=by omega
 have hb4:¬ (n=k):=by omega
 have hw1:IntKind.i64.wrap ((k:Int)+1)=(k:Int)+1:=by rw [IntKind.wrap_i64]; omega
 have hb1:(0:Int)≤(k:Int)+1:=by omega
 have htn:((k:Int)+1).toNat=k+1:=by omega
 have hb5:(k:Int)+1≤(n:Int)+1:=by omega
 have hb3:(k:Int)≤(n:Int):=by omega
 obtain⟨i0,hi0,hz0,hz1,hzb⟩:=info_parts nF
 have hinfo:(Tryz.prog.info? 36).map (·.size)=some 3:=by rw [hi0]; simp [hz1]
 obtain⟨L,hL⟩:∃ L,cur.toList=L:=⟨_,rfl⟩
 have hLl:L.length=n*3:=by rw [← hL,Array.length_toList,hR.size]
 have hLr:L=au aB l:=by rw [← htk,hL,List.take_of_length_le (by omega)]
 have one:∀ v ∈ au aB l,v.oneCell'=true:=fun v hv'=>by
  obtain⟨a,_,ha⟩:=List.mem_flatMap.1 hv'
  exact gE a v ha
 have hold:(Builtin.firstCells i0.size k (.slice (some ⟨g,0,none⟩) k n)).run Tryz.prog w.drew = .ok (L.take (k*3)).toArray w.drew:=by
  refine run_firstCells_some (P:=Tryz.prog) w.drew i0.size k ⟨g,0,none⟩ k n _ (by rw [List.length_take,hz1]; omega) (fun j v hj=>?_)
  have h:=hR.cells 0 j v (by
   rw [List.drop_zero,hL]
   rw [List.getElem?_take] at hj
   split at hj
   · exact hj
   · cases hj)
  exact h
 obtain⟨C,hC⟩:∃ C,grownCap w (n+1) n 36 = C:=⟨_,rfl⟩
 have hCn:n+1≤C:=by rw [← hC]; exact grownCap_ge w _ _ _
 have hCm:C≤maxLen:=by rw [← hC]; exact grownCap_le_maxLen w _ _ _ (by unfold maxLen; omega)
 have IH:=hCm
 unfold maxLen at IH
 obtain⟨gq,mR⟩:∃ gq,(L.take (k*3)).toArray ++ Builtin.zeroCells (Value.cells (.agg #[.string ⟨#[]⟩,.int .i64 0,.string ⟨#[]⟩])) (n+1 - k) ++ Builtin.zeroCells (Value.cells (.agg #[.string ⟨#[]⟩,.int .i64 0,.string ⟨#[]⟩])) (C - (n+1))=gq:=⟨_,rfl⟩
 have happ:∀ ty,(Builtin.append_ #[23,3] ty #[.slice (some ⟨g,0,none⟩) k n,.int .i64 ((n:Int)+1 - (k:Int))]).run Tryz.prog w = .ok (.slice (some ⟨w.heap.size,0,none⟩) (n+1) C) (w.drew.alloc (.cells gq 36)):=fun ty=>by
  have h:=Lib.run_append_grow_zeros w 23 3 ty 36 i0 _ .i64 .i64 Tryz.underlying23 Tryz.underlying3 hi0 hz0 (some ⟨g,0,none⟩) k n (L.take (k*3)) hold (n+1 - k) (by omega) (by omega) (by omega) (by omega) (by rw [hzb]; omega) (by rw [hzb,show k+(n+1 - k)=n+1 by omega]; exact growslice_fits (by omega) (by omega))
  rw [show k+(n+1 - k)=n+1 by omega,hC,mR,show ((n+1 - k:Nat):Int)=(n:Int)+1 - k by omega] at h
  exact h
 have hs0:gq.size=C*3:=by rw [← mR]; simp only [Array.size_append,List.size_toArray,size_zeroCells,List.length_take,hLl]; show min _ _+_*3+_*3=_; omega
 have h0t:gq.toList.take (k*3)=L.take (k*3):=by
  rw [← mR,Array.toList_append,Array.toList_append,List.append_assoc,List.take_append_of_le_length (by rw [List.length_take]; omega),List.take_of_length_le (by rw [List.length_take]; omega)]
 obtain⟨W1,hW1⟩:∃ W1,w.drew.alloc (.cells gq 36)=W1:=⟨_,rfl⟩
 have tH:Below w.heap.size w W1:=by rw [← hW1]; exact (Below.refl w.heap.size w).drew.alloc (Nat.le_refl _) _
 have hR1:cS W1 base 36 3 w.heap.size C gq:=by rw [← hW1]; exact⟨hbase,heap_alloc_new w.drew _,hCm,hs0⟩
 have hg1:cS W1 base 36 3 g n cur:=⟨hR.ge,(tH.block g (Array.getElem?_eq_some_iff.1 hR.blk).1).trans hR.blk,hR.cap_,hR.size⟩
 have hv1:Blk W1 vb 36 (aB x).toArray:=hv.below tH hv.lt
 have hgl:g<w.heap.size:=(Array.getElem?_eq_some_iff.1 hR.blk).1
 rw [hW1] at happ
 obtain⟨aW,cX⟩:∃ aW,(gq.toList.take (k*3) ++ aB x ++ gq.toList.drop (k*3+(aB x).length)).toArray=aW:=⟨_,rfl⟩
 have hcp1:∀ ty dc,(Builtin.copy_ #[23,23] ty #[.slice (some ⟨w.heap.size,k*3,none⟩) (n+1 - k) dc,.slice (some ⟨vb,0,none⟩) 1 1]).run Tryz.prog W1 = .ok (.int .i64 ((1:Nat):Int)) (W1.setRow w.heap.size aW):=fun ty dc=>by
  have h:=cQ (P:=Tryz.prog) W1 23 23 ty 36 3 w.heap.size (k*3) (n+1 - k) dc ⟨vb,0,none⟩ 1 1 gq 36 (aB x) Tryz.underlying23 hinfo hR1.blk (by rw [aL]; show _=min _ _*_; rw [Nat.min_eq_left (by omega)])
   (fun j v hj=>by
    have ea:(⟨vb,0,none⟩:Addr).add j=⟨vb,j,none⟩:=by unfold Addr.add; split <;> simp_all
    rw [ea,hv1.cell j,List.getElem?_toArray]; exact hj) (by rw [aL,hs0]; omega) (fun v hv'=>gE x v hv')
  rw [h,cX]
  congr 2
  congr 1
  show min _ _=_
  omega
 have hs1:aW.size=C*3:=by rw [← cX]; simp only [List.size_toArray,List.length_append,List.length_take,List.length_drop,Array.length_toList,hs0,aL]; omega
 have hR2:=hR1.set aW hs1
 have hg2:cS (W1.setRow w.heap.size aW) base 36 3 g n cur:=⟨hg1.ge,(setRow_other W1 w.heap.size g aW (by omega)).trans hg1.blk,hg1.cap_,hg1.size⟩
 obtain⟨W2,hW2⟩:∃ W2,W1.setRow w.heap.size aW=W2:=⟨_,rfl⟩
 have B1:Below w.heap.size w W2:=by rw [← hW2]; exact tH.trans ⟨rfl,rfl,rfl,by simp [World.setRow],fun q hq=>setRow_other W1 w.heap.size q aW (by omega)⟩
 rw [hW2] at hcp1 hR2 hg2
 obtain⟨D1,hD1⟩:∃ D1,L.drop (k*3)=D1:=⟨_,rfl⟩
 have lD1:D1.length=(n - k)*3:=by rw [← hD1,List.length_drop,hLl]; omega
 obtain⟨aX,bP⟩:∃ aX,(aW.toList.take ((k+1)*3) ++ D1 ++ aW.toList.drop ((k+1)*3+D1.length)).toArray=aX:=⟨_,rfl⟩
 have hcp2:∀ ty dc sc,(Builtin.copy_ #[23,23] ty #[.slice (some ⟨w.heap.size,(k+1)*3,none⟩) (n - k) dc,.slice (some ⟨g,k*3,none⟩) (n - k) sc]).run Tryz.prog W2.drew = .ok (.int .i64 ((n - k:Nat):Int)) (W2.drew.setRow w.heap.size aX):=fun ty dc sc=>by
  have h:=cQ (P:=Tryz.prog) W2.drew 23 23 ty 36 3 w.heap.size ((k+1)*3) (n - k) dc ⟨g,k*3,none⟩ (n - k) sc aW 36 D1 Tryz.underlying23 hinfo hR2.blk (by rw [lD1]; congr 1; show _=min _ _; omega)
   (fun j v hj=>hg2.cells (k*3) j v (by rw [hL,hD1]; exact hj)) (by rw [lD1,hs1]; omega) (fun v hv'=>one v (by rw [← hLr]; rw [← hD1] at hv'; exact List.mem_of_mem_drop hv'))
  rw [h,bP]
  congr 2
  congr 1
  show min _ _=_
  omega
 have hs2:aX.size=C*3:=by rw [← bP]; simp only [List.size_toArray,List.length_append,List.length_take,List.length_drop,Array.length_toList,hs1,lD1]; omega
 have hR3:cS (W2.drew.setRow w.heap.size aX) base 36 3 w.heap.size C aX:=cS.set (w:=W2.drew) ⟨hR2.ge,hR2.blk,hR2.cap_,hR2.size⟩ aX hs2
 have hfin:=hR3.own (n:=n+1) hCn (xs:=au aB (l.take k ++ x :: l.drop k)) (by
  have h:=uB (L:=gq.toList) (X:=aB x) (D:=D1) (a:=k*3) (s:=3) (by have e:gq.toList.length=gq.size:=Array.length_toList; omega) (aL x)
  rw [h0t] at h
  rw [bS,show au aB (x :: l.drop k)=aB x ++ au aB (l.drop k) from rfl,← cN aL,← dX aL,← List.append_assoc,← hLr,hD1,← h,← bP,← cX]
  simp only [lD1,aL,h0t]
  rw [show (k+1)*3=k*3+3 by omega,show (n+1)*3=k*3+3+(n - k)*3 by omega])
 have hgr:cE w (W2.drew.setRow w.heap.size aX) (.slice (some ⟨g,0,none⟩) n n) (.slice (some ⟨w.heap.size,0,none⟩) (n+1) C):=by
  have hb3:Below w.heap.size w (W2.drew.setRow w.heap.size aX):=B1.trans ⟨rfl,rfl,rfl,by simp [World.setRow],fun q hq=>setRow_other W2.drew w.heap.size q aX (by omega)⟩
  exact⟨⟨hb3.os,hb3.tape,hb3.output,hb3.size,fun q hq _=>hb3.block q hq⟩,.inr ⟨w.heap.size,rfl,Nat.le_refl _⟩⟩
 have aS:=hid (show bf aB base 36 3 (some ⟨g,0,none⟩) n n (l.take k ++ x :: l.drop k) w (.returned (.slice (some ⟨w.heap.size,0,none⟩) (n+1) C)) (W2.drew.setRow w.heap.size aX) from ⟨_,n+1,C,rfl,by rw [List.length_append,List.length_cons,List.length_take,List.length_drop]; omega,hfin,hgr⟩)
 have II:=hid happ
 have IJ:=hid hcp1
 have hC1:¬ C=k:=by omega
 have hC2:¬ C=k+1:=by omega
 clear hl hR htk hv ho hinfo hL hLl hLr one hold hC hCm mR happ hs0 h0t hW1 tH hR1 hg1 hv1 cX hcp1 hs1 hR2 hg2 hW2 B1 hD1 lD1 bP hs2 hR3 hfin hgr hi0 hz0 hz1 hzb
 go_enter Tryz.func239,Tryz.ntmps239
 go_wp2_with (first | (at_builtin; refine Lib.wpList_append_run _ rfl _ _ 23 3 rfl _ _ rfl rfl _ _ (II.out _) ?_) | (refine eS _ rfl _ _ 23 23 rfl _ _ rfl rfl (IJ.out _ _) ?_))
 go_region_law (refine fY rfl _ _ 23 23 rfl _ _ (by simp [Act.eval,Act.put]) (by simp [Act.eval,Act.put]) (hcp2 _ _ _) ?_)
 go_wp2
 go_ret
 exact aS.out
theorem G7 (base:Nat) (A:Option Addr) (n c vb k:Nat) (l:List av) (x:av) (w:World) (ho:w.ownsRow base 36 3 (.slice A n c) n (au aB l)) (hl:l.length=n) (hn:n≤1000) (hk:k≤n) (hv:Blk w vb 36 (aB x).toArray) (hvg:∀ q,(Value.slice A n c).ownBlock=some q→vb≠q) (hbase:base≤w.heap.size) :
 Calls Tryz.prog 239 #[.slice A n c,.int .i64 k,.slice (some ⟨vb,0,none⟩) 1 1] w (bf aB base 36 3 A n c (l.take k ++ x :: l.drop k) w):=by
 by_cases hkn:k=n
 · subst hkn
   rw [List.take_of_length_le (by omega),List.drop_eq_nil_of_le (by omega)]
   exact FH base A k c vb l x w ho hl hn (fun j u hu=>by rw [Nat.zero_add,hv.cell j,List.getElem?_toArray]; exact hu) hbase
 · obtain⟨g,cap,hA,hcap⟩:=ho.form (by omega)
   injection hA with hA _ hc
   subst hA; subst hc
   by_cases hroom:n+1≤c
   · exact FI base g n c vb k l x w ho hl hn (by omega) hroom hv (hvg g rfl) hbase
   · obtain rfl:c=n:=by obtain⟨_,_,h,_⟩:=cS.of ho; omega
     exact FJ base g c vb k l x w ho hl hn (by omega) hv hbase
theorem mg:(Tryz.prog.info? 38).map (fun i=>(i.zero,i.size,i.bytes))=some (some (.agg #[.string ⟨#[]⟩,.string ⟨#[]⟩,.int .i64 0]),3,40):=by kernel_rfl
theorem eP (a:ah) (u:Value) (h:u ∈ ay a):u.oneCell'=true:=by
 simp only [ay,List.mem_cons,List.not_mem_nil,or_false] at h
 rcases h with rfl | rfl | rfl <;> rfl
theorem Du (base:Nat) (A:Option Addr) (n c vb:Nat) (l:List ah) (x:ah) (w:World) (ho:w.ownsRow base 38 3 (.slice A n c) n (au ay l)) (hl:l.length=n) (hn:n≤1000) (hv:fW w vb 0 (ay x)) (hbase:base≤w.heap.size) :
 Calls Tryz.prog 346 #[.slice A n c,.int .i64 n,.slice (some ⟨vb,0,none⟩) 1 1] w (bf ay base 38 3 A n c (l ++ [x]) w):=by
 have Ho:=hid ho
 have Hv:=hid hv
 have Hl:=hid (show n+1=(l ++ [x]).length by simp [hl])
 clear ho hv hl
 by_cases hcn:c=n
 · subst hcn
   go_enter Tryz.func346,Tryz.ntmps346
   go_wp2_with (at_builtin; refine lR ay rfl _ _ 24 38 (.agg #[.string ⟨#[]⟩,.string ⟨#[]⟩,.int .i64 0]) 3 40 rfl Tryz.underlying24 mg rfl (by decide) aH eP base A c c l rfl Ho.out x vb 1 Hv.out rfl (by omega) (by unfold maxLen; omega) hbase ?_; intro A' c' w' ho' hg')
   go_ret
   exact⟨A',c+1,c',rfl,Hl.out,ho',hg'⟩
 · go_enter Tryz.func346,Tryz.ntmps346
   go_wp2_with (at_builtin; refine lR ay rfl _ _ 24 38 (.agg #[.string ⟨#[]⟩,.string ⟨#[]⟩,.int .i64 0]) 3 40 rfl Tryz.underlying24 mg rfl (by decide) aH eP base A n c l rfl Ho.out x vb 1 Hv.out rfl (by omega) (by unfold maxLen; omega) hbase ?_; intro A' c' w' ho' hg')
   go_ret
   exact⟨A',n+1,c',rfl,Hl.out,ho',hg'⟩
theorem Dv (base g n c vb k:Nat) (l:List ah) (x:ah) (w:World) (ho:w.ownsRow base 38 3 (.slice (some ⟨g,0,none⟩) n c) n (au ay l)) (hl:l.length=n) (hn:n≤1000) (hk:k<n) (hroom:n+1≤c) (hv:Blk w vb 38 (ay x).toArray) (hvg:vb≠g) (hbase:base≤w.heap.size) :
 Calls Tryz.prog 346 #[.slice (some ⟨g,0,none⟩) n c,.int .i64 k,.slice (some ⟨vb,0,none⟩) 1 1] w (bf ay base 38 3 (some ⟨g,0,none⟩) n c (l.take k ++ x :: l.drop k) w):=by
 obtain⟨cur,hR,hnc,htk⟩:=cS.of ho
 have hc63:=hR.cap_
 unfold maxLen at hc63
 have Hl:=hid hl
 have HR:=hid hR
 have Htk:=hid htk
 have Hv:=hid hv
 have hb2:¬ (c=k+1):=by omega
 have hb4:¬ (c=k):=by omega
 have hz2:¬ ((k:Int)=(n:Int)):=by omega
 have hw1:IntKind.i64.wrap ((k:Int)+1)=(k:Int)+1:=by rw [IntKind.wrap_i64]; omega
 have hb1:(0:Int)≤(k:Int)+1:=by omega
 have htn:((k:Int)+1).toNat=k+1:=by omega
 have hb3:(k:Int)≤(n:Int)+1:=by omega
 have hb5:(k:Int)+1≤(n:Int)+1:=by omega
 have hinfo:(Tryz.prog.info? 38).map (·.size)=some 3:=by
  obtain⟨i0,hi,hz0,hz1,hz2⟩:=info_parts mg
  rw [hi]; simp [hz1]
 have hsa:w.shape? vb=some (38,3):=by unfold World.shape?; rw [show w.heap[vb]? = some (.cells (ay x).toArray 38 (0,0)) from hv]; rfl
 have hsb:w.shape? g=some (38,cur.size):=by unfold World.shape?; rw [hR.blk]
 have hov:∀ lb cb,(callFunc 381 #[.slice (some ⟨vb,0,none⟩) 1 1,.slice (some ⟨g,(k+1)*3,none⟩) lb cb]).run Tryz.prog w = .ok (.value (.bool false)) w:=fun lb cb=>by
  rw [run_callFunc_extern Tryz.func381 (by kernel_rfl) (by kernel_rfl) (by kernel_rfl) (e:=Extern.SlicesOverlaps.overlaps #[24,24] #[4]) (by kernel_rfl),
   Lib.run_overlaps_apart w 24 4 38 Tryz.underlying24 3 Tryz.sizeOf38 ⟨vb,0,none⟩ ⟨g,(k+1)*3,none⟩ 1 1 lb cb hvg 38 38 3 cur.size hsa hsb (by rw [hR.size]; omega) (hv.thaw 0) (hv.thaw 3)]
  rfl
 obtain⟨L,hL⟩:∃ L,cur.toList=L:=⟨_,rfl⟩
 have hLl:L.length=c*3:=by rw [← hL,Array.length_toList,hR.size]
 obtain⟨C1,hC1⟩:∃ C1,(L.drop (k*3)).take (n*3 - k*3)=C1:=⟨_,rfl⟩
 have lC1:C1.length=(n - k)*3:=by rw [← hC1,List.length_take,List.length_drop,hLl]; omega
 have m1C:∀ v ∈ C1,v ∈ au ay l:=fun v hv'=>by
  rw [← hC1,← List.drop_take,← hL,htk] at hv'
  exact List.mem_of_mem_drop hv'
 have one:∀ v ∈ au ay l,v.oneCell'=true:=fun v hv'=>by
  obtain⟨a,_,ha⟩:=List.mem_flatMap.1 hv'
  exact eP a v ha
 have hcp1:∀ ty dc sc,(Builtin.copy_ #[24,24] ty #[.slice (some ⟨g,(k+1)*3,none⟩) (n - k) dc,.slice (some ⟨g,k*3,none⟩) (n+1 - k) sc]).run Tryz.prog w.drew = .ok (.int .i64 ((n - k:Nat):Int)) (w.drew.setRow g (cur.toList.take ((k+1)*3) ++ C1 ++ cur.toList.drop ((k+1)*3+C1.length)).toArray):=fun ty dc sc=>by
  have h:=cQ (P:=Tryz.prog) w.drew 24 24 ty 38 3 g ((k+1)*3) (n - k) dc ⟨g,k*3,none⟩ (n+1 - k) sc cur 38 C1 Tryz.underlying24 hinfo hR.blk (by rw [lC1]; congr 1; show _=min _ _; omega)
   (fun j v hj=>(hR.cells (k*3)) j v (by
    rw [hL]
    rw [← hC1,List.getElem?_take] at hj
    split at hj
    · exact hj
    · cases hj)) (by rw [lC1,hR.size]; omega) (fun v hv'=>one v (m1C v hv'))
  rw [h]
  congr 2
  congr 1
  show min _ _=_
  omega
 obtain⟨aW,cX⟩:∃ aW,(cur.toList.take ((k+1)*3) ++ C1 ++ cur.toList.drop ((k+1)*3+C1.length)).toArray=aW:=⟨_,rfl⟩
 rw [cX] at hcp1
 have hs1:aW.size=c*3:=by rw [← cX]; simp only [List.size_toArray,List.length_append,List.length_take,List.length_drop,hL,hLl,lC1]; omega
 have hR1:cS (w.drew.setRow g aW) base 38 3 g c aW:=cS.set (w:=w.drew) ⟨hR.ge,hR.blk,hR.cap_,hR.size⟩ aW hs1
 have hv1:Blk (w.drew.setRow g aW) vb 38 (ay x).toArray:=(setRow_other w.drew g vb aW hvg).trans hv
 obtain⟨W1,hW1⟩:∃ W1,w.drew.setRow g aW=W1:=⟨_,rfl⟩
 rw [hW1] at hcp1 hR1 hv1
 obtain⟨aX,bP⟩:∃ aX,(aW.toList.take (k*3) ++ ay x ++ aW.toList.drop (k*3+(ay x).length)).toArray=aX:=⟨_,rfl⟩
 have hcp2:∀ ty dc,(Builtin.copy_ #[24,24] ty #[.slice (some ⟨g,k*3,none⟩) (n+1 - k) dc,.slice (some ⟨vb,0,none⟩) 1 1]).run Tryz.prog W1 = .ok (.int .i64 ((1:Nat):Int)) (W1.setRow g aX):=fun ty dc=>by
  have h:=cQ (P:=Tryz.prog) W1 24 24 ty 38 3 g (k*3) (n+1 - k) dc ⟨vb,0,none⟩ 1 1 aW 38 (ay x) Tryz.underlying24 hinfo hR1.blk (by rw [aH]; show _=min _ _*_; rw [Nat.min_eq_left (by omega)])
   (fun j v hj=>by
    have ea:(⟨vb,0,none⟩:Addr).add j=⟨vb,j,none⟩:=by unfold Addr.add; split <;> simp_all
    rw [ea,hv1.cell j,List.getElem?_toArray]; exact hj) (by rw [aH,hs1]; omega) (fun v hv'=>eP x v hv')
  rw [h,bP]
  congr 2
  congr 1
  show min _ _=_
  omega
 have hs2:aX.size=c*3:=by rw [← bP]; simp only [List.size_toArray,List.length_append,List.length_take,List.length_drop,Array.length_toList,hs1,aH]; omega
 have hfin:=(hR1.set aX hs2).own (n:=n+1) (by omega) (xs:=au ay (l.take k ++ x :: l.drop k)) (by
  have h:=rz (L:=L) (R:=au ay l) (X:=ay x) (a:=k*3) (b:=n*3) (s:=3) (Nat.mul_le_mul_right _ (by omega)) (by omega) (aH x) (by rw [← hL]; exact htk)
  rw [bS,show au ay (x :: l.drop k)=ay x ++ au ay (l.drop k) from rfl,← cN aH,← dX aH,← List.append_assoc,← h,← bP,← cX]
  simp only [hL,lC1,aH]
  rw [← hC1,show (k+1)*3=k*3+3 by omega,show (n+1)*3=n*3+3 by omega,show (n - k)*3=n*3 - k*3 by omega])
 have hgr:cE w (W1.setRow g aX) (.slice (some ⟨g,0,none⟩) n c) (.slice (some ⟨g,0,none⟩) (n+1) c):=by
  rw [← hW1]
  exact (show cE w (w.drew.setRow g aW) (.slice (some ⟨g,0,none⟩) n c) (.slice (some ⟨g,0,none⟩) n c) from eK w g n n c c aW).trans (jD _ g n (n+1) c c aX)
 have aS:=hid (show bf ay base 38 3 (some ⟨g,0,none⟩) n c (l.take k ++ x :: l.drop k) w (.returned (.slice (some ⟨g,0,none⟩) (n+1) c)) (W1.setRow g aX) from ⟨_,n+1,c,rfl,by rw [List.length_append,List.length_cons,List.length_take,List.length_drop]; omega,hfin,hgr⟩)
 clear hl hR htk hv hvg ho Hl HR Htk Hv hsa hsb hinfo hL hLl hC1 lC1 m1C one cX hs1 hR1 hv1 hW1 bP hs2 hfin hgr
 go_enter Tryz.func346,Tryz.ntmps346
 go_wp2_with (simp only [hov])
 go_region_law (refine fY rfl _ _ 24 24 rfl _ _ (by simp [Act.eval,Act.put]) (by simp [Act.eval,Act.put]) (hcp1 _ _ _) ?_)
 go_wp2_with (refine eS _ rfl _ _ 24 24 rfl _ _ rfl rfl (hcp2 _ _) ?_)
 go_ret
 exact aS.out
theorem Dw (base g n vb k:Nat) (l:List ah) (x:ah) (w:World) (ho:w.ownsRow base 38 3 (.slice (some ⟨g,0,none⟩) n n) n (au ay l)) (hl:l.length=n) (hn:n≤1000) (hk:k<n) (hv:Blk w vb 38 (ay x).toArray) (hbase:base≤w.heap.size) :
 Calls Tryz.prog 346 #[.slice (some ⟨g,0,none⟩) n n,.int .i64 k,.slice (some ⟨vb,0,none⟩) 1 1] w (bf ay base 38 3 (some ⟨g,0,none⟩) n n (l.take k ++ x :: l.drop k) w):=by
 obtain⟨cur,hR,hnc,htk⟩:=cS.of ho
 have hz2:¬ ((k:Int)=(n:Int)):=by omega
 have hb4:¬ (n=k):=by omega
 have hw1:IntKind.i64.wrap ((k:Int)+1)=(k:Int)+1:=by rw [IntKind.wrap_i64]; omega
 have hb1:(0:Int)≤(k:Int)+1:=by omega
 have htn:((k:Int)+1).toNat=k+1:=by omega
 have hb5:(k:Int)+1≤(n:Int)+1:=by omega
 have hb3:(k:Int)≤(n:Int):=by omega
 obtain⟨i0,hi0,hz0,hz1,hzb⟩:=info_parts mg
 have hinfo:(Tryz.prog.info? 38).map (·.size)=some 3:=by rw [hi0]; simp [hz1]
 obtain⟨L,hL⟩:∃ L,cur.toList=L:=⟨_,rfl⟩
 have hLl:L.length=n*3:=by rw [← hL,Array.length_toList,hR.size]
 have hLr:L=au ay l:=by rw [← htk,hL,List.take_of_length_le (by omega)]
 have one:∀ v ∈ au ay l,v.oneCell'=true:=fun v hv'=>by
  obtain⟨a,_,ha⟩:=List.mem_flatMap.1 hv'
  exact eP a v ha
 have hold:(Builtin.firstCells i0.size k (.slice (some ⟨g,0,none⟩) k n)).run Tryz.prog w.drew = .ok (L.take (k*3)).toArray w.drew:=by
  refine run_firstCells_some (P:=Tryz.prog) w.drew i0.size k ⟨g,0,none⟩ k n _ (by rw [List.length_take,hz1]; omega) (fun j v hj=>?_)
  have h:=hR.cells 0 j v (by
   rw [List.drop_zero,hL]
   rw [List.getElem?_take] at hj
   split at hj
   · exact hj
   · cases hj)
  exact h
 obtain⟨C,hC⟩:∃ C,grownCap w (n+1) n 38 = C:=⟨_,rfl⟩
 have hCn:n+1≤C:=by rw [← hC]; exact grownCap_ge w _ _ _
 have hCm:C≤maxLen:=by rw [← hC]; exact grownCap_le_maxLen w _ _ _ (by unfold maxLen; omega)
 have IH:=hCm
 unfold maxLen at IH
 obtain⟨gq,mR⟩:∃ gq,(L.take (k*3)).toArray ++ Builtin.zeroCells (Value.cells (.agg #[.string ⟨#[]⟩,.string ⟨#[]⟩,.int .i64 0])) (n+1 - k) ++ Builtin.zeroCells (Value.cells (.agg #[.string ⟨#[]⟩,.string ⟨#[]⟩,.int .i64 0])) (C - (n+1))=gq:=⟨_,rfl⟩
 have happ:∀ ty,(Builtin.append_ #[24,3] ty #[.slice (some ⟨g,0,none⟩) k n,.int .i64 ((n:Int)+1 - (k:Int))]).run Tryz.prog w = .ok (.slice (some ⟨w.heap.size,0,none⟩) (n+1) C) (w.drew.alloc (.cells gq 38)):=fun ty=>by
  have h:=Lib.run_append_grow_zeros w 24 3 ty 38 i0 _ .i64 .i64 Tryz.underlying24 Tryz.underlying3 hi0 hz0 (some ⟨g,0,none⟩) k n (L.take (k*3)) hold (n+1 - k) (by omega) (by omega) (by omega) (by omega) (by rw [hzb]; omega) (by rw [hzb,show k+(n+1 - k)=n+1 by omega]; exact growslice_fits (by omega) (by omega))
  rw [show k+(n+1 - k)=n+1 by omega,hC,mR,show ((n+1 - k:Nat):Int)=(n:Int)+1 - k by omega] at h
  exact h
 have hs0:gq.size=C*3:=by rw [← mR]; simp only [Array.size_append,List.size_toArray,size_zeroCells,List.length_take,hLl]; show min _ _+_*3+_*3=_; omega
 have h0t:gq.toList.take (k*3)=L.take (k*3):=by
  rw [← mR,Array.toList_append,Array.toList_append,List.append_assoc,List.take_append_of_le_length (by rw [List.length_take]; omega),List.take_of_length_le (by rw [List.length_take]; omega)]
 obtain⟨W1,hW1⟩:∃ W1,w.drew.alloc (.cells gq 38)=W1:=⟨_,rfl⟩
 have tH:Below w.heap.size w W1:=by rw [← hW1]; exact (Below.refl w.heap.size w).drew.alloc (Nat.le_refl _) _
 have hR1:cS W1 base 38 3 w.heap.size C gq:=by rw [← hW1]; exact⟨hbase,heap_alloc_new w.drew _,hCm,hs0⟩
 have hg1:cS W1 base 38 3 g n cur:=⟨hR.ge,(tH.block g (Array.getElem?_eq_some_iff.1 hR.blk).1).trans hR.blk,hR.cap_,hR.size⟩
 have hv1:Blk W1 vb 38 (ay x).toArray:=hv.below tH hv.lt
 have hgl:g<w.heap.size:=(Array.getElem?_eq_some_iff.1 hR.blk).1
 rw [hW1] at happ
 obtain⟨aW,cX⟩:∃ aW,(gq.toList.take (k*3) ++ ay x ++ gq.toList.drop (k*3+(ay x).length)).toArray=aW:=⟨_,rfl⟩
 have hcp1:∀ ty dc,(Builtin.copy_ #[24,24] ty #[.slice (some ⟨w.heap.size,k*3,none⟩) (n+1 - k) dc,.slice (some ⟨vb,0,none⟩) 1 1]).run Tryz.prog W1 = .ok (.int .i64 ((1:Nat):Int)) (W1.setRow w.heap.size aW):=fun ty dc=>by
  have h:=cQ (P:=Tryz.prog) W1 24 24 ty 38 3 w.heap.size (k*3) (n+1 - k) dc ⟨vb,0,none⟩ 1 1 gq 38 (ay x) Tryz.underlying24 hinfo hR1.blk (by rw [aH]; show _=min _ _*_; rw [Nat.min_eq_left (by omega)])
   (fun j v hj=>by
    have ea:(⟨vb,0,none⟩:Addr).add j=⟨vb,j,none⟩:=by unfold Addr.add; split <;> simp_all
    rw [ea,hv1.cell j,List.getElem?_toArray]; exact hj) (by rw [aH,hs0]; omega) (fun v hv'=>eP x v hv')
  rw [h,cX]
  congr 2
  congr 1
  show min _ _=_
  omega
 have hs1:aW.size=C*3:=by rw [← cX]; simp only [List.size_toArray,List.length_append,List.length_take,List.length_drop,Array.length_toList,hs0,aH]; omega
 have hR2:=hR1.set aW hs1
 have hg2:cS (W1.setRow w.heap.size aW) base 38 3 g n cur:=⟨hg1.ge,(setRow_other W1 w.heap.size g aW (by omega)).trans hg1.blk,hg1.cap_,hg1.size⟩
 obtain⟨W2,hW2⟩:∃ W2,W1.setRow w.heap.size aW=W2:=⟨_,rfl⟩
 have B1:Below w.heap.size w W2:=by rw [← hW2]; exact tH.trans ⟨rfl,rfl,rfl,by simp [World.setRow],fun q hq=>setRow_other W1 w.heap.size q aW (by omega)⟩
 rw [hW2] at hcp1 hR2 hg2
 obtain⟨D1,hD1⟩:∃ D1,L.drop (k*3)=D1:=⟨_,rfl⟩
 have lD1:D1.length=(n - k)*3:=by rw [← hD1,List.length_drop,hLl]; omega
 obtain⟨aX,bP⟩:∃ aX,(aW.toList.take ((k+1)*3) ++ D1 ++ aW.toList.drop ((k+1)*3+D1.length)).toArray=aX:=⟨_,rfl⟩
 have hcp2:∀ ty dc sc,(Builtin.copy_ #[24,24] ty #[.slice (some ⟨w.heap.size,(k+1)*3,none⟩) (n - k) dc,.slice (some ⟨g,k*3,none⟩) (n - k) sc]).run Tryz.prog W2.drew = .ok (.int .i64 ((n - k:Nat):Int)) (W2.drew.setRow w.heap.size aX):=fun ty dc sc=>by
  have h:=cQ (P:=Tryz.prog) W2.drew 24 24 ty 38 3 w.heap.size ((k+1)*3) (n - k) dc ⟨g,k*3,none⟩ (n - k) sc aW 38 D1 Tryz.underlying24 hinfo hR2.blk (by rw [lD1]; congr 1; show _=min _ _; omega)
   (fun j v hj=>hg2.cells (k*3) j v (by rw [hL,hD1]; exact hj)) (by rw [lD1,hs1]; omega) (fun v hv'=>one v (by rw [← hLr]; rw [← hD1] at hv'; exact List.mem_of_mem_drop hv'))
  rw [h,bP]
  congr 2
  congr 1
  show min _ _=_
  omega
 have hs2:aX.size=C*3:=by rw [← bP]; simp only [List.size_toArray,List.length_append,List.length_take,List.length_drop,Array.length_toList,hs1,lD1]; omega
 have hR3:cS (W2.drew.setRow w.heap.size aX) base 38 3 w.heap.size C aX:=cS.set (w:=W2.drew) ⟨hR2.ge,hR2.blk,hR2.cap_,hR2.size⟩ aX hs2
 have hfin:=hR3.own (n:=n+1) hCn (xs:=au ay (l.take k ++ x :: l.drop k)) (by
  have h:=uB (L:=gq.toList) (X:=ay x) (D:=D1) (a:=k*3) (s:=3) (by have e:gq.toList.length=gq.size:=Array.length_toList; omega) (aH x)
  rw [h0t] at h
  rw [bS,show au ay (x :: l.drop k)=ay x ++ au ay (l.drop k) from rfl,← cN aH,← dX aH,← List.append_assoc,← hLr,hD1,← h,← bP,← cX]
  simp only [lD1,aH,h0t]
  rw [show (k+1)*3=k*3+3 by omega,show (n+1)*3=k*3+3+(n - k)*3 by omega])
 have hgr:cE w (W2.drew.setRow w.heap.size aX) (.slice (some ⟨g,0,none⟩) n n) (.slice (some ⟨w.heap.size,0,none⟩) (n+1) C):=by
  have hb3:Below w.heap.size w (W2.drew.setRow w.heap.size aX):=B1.trans ⟨rfl,rfl,rfl,by simp [World.setRow],fun q hq=>setRow_other W2.drew w.heap.size q aX (by omega)⟩
  exact⟨⟨hb3.os,hb3.tape,hb3.output,hb3.size,fun q hq _=>hb3.block q hq⟩,.inr ⟨w.heap.size,rfl,Nat.le_refl _⟩⟩
 have aS:=hid (show bf ay base 38 3 (some ⟨g,0,none⟩) n n (l.take k ++ x :: l.drop k) w (.returned (.slice (some ⟨w.heap.size,0,none⟩) (n+1) C)) (W2.drew.setRow w.heap.size aX) from ⟨_,n+1,C,rfl,by rw [List.length_append,List.length_cons,List.length_take,List.length_drop]; omega,hfin,hgr⟩)
 have II:=hid happ
 have IJ:=hid hcp1
 have hC1:¬ C=k:=by omega
 have hC2:¬ C=k+1:=by omega
 clear hl hR htk hv ho hinfo hL hLl hLr one hold hC hCm mR happ hs0 h0t hW1 tH hR1 hg1 hv1 cX hcp1 hs1 hR2 hg2 hW2 B1 hD1 lD1 bP hs2 hR3 hfin hgr hi0 hz0 hz1 hzb
 go_enter Tryz.func346,Tryz.ntmps346
 go_wp2_with (first | (at_builtin; refine Lib.wpList_append_run _ rfl _ _ 24 3 rfl _ _ rfl rfl _ _ (II.out _) ?_) | (refine eS _ rfl _ _ 24 24 rfl _ _ rfl rfl (IJ.out _ _) ?_))
 go_region_law (refine fY rfl _ _ 24 24 rfl _ _ (by simp [Act.eval,Act.put]) (by simp [Act.eval,Act.put]) (hcp2 _ _ _) ?_)
 go_wp2
 go_ret
 exact aS.out
theorem Fi (base:Nat) (A:Option Addr) (n c vb k:Nat) (l:List ah) (x:ah) (w:World) (ho:w.ownsRow base 38 3 (.slice A n c) n (au ay l)) (hl:l.length=n) (hn:n≤1000) (hk:k≤n) (hv:Blk w vb 38 (ay x).toArray) (hvg:∀ q,(Value.slice A n c).ownBlock=some q→vb≠q) (hbase:base≤w.heap.size) :
 Calls Tryz.prog 346 #[.slice A n c,.int .i64 k,.slice (some ⟨vb,0,none⟩) 1 1] w (bf ay base 38 3 A n c (l.take k ++ x :: l.drop k) w):=by
 by_cases hkn:k=n
 · subst hkn
   rw [List.take_of_length_le (by omega),List.drop_eq_nil_of_le (by omega)]
   exact Du base A k c vb l x w ho hl hn (fun j u hu=>by rw [Nat.zero_add,hv.cell j,List.getElem?_toArray]; exact hu) hbase
 · obtain⟨g,cap,hA,hcap⟩:=ho.form (by omega)
   injection hA with hA _ hc
   subst hA; subst hc
   by_cases hroom:n+1≤c
   · exact Dv base g n c vb k l x w ho hl hn (by omega) hroom hv (hvg g rfl) hbase
   · obtain rfl:c=n:=by obtain⟨_,_,h,_⟩:=cS.of ho; omega
     exact Dw base g c vb k l x w ho hl hn (by omega) hv hbase
end Go.Proofs.YtoeejfhdjmkpcaaGreatDoor
