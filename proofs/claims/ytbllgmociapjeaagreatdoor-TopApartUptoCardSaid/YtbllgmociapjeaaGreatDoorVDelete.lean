/- Of the proof of a statement: Delete. -/
import Derived.Test.YtbllgmociapjeaaGreatDoorVInsert
set_option linter.unusedVariables false
set_option linter.unusedSimpArgs false
set_option maxRecDepth 100000
set_option maxHeartbeats 8000000
/- slices.Delete of one row; serve.put and serve.take. -/
namespace Go.Proofs.YtbllgmociapjeaaGreatDoor
open Go.Lib (hid)
open Go.RowKit
theorem bZ.after {w w1 w2:World} {v v':Value} (hb:Below w.heap.size w w1) (hg:bZ w1 w2 v v'):bZ w w2 v v':=
 bZ.trans ⟨⟨hb.os,hb.tape,hb.output,hb.size,fun k hk _=>hb.block k hk⟩,.inl rfl⟩ hg
def yN (L:List Value) (o:Nat):List Value→List Value
 | []=>L
 | v :: r=>yN (L.set o v) (o+1) r
theorem oZ:∀ (xs L:List Value) (o:Nat),o+xs.length≤L.length→yN L o xs=L.take o ++ xs ++ L.drop (o+xs.length)
 | [],L,o,_=>by simp [yN]
 | v :: r,L,o,h=>by
  rw [List.length_cons] at h
  rw [yN,oZ r (L.set o v) (o+1) (by rw [List.length_set]; omega),list_seg_step L o v r h,List.length_cons]
theorem cL.setCell {w:World} {base g cap sz:Nat} {e:TypeId} {cur:Array Value} (h:cL w base e sz g cap cur) (i:Nat) (v:Value):cL (w.setCell ⟨g,i,none⟩ v) base e sz g cap (cur.setIfInBounds i v):=by
 rw [setCell_eq_setRow w g i cur e (0,0) v h.blk]
 exact h.set _ (by rw [Array.size_setIfInBounds]; exact h.size)
theorem cL.cell {w:World} {base g cap sz:Nat} {e:TypeId} {cur:Array Value} (h:cL w base e sz g cap cur) {i:Nat} {v:Value} (hv:cur.toList[i]? = some v):w.cell? ⟨g,i,none⟩=some v:=by
 rw [cell_of_row w g i cur e (0,0) h.blk,← Array.getElem?_toList]; exact hv
theorem cL.thaw {w:World} {base g cap sz:Nat} {e:TypeId} {cur:Array Value} (h:cL w base e sz g cap cur) (i:Nat):w.frozen? ⟨g,i,none⟩=false:=by
 have:=h.blk
 simp [World.frozen?,this]
theorem sB {L X R:List Value} {a b s:Nat} (hab:a+s≤b) (hb:b≤L.length) (hX:X.length=s) (hR:L.take b=R) :
 (L.take a ++ X ++ L.drop (a+s)).take b=R.take a ++ X ++ R.drop (a+s):=by
 have l1:(L.take a).length=a:=by rw [List.length_take]; omega
 rw [List.take_append,List.take_of_length_le (by rw [List.length_append,l1,hX]; omega),List.length_append,l1,hX,← hR,List.drop_take,List.take_take,Nat.min_eq_left (by omega)]
theorem dG {w:World} (g i n n' c c':Nat) (u:Value):bZ w (w.setCell ⟨g,i,none⟩ u) (.slice (some ⟨g,0,none⟩) n c) (.slice (some ⟨g,0,none⟩) n' c'):=
 ⟨aQ (World.grownBy.refl w (some g)) i u,.inl rfl⟩
def qQ {α:Type} (enc:α→List Value) (base:Nat) (T:TypeId) (sz:Nat) (A:Option Addr) (n c:Nat) (l:List α) (is:Bool) (w:World) (e:Ending) (w':World):Prop:=
 ∃ A' m c',e = .returned (.tuple #[.slice A' m c',.bool is])∧m=l.length∧w'.ownsRow base T sz (.slice A' m c') m (au enc l)∧bZ w w' (.slice A n c) (.slice A' m c')
theorem FD (base g m c k:Nat) (l:List aC) (w:World) (ho:w.ownsRow base 32 5 (.slice (some ⟨g,0,none⟩) (m+1) c) (m+1) (au aI l)) (hl:l.length=m+1) (hn:m+1≤1000) (hk:k<m) :
 Calls Tryz.prog 194 #[.slice (some ⟨g,0,none⟩) (m+1) c,.int .i64 k,.int .i64 ((k:Int)+1)] w (aX aI base 32 5 (some ⟨g,0,none⟩) (m+1) c (l.take k ++ l.drop (k+1)) w):=by
 obtain⟨cur,hR,hnc,htk⟩:=cL.of ho
 have hc63:=hR.cap_
 unfold maxLen at hc63
 obtain⟨i0,hi0,hz0,hz1,hzb⟩:=info_parts nY
 have hinfo:(Tryz.prog.info? 32).map (·.size)=some 5:=by rw [hi0]; simp [hz1]
 have one:∀ v ∈ au aI l,v.oneCell'=true:=fun v hv'=>by
  obtain⟨a,_,ha⟩:=List.mem_flatMap.1 hv'
  exact gY a v ha
 obtain⟨L,hL⟩:∃ L,cur.toList=L:=⟨_,rfl⟩
 have hLl:L.length=c*5:=by rw [← hL,Array.length_toList,hR.size]
 obtain⟨C1,hC1⟩:∃ C1,(L.drop (k*5+5)).take ((m+1)*5 - (k*5+5))=C1:=⟨_,rfl⟩
 have lC1:C1.length=(m - k)*5:=by rw [← hC1,List.length_take,List.length_drop,hLl]; omega
 have m1C:∀ v ∈ C1,v ∈ au aI l:=fun v hv'=>by
  rw [← hC1,← List.drop_take,← hL,htk] at hv'
  exact List.mem_of_mem_drop hv'
 obtain⟨aS,cQ⟩:∃ aS,(cur.toList.take (k*5) ++ C1 ++ cur.toList.drop (k*5+C1.length)).toArray=aS:=⟨_,rfl⟩
 have hap:∀ ty sc,(Builtin.append_ #[22,22] ty #[.slice (some ⟨g,0,none⟩) k c,.slice (some ⟨g,(k+1)*5,none⟩) (m - k) sc]).run Tryz.prog w.drew = .ok (.slice (some ⟨g,0,none⟩) m c) (w.drew.setRow g aS):=fun ty sc=>by
  have h:=kG (P:=Tryz.prog) w.drew 22 ty 32 5 Tryz.underlying22 hinfo g k c ⟨g,(k+1)*5,none⟩ (m - k) sc cur 32 C1 hR.blk lC1 (fun j v hj=>by
   refine hR.cells ((k+1)*5) j v ?_
   rw [hL,show (k+1)*5=k*5+5 by omega]
   rw [← hC1,List.getElem?_take] at hj
   split at hj
   · exact hj
   · cases hj) (by omega) (by rw [lC1,hR.size]; omega) (fun v hv'=>one v (m1C v hv'))
  rw [h,cQ,show k+(m - k)=m by omega]
 have hs1:aS.size=c*5:=by rw [← cQ]; simp only [List.size_toArray,List.length_append,List.length_take,List.length_drop,hL,hLl,lC1]; omega
 have hR1:cL (w.drew.setRow g aS) base 32 5 g c aS:=cL.set (w:=w.drew) ⟨hR.ge,hR.blk,hR.cap_,hR.size⟩ aS hs1
 obtain⟨W1,hW1⟩:∃ W1,w.drew.setRow g aS=W1:=⟨_,rfl⟩
 rw [hW1] at hap hR1
 obtain⟨Z,hZ⟩:∃ Z,(Builtin.zeroCells (Value.cells (.agg #[.string ⟨#[]⟩,.int .i64 0,.int .i64 0,.int .i64 0,.string ⟨#[]⟩])) 1).toList=Z:=⟨_,rfl⟩
 have lZ:Z.length=5:=by rw [← hZ,eH]; rfl
 obtain⟨aT,bM⟩:∃ aT,(aS.toList.take (m*5) ++ Z ++ aS.toList.drop (m*5+Z.length)).toArray=aT:=⟨_,rfl⟩
 have hcl:∀ ty cc,(Builtin.clear_ #[22] ty #[.slice (some ⟨g,m*5,none⟩) 1 cc]).run Tryz.prog W1 = .ok (.tuple #[]) (W1.setRow g aT):=fun ty cc=>by
  have h:=eY (P:=Tryz.prog) W1 22 32 ty (.agg #[.string ⟨#[]⟩,.int .i64 0,.int .i64 0,.int .i64 0,.string ⟨#[]⟩]) g (m*5) 1 cc Tryz.underlying22 Tryz.zeroValue32 (fH _ 1 (fun u hu=>gY ⟨⟨#[]⟩,0,0,0,⟨#[]⟩⟩ u hu)) (by decide) aS 32 hR1.blk (by rw [hs1]; show m*5+1*5≤_; omega)
  rw [h,hZ,bM]
 have hs2:aT.size=c*5:=by rw [← bM]; simp only [List.size_toArray,List.length_append,List.length_take,List.length_drop,Array.length_toList,hs1,lZ]; omega
 have hfin:=(hR1.set aT hs2).own (n:=m) (by omega) (xs:=au aI (l.take k ++ l.drop (k+1))) (by
  have h:=pZ (L:=L) (R:=au aI l) (a:=k*5) (b:=(m+1)*5) (s:=5) (by omega) (by omega) (by rw [← hL]; exact htk)
  have e1:aT.toList.take (m*5)=aS.toList.take (m*5):=by
   have l1:(aS.toList.take (m*5)).length=m*5:=by
    have e:aS.toList.length=aS.size:=Array.length_toList
    rw [List.length_take]; omega
   rw [← bM,List.append_assoc,List.take_append_of_le_length (by omega),List.take_of_length_le (by omega)]
  rw [bU,← cI aV,← dU aV,show (k+1)*5=k*5+5 by omega,← h,e1,← cQ]
  simp only [hL,lC1]
  rw [← hC1,show (m+1)*5 - 5=m*5 by omega,show (m - k)*5=(m+1)*5 - (k*5+5) by omega])
 have hgr:bZ w (W1.setRow g aT) (.slice (some ⟨g,0,none⟩) (m+1) c) (.slice (some ⟨g,0,none⟩) m c):=by
  rw [← hW1]
  exact (eN w g (m+1) (m+1) c c aS).trans (jh _ g (m+1) m c c aT)
 have aP:=hid (show aX aI base 32 5 (some ⟨g,0,none⟩) (m+1) c (l.take k ++ l.drop (k+1)) w (.returned (.slice (some ⟨g,0,none⟩) m c)) (W1.setRow g aT) from ⟨_,m,c,rfl,by rw [List.length_append,List.length_take,List.length_drop]; omega,hfin,hgr⟩)
 have hkk:((k:Int) == (k:Int)+1)=false:=by rw [beq_eq_false_iff_ne]; omega
 have hw1:(0:Int)≤(k:Int)+1:=by omega
 have htn:((k:Int)+1).toNat=k+1:=by omega
 have hb3:(k:Int)+1≤(m:Int)+1:=by omega
 have hb4:(k:Int)≤(m:Int)+1:=by omega
 have hb5:(k:Int)≤(k:Int)+1:=by omega
 have hcm:¬ c=m:=by omega
 have hkc:(k:Int)≤(c:Int):=by omega
 have hck:¬ c=k:=by omega
 have Hcl:=hid hcl
 clear hl hR htk ho hinfo hL hLl hC1 lC1 m1C one cQ hs1 hR1 hW1 hZ lZ hcl bM hs2 hfin hgr hi0 hz0 hz1 hzb
 have zW:¬ c=k+1:=by omega
 go_enter Tryz.func194,Tryz.ntmps194
 go_wp2
 go_region_law (refine jH rfl _ _ 22 22 rfl (.slice (some ⟨g,0,none⟩) k c) (.slice (some ⟨g,(k+1)*5,none⟩) (m - k) (c - (k+1))) rfl rfl (hap _ _) ?_)
 go_wp2_with (refine bY _ rfl _ 22 rfl _ rfl (Hcl.out _ _) ?_)
 go_ret
 exact aP.out
theorem FE (base g m c:Nat) (l:List aC) (w:World) (ho:w.ownsRow base 32 5 (.slice (some ⟨g,0,none⟩) (m+1) c) (m+1) (au aI l)) (hl:l.length=m+1) (hn:m+1≤1000) :
 Calls Tryz.prog 194 #[.slice (some ⟨g,0,none⟩) (m+1) c,.int .i64 m,.int .i64 ((m:Int)+1)] w (aX aI base 32 5 (some ⟨g,0,none⟩) (m+1) c (l.take m ++ l.drop (m+1)) w):=by
 obtain⟨cur,hR,hnc,htk⟩:=cL.of ho
 have hc63:=hR.cap_
 unfold maxLen at hc63
 obtain⟨Z,hZ⟩:∃ Z,(Builtin.zeroCells (Value.cells (.agg #[.string ⟨#[]⟩,.int .i64 0,.int .i64 0,.int .i64 0,.string ⟨#[]⟩])) 1).toList=Z:=⟨_,rfl⟩
 have lZ:Z.length=5:=by rw [← hZ,eH]; rfl
 obtain⟨aT,bM⟩:∃ aT,(cur.toList.take (m*5) ++ Z ++ cur.toList.drop (m*5+Z.length)).toArray=aT:=⟨_,rfl⟩
 have lc:cur.toList.length=c*5:=by rw [Array.length_toList,hR.size]
 have hcl:∀ ty cc,(Builtin.clear_ #[22] ty #[.slice (some ⟨g,m*5,none⟩) 1 cc]).run Tryz.prog w.drew = .ok (.tuple #[]) (w.drew.setRow g aT):=fun ty cc=>by
  have h:=eY (P:=Tryz.prog) w.drew 22 32 ty (.agg #[.string ⟨#[]⟩,.int .i64 0,.int .i64 0,.int .i64 0,.string ⟨#[]⟩]) g (m*5) 1 cc Tryz.underlying22 Tryz.zeroValue32 (fH _ 1 (fun u hu=>gY ⟨⟨#[]⟩,0,0,0,⟨#[]⟩⟩ u hu)) (by decide) cur 32 hR.blk (by rw [hR.size]; show m*5+1*5≤_; omega)
  rw [h,hZ,bM]
 have hs2:aT.size=c*5:=by rw [← bM]; simp only [List.size_toArray,List.length_append,List.length_take,List.length_drop,lc,lZ]; omega
 have hR2:cL (w.drew.setRow g aT) base 32 5 g c aT:=cL.set (w:=w.drew) ⟨hR.ge,hR.blk,hR.cap_,hR.size⟩ aT hs2
 have hfin:=hR2.own (n:=m) (by omega) (xs:=au aI (l.take m ++ l.drop (m+1))) (by
  rw [List.drop_eq_nil_of_le (by omega),List.append_nil,← cI aV,← htk,← bM,List.append_assoc,List.take_append_of_le_length (by rw [List.length_take]; omega),List.take_take,List.take_take,Nat.min_self,Nat.min_eq_left (by omega)])
 have aP:=hid (show aX aI base 32 5 (some ⟨g,0,none⟩) (m+1) c (l.take m ++ l.drop (m+1)) w (.returned (.slice (some ⟨g,0,none⟩) m c)) (w.drew.setRow g aT) from ⟨_,m,c,rfl,by rw [List.length_append,List.length_take,List.length_drop]; omega,hfin,eN w g (m+1) m c c aT⟩)
 have hkk:((m:Int) == (m:Int)+1)=false:=by rw [beq_eq_false_iff_ne]; omega
 have hw1:(0:Int)≤(m:Int)+1:=by omega
 have htn:((m:Int)+1).toNat=m+1:=by omega
 have hb3:(m:Int)+1≤(m:Int)+1:=by omega
 have hb4:(m:Int)≤(m:Int)+1:=by omega
 have hcm:¬ c=m:=by omega
 have hkc:(m:Int)≤(c:Int):=by omega
 have Hcl:=hid hcl
 clear hl hR htk ho hZ lZ hcl bM hs2 hR2 hfin lc
 by_cases zW:c=m+1
 · subst zW
   go_enter Tryz.func194,Tryz.ntmps194
   go_wp2
   go_region
   go_wp2_with (refine bY _ rfl _ 22 rfl _ rfl (Hcl.out _ _) ?_)
   go_ret
   exact aP.out
 · go_enter Tryz.func194,Tryz.ntmps194
   go_wp2
   go_region
   go_wp2_with (refine bY _ rfl _ 22 rfl _ rfl (Hcl.out _ _) ?_)
   go_ret
   exact aP.out
theorem IP (base g m c k:Nat) (l:List aC) (w:World) (ho:w.ownsRow base 32 5 (.slice (some ⟨g,0,none⟩) (m+1) c) (m+1) (au aI l)) (hl:l.length=m+1) (hn:m+1≤1000) (hk:k≤m) :
 Calls Tryz.prog 194 #[.slice (some ⟨g,0,none⟩) (m+1) c,.int .i64 k,.int .i64 ((k:Int)+1)] w (aX aI base 32 5 (some ⟨g,0,none⟩) (m+1) c (l.take k ++ l.drop (k+1)) w):=by
 by_cases h:k=m
 · subst h; exact FE base g k c l w ho hl hn
 · exact FD base g m c k l w ho hl hn (by omega)
theorem By (base g n c k:Nat) (l:List aC) (x:aC) (w W:World) (ho:w.ownsRow base 32 5 (.slice (some ⟨g,0,none⟩) n c) n (au aI l)) (hl:l.length=n) (hk:k<n) (hb:Below w.heap.size w W) :
 (∀ j,W.frozen? ⟨g,j,none⟩=false)∧(∀ j,j<n*5→∃ u,W.cell? ⟨g,j,none⟩=some u)∧aX aI base 32 5 (some ⟨g,0,none⟩) n c (l.take k ++ x :: l.drop (k+1)) w (.returned (.slice (some ⟨g,0,none⟩) n c)) (((((W.setCell ⟨g,k*5,none⟩ (.string x.name)).setCell ⟨g,k*5+1,none⟩ (.int .i64 x.prio)).setCell ⟨g,k*5+2,none⟩ (.int .i64 x.need)).setCell ⟨g,k*5+3,none⟩ (.int .i64 x.tries)).setCell ⟨g,k*5+4,none⟩ (.string x.tag)):=by
 obtain⟨cur,hR,hnc,htk⟩:=cL.of (ay ho hb)
 have lc:cur.toList.length=c*5:=by rw [Array.length_toList,hR.size]
 have hR':=(((((hR.setCell (k*5) (.string x.name)).setCell (k*5+1) (.int .i64 x.prio)).setCell (k*5+2) (.int .i64 x.need)).setCell (k*5+3) (.int .i64 x.tries)).setCell (k*5+4) (.string x.tag))
 have e0:(((((cur.setIfInBounds (k*5) (.string x.name)).setIfInBounds (k*5+1) (.int .i64 x.prio)).setIfInBounds (k*5+2) (.int .i64 x.need)).setIfInBounds (k*5+3) (.int .i64 x.tries)).setIfInBounds (k*5+4) (.string x.tag)).toList=cur.toList.take (k*5) ++ aI x ++ cur.toList.drop (k*5+5):=by
  have h:=oZ (aI x) cur.toList (k*5) (by rw [aV,lc]; omega)
  rw [aV] at h
  rw [← h]
  simp only [Array.toList_setIfInBounds]
  rfl
 refine⟨hR.thaw,fun j hj=>⟨_,hR.cell (List.getElem?_eq_getElem (by rw [lc]; omega))⟩,_,n,c,rfl,by rw [List.length_append,List.length_cons,List.length_take,List.length_drop,hl]; omega,hR'.own hnc ?_,bZ.after hb ((((((dG g (k*5) n n c c (.string x.name)).trans (dG g (k*5+1) n n c c (.int .i64 x.prio))).trans (dG g (k*5+2) n n c c (.int .i64 x.need))).trans (dG g (k*5+3) n n c c (.int .i64 x.tries))).trans (dG g (k*5+4) n n c c (.string x.tag))))⟩
 have h:=sB (L:=cur.toList) (X:=aI x) (R:=au aI l) (a:=k*5) (b:=n*5) (s:=5) (by omega) (by rw [lc]; omega) (aV x) htk
 rw [bU,show au aI (x :: l.drop (k+1))=aI x ++ au aI (l.drop (k+1)) from rfl,← cI aV,← dU aV,← List.append_assoc,show (k+1)*5=k*5+5 by omega,← h,e0]
theorem FF (base:Nat) (A:Option Addr) (n c:Nat) (l:List aC) (x:aC) (w:World) (ho:w.ownsRow base 32 5 (.slice A n c) n (au aI l)) (hl:l.length=n) (hn:n≤999) (hs:bG aC.name l) (hbase:base≤w.heap.size) :
 Calls Tryz.prog 155 #[.slice A n c,.agg (aI x).toArray,.func (.func 144) #[] #[]] w (aX aI base 32 5 A n c (j6 aC.name l x) w):=by
 have hput:=nZ (x:=x) hs
 have qR:=qS (key:=aC.name) l (aC.name x)
 have heg:=enters_of Tryz.func144 (by kernel_rfl) rfl
 obtain⟨k,hk⟩:∃ k,dF aC.name l (aC.name x)=k:=⟨_,rfl⟩
 have hb1:Below w.heap.size w (w.alloc (.cells (aI x).toArray 32)):=(Below.refl _ _).alloc (Nat.le_refl _) _
 have hB1:Blk (w.alloc (.cells (aI x).toArray 32)) w.heap.size 32 (aI x).toArray:=heap_alloc_new w _
 have HP:=hid (fun W (hb:Below w.heap.size w W)=>sw (aC.name x) l A n c W (cO (ay ho hb)) hl (by omega) hs)
 have Ho:=hid ho
 have Hb1:=hid hb1
 have HB1:=hid hB1
 unfold dS at HP
 rw [hk] at hput qR
 simp only [hk] at HP
 cases his:isL aC.name l (aC.name x) with
 | true=>
  rw [his] at hput
  simp only [his] at HP
  obtain⟨y,hy,hky⟩:=lJ his
  rw [hk] at hy
  have hkn:k<n:=by have:=(List.getElem?_eq_some_iff.1 hy).1; omega
  obtain⟨g,cap,hA,hcap⟩:=ho.form (by omega)
  injection hA with hA _ hc
  subst hA; subst hc
  rw [if_pos rfl] at hput
  have HS:=hid (fun W hb=>By base g n c k l x w W ho hl hkn hb)
  rw [hput]
  clear hput hb1 hB1 his hy hky hk hl ho qR hs
  obtain⟨name,prio,need,tries,tag⟩:=x
  have iP:=hid (show Blk (w.alloc (.cells #[.string name,.int .i64 prio,.int .i64 need,.int .i64 tries,.string tag] 32)) w.heap.size 32 #[.string name,.int .i64 prio,.int .i64 need,.int .i64 tries,.string tag] from HB1.out)
  obtain⟨b0,b1,b2,b3,b4⟩:=Blk.c5 (iP.out)
  show Calls Tryz.prog 155 #[.slice (some ⟨g,0,none⟩) n c,.agg #[.string name,.int .i64 prio,.int .i64 need,.int .i64 tries,.string tag],.func (.func 144) #[] #[]] w _
  have Hb1:=hid (show Below w.heap.size w (w.alloc (.cells #[.string name,.int .i64 prio,.int .i64 need,.int .i64 tries,.string tag] 32)) from Hb1.out)
  clear HB1
  go_enter Tryz.func155,Tryz.ntmps155
  go_wp2_with fail
  refine Calls.mono (gS name prio need tries tag _) ?_
  rintro e w2 ⟨rfl,hb2⟩
  have Hb2:=hid (Hb1.out.trans (hb2.mono Hb1.out.size))
  have HB2:=hid (iP.out.below hb2 iP.out.lt)
  clear hb2 b0 b1 b2 b3 b4
  go_wp2_with fail
  refine Calls.mono (HP.out _ Hb2.out) ?_
  rintro e w3 ⟨rfl,hb3⟩
  have Hb3:=hid (Hb2.out.trans (hb3.mono Hb2.out.size))
  have HB3:=hid (HB2.out.below hb3 HB2.out.lt)
  clear hb3 HB2
  obtain⟨hfz,hce,hend⟩:=HS.out w3 Hb3.out
  obtain⟨d0,d1,d2,d3,d4⟩:=Blk.c5 (HB3.out)
  have f0:=hfz (k*5)
  obtain⟨u0,p0⟩:=hce (k*5) (by omega)
  have f1:=hfz (k*5+1)
  obtain⟨u1,p1⟩:=hce (k*5+1) (by omega)
  have f2:=hfz (k*5+2)
  obtain⟨u2,p2⟩:=hce (k*5+2) (by omega)
  have f3:=hfz (k*5+3)
  obtain⟨u3,p3⟩:=hce (k*5+3) (by omega)
  have f4:=hfz (k*5+4)
  obtain⟨u4,p4⟩:=hce (k*5+4) (by omega)
  have aP:=hid hend
  clear hfz hce hend
  go_wp2
  go_ret
  exact aP.out
 | false=>
  rw [his] at hput
  simp only [his] at HP
  rw [if_neg (by decide)] at hput
  rw [hput]
  have Hl:=hid hl
  clear hput hb1 hB1 his hk hl ho hs
  obtain⟨name,prio,need,tries,tag⟩:=x
  have iP:=hid (show Blk (w.alloc (.cells #[.string name,.int .i64 prio,.int .i64 need,.int .i64 tries,.string tag] 32)) w.heap.size 32 #[.string name,.int .i64 prio,.int .i64 need,.int .i64 tries,.string tag] from HB1.out)
  obtain⟨b0,b1,b2,b3,b4⟩:=Blk.c5 (iP.out)
  show Calls Tryz.prog 155 #[.slice A n c,.agg #[.string name,.int .i64 prio,.int .i64 need,.int .i64 tries,.string tag],.func (.func 144) #[] #[]] w _
  have Hb1:=hid (show Below w.heap.size w (w.alloc (.cells #[.string name,.int .i64 prio,.int .i64 need,.int .i64 tries,.string tag] 32)) from Hb1.out)
  clear HB1
  go_enter Tryz.func155,Tryz.ntmps155
  go_wp2_with fail
  refine Calls.mono (gS name prio need tries tag _) ?_
  rintro e w2 ⟨rfl,hb2⟩
  have Hb2:=hid (Hb1.out.trans (hb2.mono Hb1.out.size))
  have HB2:=hid (iP.out.below hb2 iP.out.lt)
  clear hb2 b0 b1 b2 b3 b4
  go_wp2_with fail
  refine Calls.mono (HP.out _ Hb2.out) ?_
  rintro e w3 ⟨rfl,hb3⟩
  have Hb3:=hid (Hb2.out.trans (hb3.mono Hb2.out.size))
  have HB3:=hid (HB2.out.below hb3 HB2.out.lt)
  clear hb3 HB2
  obtain⟨d0,d1,d2,d3,d4⟩:=Blk.c5 (HB3.out)
  have hb4:Below w.heap.size w (w3.alloc (.cells #[.string name,.int .i64 prio,.int .i64 need,.int .i64 tries,.string tag] 32)):=Hb3.out.alloc Hb3.out.size _
  have hB4:Blk (w3.alloc (.cells #[.string name,.int .i64 prio,.int .i64 need,.int .i64 tries,.string tag] 32)) w3.heap.size 32 (aI ⟨name,prio,need,tries,tag⟩).toArray:=heap_alloc_new w3 _
  have HI:=hid (IQ base A n c w3.heap.size k l ⟨name,prio,need,tries,tag⟩ (w3.alloc (.cells #[.string name,.int .i64 prio,.int .i64 need,.int .i64 tries,.string tag] 32)) (ay Ho.out hb4) Hl.out (by omega) (by have:=Hl.out; omega) hB4 (fun q hq=>by have:=(Ho.out.lt q hq).2; have:=Hb3.out.size; omega) (Nat.le_trans hbase hb4.size))
  have Hb4:=hid hb4
  clear hb4 hB4
  go_wp2_with fail
  refine Calls.mono HI.out ?_
  rintro e w5 ⟨A',m,c',rfl,hm,ho',hg'⟩
  have aP:=hid (show aX aI base 32 5 A n c (l.take k ++ ⟨name,prio,need,tries,tag⟩ :: l.drop k) w (.returned (.slice A' m c')) w5 from ⟨A',m,c',rfl,hm,ho',bZ.after Hb4.out hg'⟩)
  clear hm ho' hg' d0 d1 d2 d3 d4
  go_wp2
  go_ret
  exact aP.out
theorem DK (base:Nat) (A:Option Addr) (n c:Nat) (l:List aC) (s:ByteArray) (w:World) (ho:w.ownsRow base 32 5 (.slice A n c) n (au aI l)) (hl:l.length=n) (hn:n≤999) (hs:bG aC.name l) :
 Calls Tryz.prog 157 #[.slice A n c,.string s,.func (.func 144) #[] #[]] w (qQ aI base 32 5 A n c (l.filter fun a=>!decide (aC.name a=s)) (isL aC.name l s) w):=by
 have htp:=uV (s:=s) hs
 obtain⟨k,hk⟩:∃ k,dF aC.name l s=k:=⟨_,rfl⟩
 have HP:=hid (sw s l A n c w (cO ho) hl (by omega) hs)
 have Ho:=hid ho
 have Hl:=hid hl
 unfold dS at HP
 rw [hk] at htp
 simp only [hk] at HP
 cases his:isL aC.name l s with
 | true=>
  rw [his] at htp
  simp only [his] at HP
  obtain⟨y,hy,hky⟩:=lJ his
  rw [hk] at hy
  have hkn:k<n:=by have:=(List.getElem?_eq_some_iff.1 hy).1; omega
  obtain⟨g,cap,hA,hcap⟩:=ho.form (by omega)
  injection hA with hA _ hc
  subst hA; subst hc
  rw [if_pos rfl] at htp
  rw [htp]
  obtain⟨m,rfl⟩:∃ m,n=m+1:=⟨n - 1,by omega⟩
  have HD:=hid (fun W (hb:Below w.heap.size w W)=>IP base g m c k l W (ay ho hb) hl (by omega) (by omega))
  have hw1:IntKind.i64.wrap ((k:Int)+1)=(k:Int)+1:=by rw [IntKind.wrap_i64]; omega
  clear htp his hy hky hk hl ho hs
  go_enter Tryz.func157,Tryz.ntmps157
  go_wp2_with fail
  refine Calls.mono HP.out ?_
  rintro e w3 ⟨rfl,hb3⟩
  have Hb3:=hid hb3
  clear hb3
  go_wp2_with fail
  refine Calls.mono (HD.out _ Hb3.out) ?_
  rintro e w5 ⟨A',m',c',rfl,hm,ho',hg'⟩
  have aP:=hid (show qQ aI base 32 5 (some ⟨g,0,none⟩) (m+1) c (l.take k ++ l.drop (k+1)) true w (.returned (.tuple #[.slice A' m' c',.bool true])) w5 from ⟨A',m',c',rfl,hm,ho',bZ.after Hb3.out hg'⟩)
  clear hm ho' hg'
  go_wp2
  go_ret2
  exact aP.out
 | false=>
  rw [his] at htp
  simp only [his] at HP
  rw [if_neg (by decide)] at htp
  rw [htp]
  clear htp his hk hl ho hs
  go_enter Tryz.func157,Tryz.ntmps157
  go_wp2_with fail
  refine Calls.mono HP.out ?_
  rintro e w3 ⟨rfl,hb3⟩
  have aP:=hid (show qQ aI base 32 5 A n c l false w (.returned (.tuple #[.slice A n c,.bool false])) w3 from ⟨A,n,c,rfl,Hl.out.symm,ay Ho.out hb3,bZ.after hb3 (bZ.refl _ _)⟩)
  clear hb3
  go_wp2
  go_ret2
  exact aP.out
theorem DL (base g m c k:Nat) (l:List aA) (w:World) (ho:w.ownsRow base 34 3 (.slice (some ⟨g,0,none⟩) (m+1) c) (m+1) (au aB l)) (hl:l.length=m+1) (hn:m+1≤1000) (hk:k<m) :
 Calls Tryz.prog 196 #[.slice (some ⟨g,0,none⟩) (m+1) c,.int .i64 k,.int .i64 ((k:Int)+1)] w (aX aB base 34 3 (some ⟨g,0,none⟩) (m+1) c (l.take k ++ l.drop (k+1)) w):=by
 obtain⟨cur,hR,hnc,htk⟩:=cL.of ho
 have hc63:=hR.cap_
 unfold maxLen at hc63
 obtain⟨i0,hi0,hz0,hz1,hzb⟩:=info_parts mO
 have hinfo:(Tryz.prog.info? 34).map (·.size)=some 3:=by rw [hi0]; simp [hz1]
 have one:∀ v ∈ au aB l,v.oneCell'=true:=fun v hv'=>by
  obtain⟨a,_,ha⟩:=List.mem_flatMap.1 hv'
  exact fZ a v ha
 obtain⟨L,hL⟩:∃ L,cur.toList=L:=⟨_,rfl⟩
 have hLl:L.length=c*3:=by rw [← hL,Array.length_toList,hR.size]
 obtain⟨C1,hC1⟩:∃ C1,(L.drop (k*3+3)).take ((m+1)*3 - (k*3+3))=C1:=⟨_,rfl⟩
 have lC1:C1.length=(m - k)*3:=by rw [← hC1,List.length_take,List.length_drop,hLl]; omega
 have m1C:∀ v ∈ C1,v ∈ au aB l:=fun v hv'=>by
  rw [← hC1,← List.drop_take,← hL,htk] at hv'
  exact List.mem_of_mem_drop hv'
 obtain⟨aS,cQ⟩:∃ aS,(cur.toList.take (k*3) ++ C1 ++ cur.toList.drop (k*3+C1.length)).toArray=aS:=⟨_,rfl⟩
 have hap:∀ ty sc,(Builtin.append_ #[23,23] ty #[.slice (some ⟨g,0,none⟩) k c,.slice (some ⟨g,(k+1)*3,none⟩) (m - k) sc]).run Tryz.prog w.drew = .ok (.slice (some ⟨g,0,none⟩) m c) (w.drew.setRow g aS):=fun ty sc=>by
  have h:=kG (P:=Tryz.prog) w.drew 23 ty 34 3 Tryz.underlying23 hinfo g k c ⟨g,(k+1)*3,none⟩ (m - k) sc cur 34 C1 hR.blk lC1 (fun j v hj=>by
   refine hR.cells ((k+1)*3) j v ?_
   rw [hL,show (k+1)*3=k*3+3 by omega]
   rw [← hC1,List.getElem?_take] at hj
   split at hj
   · exact hj
   · cases hj) (by omega) (by rw [lC1,hR.size]; omega) (fun v hv'=>one v (m1C v hv'))
  rw [h,cQ,show k+(m - k)=m by omega]
 have hs1:aS.size=c*3:=by rw [← cQ]; simp only [List.size_toArray,List.length_append,List.length_take,List.length_drop,hL,hLl,lC1]; omega
 have hR1:cL (w.drew.setRow g aS) base 34 3 g c aS:=cL.set (w:=w.drew) ⟨hR.ge,hR.blk,hR.cap_,hR.size⟩ aS hs1
 obtain⟨W1,hW1⟩:∃ W1,w.drew.setRow g aS=W1:=⟨_,rfl⟩
 rw [hW1] at hap hR1
 obtain⟨Z,hZ⟩:∃ Z,(Builtin.zeroCells (Value.cells (.agg #[.string ⟨#[]⟩,.int .i64 0,.string ⟨#[]⟩])) 1).toList=Z:=⟨_,rfl⟩
 have lZ:Z.length=3:=by rw [← hZ,eH]; rfl
 obtain⟨aT,bM⟩:∃ aT,(aS.toList.take (m*3) ++ Z ++ aS.toList.drop (m*3+Z.length)).toArray=aT:=⟨_,rfl⟩
 have hcl:∀ ty cc,(Builtin.clear_ #[23] ty #[.slice (some ⟨g,m*3,none⟩) 1 cc]).run Tryz.prog W1 = .ok (.tuple #[]) (W1.setRow g aT):=fun ty cc=>by
  have h:=eY (P:=Tryz.prog) W1 23 34 ty (.agg #[.string ⟨#[]⟩,.int .i64 0,.string ⟨#[]⟩]) g (m*3) 1 cc Tryz.underlying23 Tryz.zeroValue34 (fH _ 1 (fun u hu=>fZ ⟨⟨#[]⟩,0,⟨#[]⟩⟩ u hu)) (by decide) aS 34 hR1.blk (by rw [hs1]; show m*3+1*3≤_; omega)
  rw [h,hZ,bM]
 have hs2:aT.size=c*3:=by rw [← bM]; simp only [List.size_toArray,List.length_append,List.length_take,List.length_drop,Array.length_toList,hs1,lZ]; omega
 have hfin:=(hR1.set aT hs2).own (n:=m) (by omega) (xs:=au aB (l.take k ++ l.drop (k+1))) (by
  have h:=pZ (L:=L) (R:=au aB l) (a:=k*3) (b:=(m+1)*3) (s:=3) (by omega) (by omega) (by rw [← hL]; exact htk)
  have e1:aT.toList.take (m*3)=aS.toList.take (m*3):=by
   have l1:(aS.toList.take (m*3)).length=m*3:=by
    have e:aS.toList.length=aS.size:=Array.length_toList
    rw [List.length_take]; omega
   rw [← bM,List.append_assoc,List.take_append_of_le_length (by omega),List.take_of_length_le (by omega)]
  rw [bU,← cI aJ,← dU aJ,show (k+1)*3=k*3+3 by omega,← h,e1,← cQ]
  simp only [hL,lC1]
  rw [← hC1,show (m+1)*3 - 3=m*3 by omega,show (m - k)*3=(m+1)*3 - (k*3+3) by omega])
 have hgr:bZ w (W1.setRow g aT) (.slice (some ⟨g,0,none⟩) (m+1) c) (.slice (some ⟨g,0,none⟩) m c):=by
  rw [← hW1]
  exact (eN w g (m+1) (m+1) c c aS).trans (jh _ g (m+1) m c c aT)
 have aP:=hid (show aX aB base 34 3 (some ⟨g,0,none⟩) (m+1) c (l.take k ++ l.drop (k+1)) w (.returned (.slice (some ⟨g,0,none⟩) m c)) (W1.setRow g aT) from ⟨_,m,c,rfl,by rw [List.length_append,List.length_take,List.length_drop]; omega,hfin,hgr⟩)
 have hkk:((k:Int) == (k:Int)+1)=false:=by rw [beq_eq_false_iff_ne]; omega
 have hw1:(0:Int)≤(k:Int)+1:=by omega
 have htn:((k:Int)+1).toNat=k+1:=by omega
 have hb3:(k:Int)+1≤(m:Int)+1:=by omega
 have hb4:(k:Int)≤(m:Int)+1:=by omega
 have hb5:(k:Int)≤(k:Int)+1:=by omega
 have hcm:¬ c=m:=by omega
 have hkc:(k:Int)≤(c:Int):=by omega
 have hck:¬ c=k:=by omega
 have Hcl:=hid hcl
 clear hl hR htk ho hinfo hL hLl hC1 lC1 m1C one cQ hs1 hR1 hW1 hZ lZ hcl bM hs2 hfin hgr hi0 hz0 hz1 hzb
 have zW:¬ c=k+1:=by omega
 go_enter Tryz.func196,Tryz.ntmps196
 go_wp2
 go_region_law (refine jH rfl _ _ 23 23 rfl (.slice (some ⟨g,0,none⟩) k c) (.slice (some ⟨g,(k+1)*3,none⟩) (m - k) (c - (k+1))) rfl rfl (hap _ _) ?_)
 go_wp2_with (refine bY _ rfl _ 23 rfl _ rfl (Hcl.out _ _) ?_)
 go_ret
 exact aP.out
theorem DM (base g m c:Nat) (l:List aA) (w:World) (ho:w.ownsRow base 34 3 (.slice (some ⟨g,0,none⟩) (m+1) c) (m+1) (au aB l)) (hl:l.length=m+1) (hn:m+1≤1000) :
 Calls Tryz.prog 196 #[.slice (some ⟨g,0,none⟩) (m+1) c,.int .i64 m,.int .i64 ((m:Int)+1)] w (aX aB base 34 3 (some ⟨g,0,none⟩) (m+1) c (l.take m ++ l.drop (m+1)) w):=by
 obtain⟨cur,hR,hnc,htk⟩:=cL.of ho
 have hc63:=hR.cap_
 unfold maxLen at hc63
 obtain⟨Z,hZ⟩:∃ Z,(Builtin.zeroCells (Value.cells (.agg #[.string ⟨#[]⟩,.int .i64 0,.string ⟨#[]⟩])) 1).toList=Z:=⟨_,rfl⟩
 have lZ:Z.length=3:=by rw [← hZ,eH]; rfl
 obtain⟨aT,bM⟩:∃ aT,(cur.toList.take (m*3) ++ Z ++ cur.toList.drop (m*3+Z.length)).toArray=aT:=⟨_,rfl⟩
 have lc:cur.toList.length=c*3:=by rw [Array.length_toList,hR.size]
 have hcl:∀ ty cc,(Builtin.clear_ #[23] ty #[.slice (some ⟨g,m*3,none⟩) 1 cc]).run Tryz.prog w.drew = .ok (.tuple #[]) (w.drew.setRow g aT):=fun ty cc=>by
  have h:=eY (P:=Tryz.prog) w.drew 23 34 ty (.agg #[.string ⟨#[]⟩,.int .i64 0,.string ⟨#[]⟩]) g (m*3) 1 cc Tryz.underlying23 Tryz.zeroValue34 (fH _ 1 (fun u hu=>fZ ⟨⟨#[]⟩,0,⟨#[]⟩⟩ u hu)) (by decide) cur 34 hR.blk (by rw [hR.size]; show m*3+1*3≤_; omega)
  rw [h,hZ,bM]
 have hs2:aT.size=c*3:=by rw [← bM]; simp only [List.size_toArray,List.length_append,List.length_take,List.length_drop,lc,lZ]; omega
 have hR2:cL (w.drew.setRow g aT) base 34 3 g c aT:=cL.set (w:=w.drew) ⟨hR.ge,hR.blk,hR.cap_,hR.size⟩ aT hs2
 have hfin:=hR2.own (n:=m) (by omega) (xs:=au aB (l.take m ++ l.drop (m+1))) (by
  rw [List.drop_eq_nil_of_le (by omega),List.append_nil,← cI aJ,← htk,← bM,List.append_assoc,List.take_append_of_le_length (by rw [List.length_take]; omega),List.take_take,List.take_take,Nat.min_self,Nat.min_eq_left (by omega)])
 have aP:=hid (show aX aB base 34 3 (some ⟨g,0,none⟩) (m+1) c (l.take m ++ l.drop (m+1)) w (.returned (.slice (some ⟨g,0,none⟩) m c)) (w.drew.setRow g aT) from ⟨_,m,c,rfl,by rw [List.length_append,List.length_take,List.length_drop]; omega,hfin,eN w g (m+1) m c c aT⟩)
 have hkk:((m:Int) == (m:Int)+1)=false:=by rw [beq_eq_false_iff_ne]; omega
 have hw1:(0:Int)≤(m:Int)+1:=by omega
 have htn:((m:Int)+1).toNat=m+1:=by omega
 have hb3:(m:Int)+1≤(m:Int)+1:=by omega
 have hb4:(m:Int)≤(m:Int)+1:=by omega
 have hcm:¬ c=m:=by omega
 have hkc:(m:Int)≤(c:Int):=by omega
 have Hcl:=hid hcl
 clear hl hR htk ho hZ lZ hcl bM hs2 hR2 hfin lc
 by_cases zW:c=m+1
 · subst zW
   go_enter Tryz.func196,Tryz.ntmps196
   go_wp2
   go_region
   go_wp2_with (refine bY _ rfl _ 23 rfl _ rfl (Hcl.out _ _) ?_)
   go_ret
   exact aP.out
 · go_enter Tryz.func196,Tryz.ntmps196
   go_wp2
   go_region
   go_wp2_with (refine bY _ rfl _ 23 rfl _ rfl (Hcl.out _ _) ?_)
   go_ret
   exact aP.out
theorem FG (base g m c k:Nat) (l:List aA) (w:World) (ho:w.ownsRow base 34 3 (.slice (some ⟨g,0,none⟩) (m+1) c) (m+1) (au aB l)) (hl:l.length=m+1) (hn:m+1≤1000) (hk:k≤m) :
 Calls Tryz.prog 196 #[.slice (some ⟨g,0,none⟩) (m+1) c,.int .i64 k,.int .i64 ((k:Int)+1)] w (aX aB base 34 3 (some ⟨g,0,none⟩) (m+1) c (l.take k ++ l.drop (k+1)) w):=by
 by_cases h:k=m
 · subst h; exact DM base g k c l w ho hl hn
 · exact DL base g m c k l w ho hl hn (by omega)
theorem zX (base g n c k:Nat) (l:List aA) (x:aA) (w W:World) (ho:w.ownsRow base 34 3 (.slice (some ⟨g,0,none⟩) n c) n (au aB l)) (hl:l.length=n) (hk:k<n) (hb:Below w.heap.size w W) :
 (∀ j,W.frozen? ⟨g,j,none⟩=false)∧(∀ j,j<n*3→∃ u,W.cell? ⟨g,j,none⟩=some u)∧aX aB base 34 3 (some ⟨g,0,none⟩) n c (l.take k ++ x :: l.drop (k+1)) w (.returned (.slice (some ⟨g,0,none⟩) n c)) (((W.setCell ⟨g,k*3,none⟩ (.string x.name)).setCell ⟨g,k*3+1,none⟩ (.int .i64 x.room)).setCell ⟨g,k*3+2,none⟩ (.string x.zone)):=by
 obtain⟨cur,hR,hnc,htk⟩:=cL.of (ay ho hb)
 have lc:cur.toList.length=c*3:=by rw [Array.length_toList,hR.size]
 have hR':=(((hR.setCell (k*3) (.string x.name)).setCell (k*3+1) (.int .i64 x.room)).setCell (k*3+2) (.string x.zone))
 have e0:(((cur.setIfInBounds (k*3) (.string x.name)).setIfInBounds (k*3+1) (.int .i64 x.room)).setIfInBounds (k*3+2) (.string x.zone)).toList=cur.toList.take (k*3) ++ aB x ++ cur.toList.drop (k*3+3):=by
  have h:=oZ (aB x) cur.toList (k*3) (by rw [aJ,lc]; omega)
  rw [aJ] at h
  rw [← h]
  simp only [Array.toList_setIfInBounds]
  rfl
 refine⟨hR.thaw,fun j hj=>⟨_,hR.cell (List.getElem?_eq_getElem (by rw [lc]; omega))⟩,_,n,c,rfl,by rw [List.length_append,List.length_cons,List.length_take,List.length_drop,hl]; omega,hR'.own hnc ?_,bZ.after hb ((((dG g (k*3) n n c c (.string x.name)).trans (dG g (k*3+1) n n c c (.int .i64 x.room))).trans (dG g (k*3+2) n n c c (.string x.zone))))⟩
 have h:=sB (L:=cur.toList) (X:=aB x) (R:=au aB l) (a:=k*3) (b:=n*3) (s:=3) (by omega) (by rw [lc]; omega) (aJ x) htk
 rw [bU,show au aB (x :: l.drop (k+1))=aB x ++ au aB (l.drop (k+1)) from rfl,← cI aJ,← dU aJ,← List.append_assoc,show (k+1)*3=k*3+3 by omega,← h,e0]
theorem DN (base:Nat) (A:Option Addr) (n c:Nat) (l:List aA) (x:aA) (w:World) (ho:w.ownsRow base 34 3 (.slice A n c) n (au aB l)) (hl:l.length=n) (hn:n≤999) (hs:bG aA.name l) (hbase:base≤w.heap.size) :
 Calls Tryz.prog 156 #[.slice A n c,.agg (aB x).toArray,.func (.func 147) #[] #[]] w (aX aB base 34 3 A n c (j6 aA.name l x) w):=by
 have hput:=nZ (x:=x) hs
 have qR:=qS (key:=aA.name) l (aA.name x)
 have heg:=enters_of Tryz.func147 (by kernel_rfl) rfl
 obtain⟨k,hk⟩:∃ k,dF aA.name l (aA.name x)=k:=⟨_,rfl⟩
 have hb1:Below w.heap.size w (w.alloc (.cells (aB x).toArray 34)):=(Below.refl _ _).alloc (Nat.le_refl _) _
 have hB1:Blk (w.alloc (.cells (aB x).toArray 34)) w.heap.size 34 (aB x).toArray:=heap_alloc_new w _
 have HP:=hid (fun W (hb:Below w.heap.size w W)=>pW (aA.name x) l A n c W (cO (ay ho hb)) hl (by omega) hs)
 have Ho:=hid ho
 have Hb1:=hid hb1
 have HB1:=hid hB1
 unfold dS at HP
 rw [hk] at hput qR
 simp only [hk] at HP
 cases his:isL aA.name l (aA.name x) with
 | true=>
  rw [his] at hput
  simp only [his] at HP
  obtain⟨y,hy,hky⟩:=lJ his
  rw [hk] at hy
  have hkn:k<n:=by have:=(List.getElem?_eq_some_iff.1 hy).1; omega
  obtain⟨g,cap,hA,hcap⟩:=ho.form (by omega)
  injection hA with hA _ hc
  subst hA; subst hc
  rw [if_pos rfl] at hput
  have HS:=hid (fun W hb=>zX base g n c k l x w W ho hl hkn hb)
  rw [hput]
  clear hput hb1 hB1 his hy hky hk hl ho qR hs
  obtain⟨name,room,zone⟩:=x
  have iP:=hid (show Blk (w.alloc (.cells #[.string name,.int .i64 room,.string zone] 34)) w.heap.size 34 #[.string name,.int .i64 room,.string zone] from HB1.out)
  have b0:(w.alloc (.cells #[.string name,.int .i64 room,.string zone] 34)).cell? ⟨w.heap.size,0,none⟩=some (.string name):=iP.out.cell 0
  have b1:(w.alloc (.cells #[.string name,.int .i64 room,.string zone] 34)).cell? ⟨w.heap.size,1,none⟩=some (.int .i64 room):=iP.out.cell 1
  have b2:(w.alloc (.cells #[.string name,.int .i64 room,.string zone] 34)).cell? ⟨w.heap.size,2,none⟩=some (.string zone):=iP.out.cell 2
  show Calls Tryz.prog 156 #[.slice (some ⟨g,0,none⟩) n c,.agg #[.string name,.int .i64 room,.string zone],.func (.func 147) #[] #[]] w _
  have Hb1:=hid (show Below w.heap.size w (w.alloc (.cells #[.string name,.int .i64 room,.string zone] 34)) from Hb1.out)
  clear HB1
  go_enter Tryz.func156,Tryz.ntmps156
  go_wp2_with fail
  refine Calls.mono (fW name room zone _) ?_
  rintro e w2 ⟨rfl,hb2⟩
  have Hb2:=hid (Hb1.out.trans (hb2.mono Hb1.out.size))
  have HB2:=hid (iP.out.below hb2 iP.out.lt)
  clear hb2 b0 b1 b2
  go_wp2_with fail
  refine Calls.mono (HP.out _ Hb2.out) ?_
  rintro e w3 ⟨rfl,hb3⟩
  have Hb3:=hid (Hb2.out.trans (hb3.mono Hb2.out.size))
  have HB3:=hid (HB2.out.below hb3 HB2.out.lt)
  clear hb3 HB2
  obtain⟨hfz,hce,hend⟩:=HS.out w3 Hb3.out
  have d0:w3.cell? ⟨w.heap.size,0,none⟩=some (.string name):=HB3.out.cell 0
  have d1:w3.cell? ⟨w.heap.size,1,none⟩=some (.int .i64 room):=HB3.out.cell 1
  have d2:w3.cell? ⟨w.heap.size,2,none⟩=some (.string zone):=HB3.out.cell 2
  have f0:=hfz (k*3)
  obtain⟨u0,p0⟩:=hce (k*3) (by omega)
  have f1:=hfz (k*3+1)
  obtain⟨u1,p1⟩:=hce (k*3+1) (by omega)
  have f2:=hfz (k*3+2)
  obtain⟨u2,p2⟩:=hce (k*3+2) (by omega)
  have aP:=hid hend
  clear hfz hce hend
  go_wp2
  go_ret
  exact aP.out
 | false=>
  rw [his] at hput
  simp only [his] at HP
  rw [if_neg (by decide)] at hput
  rw [hput]
  have Hl:=hid hl
  clear hput hb1 hB1 his hk hl ho hs
  obtain⟨name,room,zone⟩:=x
  have iP:=hid (show Blk (w.alloc (.cells #[.string name,.int .i64 room,.string zone] 34)) w.heap.size 34 #[.string name,.int .i64 room,.string zone] from HB1.out)
  have b0:(w.alloc (.cells #[.string name,.int .i64 room,.string zone] 34)).cell? ⟨w.heap.size,0,none⟩=some (.string name):=iP.out.cell 0
  have b1:(w.alloc (.cells #[.string name,.int .i64 room,.string zone] 34)).cell? ⟨w.heap.size,1,none⟩=some (.int .i64 room):=iP.out.cell 1
  have b2:(w.alloc (.cells #[.string name,.int .i64 room,.string zone] 34)).cell? ⟨w.heap.size,2,none⟩=some (.string zone):=iP.out.cell 2
  show Calls Tryz.prog 156 #[.slice A n c,.agg #[.string name,.int .i64 room,.string zone],.func (.func 147) #[] #[]] w _
  have Hb1:=hid (show Below w.heap.size w (w.alloc (.cells #[.string name,.int .i64 room,.string zone] 34)) from Hb1.out)
  clear HB1
  go_enter Tryz.func156,Tryz.ntmps156
  go_wp2_with fail
  refine Calls.mono (fW name room zone _) ?_
  rintro e w2 ⟨rfl,hb2⟩
  have Hb2:=hid (Hb1.out.trans (hb2.mono Hb1.out.size))
  have HB2:=hid (iP.out.below hb2 iP.out.lt)
  clear hb2 b0 b1 b2
  go_wp2_with fail
  refine Calls.mono (HP.out _ Hb2.out) ?_
  rintro e w3 ⟨rfl,hb3⟩
  have Hb3:=hid (Hb2.out.trans (hb3.mono Hb2.out.size))
  have HB3:=hid (HB2.out.below hb3 HB2.out.lt)
  clear hb3 HB2
  have d0:w3.cell? ⟨w.heap.size,0,none⟩=some (.string name):=HB3.out.cell 0
  have d1:w3.cell? ⟨w.heap.size,1,none⟩=some (.int .i64 room):=HB3.out.cell 1
  have d2:w3.cell? ⟨w.heap.size,2,none⟩=some (.string zone):=HB3.out.cell 2
  have hb4:Below w.heap.size w (w3.alloc (.cells #[.string name,.int .i64 room,.string zone] 34)):=Hb3.out.alloc Hb3.out.size _
  have hB4:Blk (w3.alloc (.cells #[.string name,.int .i64 room,.string zone] 34)) w3.heap.size 34 (aB ⟨name,room,zone⟩).toArray:=heap_alloc_new w3 _
  have HI:=hid (FH base A n c w3.heap.size k l ⟨name,room,zone⟩ (w3.alloc (.cells #[.string name,.int .i64 room,.string zone] 34)) (ay Ho.out hb4) Hl.out (by omega) (by have:=Hl.out; omega) hB4 (fun q hq=>by have:=(Ho.out.lt q hq).2; have:=Hb3.out.size; omega) (Nat.le_trans hbase hb4.size))
  have Hb4:=hid hb4
  clear hb4 hB4
  go_wp2_with fail
  refine Calls.mono HI.out ?_
  rintro e w5 ⟨A',m,c',rfl,hm,ho',hg'⟩
  have aP:=hid (show aX aB base 34 3 A n c (l.take k ++ ⟨name,room,zone⟩ :: l.drop k) w (.returned (.slice A' m c')) w5 from ⟨A',m,c',rfl,hm,ho',bZ.after Hb4.out hg'⟩)
  clear hm ho' hg' d0 d1 d2
  go_wp2
  go_ret
  exact aP.out
theorem Bz (base:Nat) (A:Option Addr) (n c:Nat) (l:List aA) (s:ByteArray) (w:World) (ho:w.ownsRow base 34 3 (.slice A n c) n (au aB l)) (hl:l.length=n) (hn:n≤999) (hs:bG aA.name l) :
 Calls Tryz.prog 160 #[.slice A n c,.string s,.func (.func 147) #[] #[]] w (qQ aB base 34 3 A n c (l.filter fun a=>!decide (aA.name a=s)) (isL aA.name l s) w):=by
 have htp:=uV (s:=s) hs
 obtain⟨k,hk⟩:∃ k,dF aA.name l s=k:=⟨_,rfl⟩
 have HP:=hid (pW s l A n c w (cO ho) hl (by omega) hs)
 have Ho:=hid ho
 have Hl:=hid hl
 unfold dS at HP
 rw [hk] at htp
 simp only [hk] at HP
 cases his:isL aA.name l s with
 | true=>
  rw [his] at htp
  simp only [his] at HP
  obtain⟨y,hy,hky⟩:=lJ his
  rw [hk] at hy
  have hkn:k<n:=by have:=(List.getElem?_eq_some_iff.1 hy).1; omega
  obtain⟨g,cap,hA,hcap⟩:=ho.form (by omega)
  injection hA with hA _ hc
  subst hA; subst hc
  rw [if_pos rfl] at htp
  rw [htp]
  obtain⟨m,rfl⟩:∃ m,n=m+1:=⟨n - 1,by omega⟩
  have HD:=hid (fun W (hb:Below w.heap.size w W)=>FG base g m c k l W (ay ho hb) hl (by omega) (by omega))
  have hw1:IntKind.i64.wrap ((k:Int)+1)=(k:Int)+1:=by rw [IntKind.wrap_i64]; omega
  clear htp his hy hky hk hl ho hs
  go_enter Tryz.func160,Tryz.ntmps160
  go_wp2_with fail
  refine Calls.mono HP.out ?_
  rintro e w3 ⟨rfl,hb3⟩
  have Hb3:=hid hb3
  clear hb3
  go_wp2_with fail
  refine Calls.mono (HD.out _ Hb3.out) ?_
  rintro e w5 ⟨A',m',c',rfl,hm,ho',hg'⟩
  have aP:=hid (show qQ aB base 34 3 (some ⟨g,0,none⟩) (m+1) c (l.take k ++ l.drop (k+1)) true w (.returned (.tuple #[.slice A' m' c',.bool true])) w5 from ⟨A',m',c',rfl,hm,ho',bZ.after Hb3.out hg'⟩)
  clear hm ho' hg'
  go_wp2
  go_ret2
  exact aP.out
 | false=>
  rw [his] at htp
  simp only [his] at HP
  rw [if_neg (by decide)] at htp
  rw [htp]
  clear htp his hk hl ho hs
  go_enter Tryz.func160,Tryz.ntmps160
  go_wp2_with fail
  refine Calls.mono HP.out ?_
  rintro e w3 ⟨rfl,hb3⟩
  have aP:=hid (show qQ aB base 34 3 A n c l false w (.returned (.tuple #[.slice A n c,.bool false])) w3 from ⟨A,n,c,rfl,Hl.out.symm,ay Ho.out hb3,bZ.after hb3 (bZ.refl _ _)⟩)
  clear hb3
  go_wp2
  go_ret2
  exact aP.out
theorem BB (base g m c k:Nat) (l:List ak) (w:World) (ho:w.ownsRow base 36 3 (.slice (some ⟨g,0,none⟩) (m+1) c) (m+1) (au av l)) (hl:l.length=m+1) (hn:m+1≤1000) (hk:k<m) :
 Calls Tryz.prog 199 #[.slice (some ⟨g,0,none⟩) (m+1) c,.int .i64 k,.int .i64 ((k:Int)+1)] w (aX av base 36 3 (some ⟨g,0,none⟩) (m+1) c (l.take k ++ l.drop (k+1)) w):=by
 obtain⟨cur,hR,hnc,htk⟩:=cL.of ho
 have hc63:=hR.cap_
 unfold maxLen at hc63
 obtain⟨i0,hi0,hz0,hz1,hzb⟩:=info_parts lK
 have hinfo:(Tryz.prog.info? 36).map (·.size)=some 3:=by rw [hi0]; simp [hz1]
 have one:∀ v ∈ au av l,v.oneCell'=true:=fun v hv'=>by
  obtain⟨a,_,ha⟩:=List.mem_flatMap.1 hv'
  exact eQ a v ha
 obtain⟨L,hL⟩:∃ L,cur.toList=L:=⟨_,rfl⟩
 have hLl:L.length=c*3:=by rw [← hL,Array.length_toList,hR.size]
 obtain⟨C1,hC1⟩:∃ C1,(L.drop (k*3+3)).take ((m+1)*3 - (k*3+3))=C1:=⟨_,rfl⟩
 have lC1:C1.length=(m - k)*3:=by rw [← hC1,List.length_take,List.length_drop,hLl]; omega
 have m1C:∀ v ∈ C1,v ∈ au av l:=fun v hv'=>by
  rw [← hC1,← List.drop_take,← hL,htk] at hv'
  exact List.mem_of_mem_drop hv'
 obtain⟨aS,cQ⟩:∃ aS,(cur.toList.take (k*3) ++ C1 ++ cur.toList.drop (k*3+C1.length)).toArray=aS:=⟨_,rfl⟩
 have hap:∀ ty sc,(Builtin.append_ #[24,24] ty #[.slice (some ⟨g,0,none⟩) k c,.slice (some ⟨g,(k+1)*3,none⟩) (m - k) sc]).run Tryz.prog w.drew = .ok (.slice (some ⟨g,0,none⟩) m c) (w.drew.setRow g aS):=fun ty sc=>by
  have h:=kG (P:=Tryz.prog) w.drew 24 ty 36 3 Tryz.underlying24 hinfo g k c ⟨g,(k+1)*3,none⟩ (m - k) sc cur 36 C1 hR.blk lC1 (fun j v hj=>by
   refine hR.cells ((k+1)*3) j v ?_
   rw [hL,show (k+1)*3=k*3+3 by omega]
   rw [← hC1,List.getElem?_take] at hj
   split at hj
   · exact hj
   · cases hj) (by omega) (by rw [lC1,hR.size]; omega) (fun v hv'=>one v (m1C v hv'))
  rw [h,cQ,show k+(m - k)=m by omega]
 have hs1:aS.size=c*3:=by rw [← cQ]; simp only [List.size_toArray,List.length_append,List.length_take,List.length_drop,hL,hLl,lC1]; omega
 have hR1:cL (w.drew.setRow g aS) base 36 3 g c aS:=cL.set (w:=w.drew) ⟨hR.ge,hR.blk,hR.cap_,hR.size⟩ aS hs1
 obtain⟨W1,hW1⟩:∃ W1,w.drew.setRow g aS=W1:=⟨_,rfl⟩
 rw [hW1] at hap hR1
 obtain⟨Z,hZ⟩:∃ Z,(Builtin.zeroCells (Value.cells (.agg #[.string ⟨#[]⟩,.string ⟨#[]⟩,.int .i64 0])) 1).toList=Z:=⟨_,rfl⟩
 have lZ:Z.length=3:=by rw [← hZ,eH]; rfl
 obtain⟨aT,bM⟩:∃ aT,(aS.toList.take (m*3) ++ Z ++ aS.toList.drop (m*3+Z.length)).toArray=aT:=⟨_,rfl⟩
 have hcl:∀ ty cc,(Builtin.clear_ #[24] ty #[.slice (some ⟨g,m*3,none⟩) 1 cc]).run Tryz.prog W1 = .ok (.tuple #[]) (W1.setRow g aT):=fun ty cc=>by
  have h:=eY (P:=Tryz.prog) W1 24 36 ty (.agg #[.string ⟨#[]⟩,.string ⟨#[]⟩,.int .i64 0]) g (m*3) 1 cc Tryz.underlying24 Tryz.zeroValue36 (fH _ 1 (fun u hu=>eQ ⟨⟨#[]⟩,⟨#[]⟩,0⟩ u hu)) (by decide) aS 36 hR1.blk (by rw [hs1]; show m*3+1*3≤_; omega)
  rw [h,hZ,bM]
 have hs2:aT.size=c*3:=by rw [← bM]; simp only [List.size_toArray,List.length_append,List.length_take,List.length_drop,Array.length_toList,hs1,lZ]; omega
 have hfin:=(hR1.set aT hs2).own (n:=m) (by omega) (xs:=au av (l.take k ++ l.drop (k+1))) (by
  have h:=pZ (L:=L) (R:=au av l) (a:=k*3) (b:=(m+1)*3) (s:=3) (by omega) (by omega) (by rw [← hL]; exact htk)
  have e1:aT.toList.take (m*3)=aS.toList.take (m*3):=by
   have l1:(aS.toList.take (m*3)).length=m*3:=by
    have e:aS.toList.length=aS.size:=Array.length_toList
    rw [List.length_take]; omega
   rw [← bM,List.append_assoc,List.take_append_of_le_length (by omega),List.take_of_length_le (by omega)]
  rw [bU,← cI aG,← dU aG,show (k+1)*3=k*3+3 by omega,← h,e1,← cQ]
  simp only [hL,lC1]
  rw [← hC1,show (m+1)*3 - 3=m*3 by omega,show (m - k)*3=(m+1)*3 - (k*3+3) by omega])
 have hgr:bZ w (W1.setRow g aT) (.slice (some ⟨g,0,none⟩) (m+1) c) (.slice (some ⟨g,0,none⟩) m c):=by
  rw [← hW1]
  exact (eN w g (m+1) (m+1) c c aS).trans (jh _ g (m+1) m c c aT)
 have aP:=hid (show aX av base 36 3 (some ⟨g,0,none⟩) (m+1) c (l.take k ++ l.drop (k+1)) w (.returned (.slice (some ⟨g,0,none⟩) m c)) (W1.setRow g aT) from ⟨_,m,c,rfl,by rw [List.length_append,List.length_take,List.length_drop]; omega,hfin,hgr⟩)
 have hkk:((k:Int) == (k:Int)+1)=false:=by rw [beq_eq_false_iff_ne]; omega
 have hw1:(0:Int)≤(k:Int)+1:=by omega
 have htn:((k:Int)+1).toNat=k+1:=by omega
 have hb3:(k:Int)+1≤(m:Int)+1:=by omega
 have hb4:(k:Int)≤(m:Int)+1:=by omega
 have hb5:(k:Int)≤(k:Int)+1:=by omega
 have hcm:¬ c=m:=by omega
 have hkc:(k:Int)≤(c:Int):=by omega
 have hck:¬ c=k:=by omega
 have Hcl:=hid hcl
 clear hl hR htk ho hinfo hL hLl hC1 lC1 m1C one cQ hs1 hR1 hW1 hZ lZ hcl bM hs2 hfin hgr hi0 hz0 hz1 hzb
 have zW:¬ c=k+1:=by omega
 go_enter Tryz.func199,Tryz.ntmps199
 go_wp2
 go_region_law (refine jH rfl _ _ 24 24 rfl (.slice (some ⟨g,0,none⟩) k c) (.slice (some ⟨g,(k+1)*3,none⟩) (m - k) (c - (k+1))) rfl rfl (hap _ _) ?_)
 go_wp2_with (refine bY _ rfl _ 24 rfl _ rfl (Hcl.out _ _) ?_)
 go_ret
 exact aP.out
theorem BC (base g m c:Nat) (l:List ak) (w:World) (ho:w.ownsRow base 36 3 (.slice (some ⟨g,0,none⟩) (m+1) c) (m+1) (au av l)) (hl:l.length=m+1) (hn:m+1≤1000) :
 Calls Tryz.prog 199 #[.slice (some ⟨g,0,none⟩) (m+1) c,.int .i64 m,.int .i64 ((m:Int)+1)] w (aX av base 36 3 (some ⟨g,0,none⟩) (m+1) c (l.take m ++ l.drop (m+1)) w):=by
 obtain⟨cur,hR,hnc,htk⟩:=cL.of ho
 have hc63:=hR.cap_
 unfold maxLen at hc63
 obtain⟨Z,hZ⟩:∃ Z,(Builtin.zeroCells (Value.cells (.agg #[.string ⟨#[]⟩,.string ⟨#[]⟩,.int .i64 0])) 1).toList=Z:=⟨_,rfl⟩
 have lZ:Z.length=3:=by rw [← hZ,eH]; rfl
 obtain⟨aT,bM⟩:∃ aT,(cur.toList.take (m*3) ++ Z ++ cur.toList.drop (m*3+Z.length)).toArray=aT:=⟨_,rfl⟩
 have lc:cur.toList.length=c*3:=by rw [Array.length_toList,hR.size]
 have hcl:∀ ty cc,(Builtin.clear_ #[24] ty #[.slice (some ⟨g,m*3,none⟩) 1 cc]).run Tryz.prog w.drew = .ok (.tuple #[]) (w.drew.setRow g aT):=fun ty cc=>by
  have h:=eY (P:=Tryz.prog) w.drew 24 36 ty (.agg #[.string ⟨#[]⟩,.string ⟨#[]⟩,.int .i64 0]) g (m*3) 1 cc Tryz.underlying24 Tryz.zeroValue36 (fH _ 1 (fun u hu=>eQ ⟨⟨#[]⟩,⟨#[]⟩,0⟩ u hu)) (by decide) cur 36 hR.blk (by rw [hR.size]; show m*3+1*3≤_; omega)
  rw [h,hZ,bM]
 have hs2:aT.size=c*3:=by rw [← bM]; simp only [List.size_toArray,List.length_append,List.length_take,List.length_drop,lc,lZ]; omega
 have hR2:cL (w.drew.setRow g aT) base 36 3 g c aT:=cL.set (w:=w.drew) ⟨hR.ge,hR.blk,hR.cap_,hR.size⟩ aT hs2
 have hfin:=hR2.own (n:=m) (by omega) (xs:=au av (l.take m ++ l.drop (m+1))) (by
  rw [List.drop_eq_nil_of_le (by omega),List.append_nil,← cI aG,← htk,← bM,List.append_assoc,List.take_append_of_le_length (by rw [List.length_take]; omega),List.take_take,List.take_take,Nat.min_self,Nat.min_eq_left (by omega)])
 have aP:=hid (show aX av base 36 3 (some ⟨g,0,none⟩) (m+1) c (l.take m ++ l.drop (m+1)) w (.returned (.slice (some ⟨g,0,none⟩) m c)) (w.drew.setRow g aT) from ⟨_,m,c,rfl,by rw [List.length_append,List.length_take,List.length_drop]; omega,hfin,eN w g (m+1) m c c aT⟩)
 have hkk:((m:Int) == (m:Int)+1)=false:=by rw [beq_eq_false_iff_ne]; omega
 have hw1:(0:Int)≤(m:Int)+1:=by omega
 have htn:((m:Int)+1).toNat=m+1:=by omega
 have hb3:(m:Int)+1≤(m:Int)+1:=by omega
 have hb4:(m:Int)≤(m:Int)+1:=by omega
 have hcm:¬ c=m:=by omega
 have hkc:(m:Int)≤(c:Int):=by omega
 have Hcl:=hid hcl
 clear hl hR htk ho hZ lZ hcl bM hs2 hR2 hfin lc
 by_cases zW:c=m+1
 · subst zW
   go_enter Tryz.func199,Tryz.ntmps199
   go_wp2
   go_region
   go_wp2_with (refine bY _ rfl _ 24 rfl _ rfl (Hcl.out _ _) ?_)
   go_ret
   exact aP.out
 · go_enter Tryz.func199,Tryz.ntmps199
   go_wp2
   go_region
   go_wp2_with (refine bY _ rfl _ 24 rfl _ rfl (Hcl.out _ _) ?_)
   go_ret
   exact aP.out
theorem DO (base g m c k:Nat) (l:List ak) (w:World) (ho:w.ownsRow base 36 3 (.slice (some ⟨g,0,none⟩) (m+1) c) (m+1) (au av l)) (hl:l.length=m+1) (hn:m+1≤1000) (hk:k≤m) :
 Calls Tryz.prog 199 #[.slice (some ⟨g,0,none⟩) (m+1) c,.int .i64 k,.int .i64 ((k:Int)+1)] w (aX av base 36 3 (some ⟨g,0,none⟩) (m+1) c (l.take k ++ l.drop (k+1)) w):=by
 by_cases h:k=m
 · subst h; exact BC base g k c l w ho hl hn
 · exact BB base g m c k l w ho hl hn (by omega)
theorem qP (base g n c k:Nat) (l:List ak) (x:ak) (w W:World) (ho:w.ownsRow base 36 3 (.slice (some ⟨g,0,none⟩) n c) n (au av l)) (hl:l.length=n) (hk:k<n) (hb:Below w.heap.size w W) :
 (∀ j,W.frozen? ⟨g,j,none⟩=false)∧(∀ j,j<n*3→∃ u,W.cell? ⟨g,j,none⟩=some u)∧aX av base 36 3 (some ⟨g,0,none⟩) n c (l.take k ++ x :: l.drop (k+1)) w (.returned (.slice (some ⟨g,0,none⟩) n c)) (((W.setCell ⟨g,k*3,none⟩ (.string x.job)).setCell ⟨g,k*3+1,none⟩ (.string x.node)).setCell ⟨g,k*3+2,none⟩ (.int .i64 x.till)):=by
 obtain⟨cur,hR,hnc,htk⟩:=cL.of (ay ho hb)
 have lc:cur.toList.length=c*3:=by rw [Array.length_toList,hR.size]
 have hR':=(((hR.setCell (k*3) (.string x.job)).setCell (k*3+1) (.string x.node)).setCell (k*3+2) (.int .i64 x.till))
 have e0:(((cur.setIfInBounds (k*3) (.string x.job)).setIfInBounds (k*3+1) (.string x.node)).setIfInBounds (k*3+2) (.int .i64 x.till)).toList=cur.toList.take (k*3) ++ av x ++ cur.toList.drop (k*3+3):=by
  have h:=oZ (av x) cur.toList (k*3) (by rw [aG,lc]; omega)
  rw [aG] at h
  rw [← h]
  simp only [Array.toList_setIfInBounds]
  rfl
 refine⟨hR.thaw,fun j hj=>⟨_,hR.cell (List.getElem?_eq_getElem (by rw [lc]; omega))⟩,_,n,c,rfl,by rw [List.length_append,List.length_cons,List.length_take,List.length_drop,hl]; omega,hR'.own hnc ?_,bZ.after hb ((((dG g (k*3) n n c c (.string x.job)).trans (dG g (k*3+1) n n c c (.string x.node))).trans (dG g (k*3+2) n n c c (.int .i64 x.till))))⟩
 have h:=sB (L:=cur.toList) (X:=av x) (R:=au av l) (a:=k*3) (b:=n*3) (s:=3) (by omega) (by rw [lc]; omega) (aG x) htk
 rw [bU,show au av (x :: l.drop (k+1))=av x ++ au av (l.drop (k+1)) from rfl,← cI aG,← dU aG,← List.append_assoc,show (k+1)*3=k*3+3 by omega,← h,e0]
theorem BD (base:Nat) (A:Option Addr) (n c:Nat) (l:List ak) (x:ak) (w:World) (ho:w.ownsRow base 36 3 (.slice A n c) n (au av l)) (hl:l.length=n) (hn:n≤999) (hs:bG ak.job l) (hbase:base≤w.heap.size) :
 Calls Tryz.prog 198 #[.slice A n c,.agg (av x).toArray,.func (.func 150) #[] #[]] w (aX av base 36 3 A n c (j6 ak.job l x) w):=by
 have hput:=nZ (x:=x) hs
 have qR:=qS (key:=ak.job) l (ak.job x)
 have heg:=enters_of Tryz.func150 (by kernel_rfl) rfl
 obtain⟨k,hk⟩:∃ k,dF ak.job l (ak.job x)=k:=⟨_,rfl⟩
 have hb1:Below w.heap.size w (w.alloc (.cells (av x).toArray 36)):=(Below.refl _ _).alloc (Nat.le_refl _) _
 have hB1:Blk (w.alloc (.cells (av x).toArray 36)) w.heap.size 36 (av x).toArray:=heap_alloc_new w _
 have HP:=hid (fun W (hb:Below w.heap.size w W)=>nU (ak.job x) l A n c W (cO (ay ho hb)) hl (by omega) hs)
 have Ho:=hid ho
 have Hb1:=hid hb1
 have HB1:=hid hB1
 unfold dS at HP
 rw [hk] at hput qR
 simp only [hk] at HP
 cases his:isL ak.job l (ak.job x) with
 | true=>
  rw [his] at hput
  simp only [his] at HP
  obtain⟨y,hy,hky⟩:=lJ his
  rw [hk] at hy
  have hkn:k<n:=by have:=(List.getElem?_eq_some_iff.1 hy).1; omega
  obtain⟨g,cap,hA,hcap⟩:=ho.form (by omega)
  injection hA with hA _ hc
  subst hA; subst hc
  rw [if_pos rfl] at hput
  have HS:=hid (fun W hb=>qP base g n c k l x w W ho hl hkn hb)
  rw [hput]
  clear hput hb1 hB1 his hy hky hk hl ho qR hs
  obtain⟨job,node,till⟩:=x
  have iP:=hid (show Blk (w.alloc (.cells #[.string job,.string node,.int .i64 till] 36)) w.heap.size 36 #[.string job,.string node,.int .i64 till] from HB1.out)
  have b0:(w.alloc (.cells #[.string job,.string node,.int .i64 till] 36)).cell? ⟨w.heap.size,0,none⟩=some (.string job):=iP.out.cell 0
  have b1:(w.alloc (.cells #[.string job,.string node,.int .i64 till] 36)).cell? ⟨w.heap.size,1,none⟩=some (.string node):=iP.out.cell 1
  have b2:(w.alloc (.cells #[.string job,.string node,.int .i64 till] 36)).cell? ⟨w.heap.size,2,none⟩=some (.int .i64 till):=iP.out.cell 2
  show Calls Tryz.prog 198 #[.slice (some ⟨g,0,none⟩) n c,.agg #[.string job,.string node,.int .i64 till],.func (.func 150) #[] #[]] w _
  have Hb1:=hid (show Below w.heap.size w (w.alloc (.cells #[.string job,.string node,.int .i64 till] 36)) from Hb1.out)
  clear HB1
  go_enter Tryz.func198,Tryz.ntmps198
  go_wp2_with fail
  refine Calls.mono (eA job node till _) ?_
  rintro e w2 ⟨rfl,hb2⟩
  have Hb2:=hid (Hb1.out.trans (hb2.mono Hb1.out.size))
  have HB2:=hid (iP.out.below hb2 iP.out.lt)
  clear hb2 b0 b1 b2
  go_wp2_with fail
  refine Calls.mono (HP.out _ Hb2.out) ?_
  rintro e w3 ⟨rfl,hb3⟩
  have Hb3:=hid (Hb2.out.trans (hb3.mono Hb2.out.size))
  have HB3:=hid (HB2.out.below hb3 HB2.out.lt)
  clear hb3 HB2
  obtain⟨hfz,hce,hend⟩:=HS.out w3 Hb3.out
  have d0:w3.cell? ⟨w.heap.size,0,none⟩=some (.string job):=HB3.out.cell 0
  have d1:w3.cell? ⟨w.heap.size,1,none⟩=some (.string node):=HB3.out.cell 1
  have d2:w3.cell? ⟨w.heap.size,2,none⟩=some (.int .i64 till):=HB3.out.cell 2
  have f0:=hfz (k*3)
  obtain⟨u0,p0⟩:=hce (k*3) (by omega)
  have f1:=hfz (k*3+1)
  obtain⟨u1,p1⟩:=hce (k*3+1) (by omega)
  have f2:=hfz (k*3+2)
  obtain⟨u2,p2⟩:=hce (k*3+2) (by omega)
  have aP:=hid hend
  clear hfz hce hend
  go_wp2
  go_ret
  exact aP.out
 | false=>
  rw [his] at hput
  simp only [his] at HP
  rw [if_neg (by decide)] at hput
  rw [hput]
  have Hl:=hid hl
  clear hput hb1 hB1 his hk hl ho hs
  obtain⟨job,node,till⟩:=x
  have iP:=hid (show Blk (w.alloc (.cells #[.string job,.string node,.int .i64 till] 36)) w.heap.size 36 #[.string job,.string node,.int .i64 till] from HB1.out)
  have b0:(w.alloc (.cells #[.string job,.string node,.int .i64 till] 36)).cell? ⟨w.heap.size,0,none⟩=some (.string job):=iP.out.cell 0
  have b1:(w.alloc (.cells #[.string job,.string node,.int .i64 till] 36)).cell? ⟨w.heap.size,1,none⟩=some (.string node):=iP.out.cell 1
  have b2:(w.alloc (.cells #[.string job,.string node,.int .i64 till] 36)).cell? ⟨w.heap.size,2,none⟩=some (.int .i64 till):=iP.out.cell 2
  show Calls Tryz.prog 198 #[.slice A n c,.agg #[.string job,.string node,.int .i64 till],.func (.func 150) #[] #[]] w _
  have Hb1:=hid (show Below w.heap.size w (w.alloc (.cells #[.string job,.string node,.int .i64 till] 36)) from Hb1.out)
  clear HB1
  go_enter Tryz.func198,Tryz.ntmps198
  go_wp2_with fail
  refine Calls.mono (eA job node till _) ?_
  rintro e w2 ⟨rfl,hb2⟩
  have Hb2:=hid (Hb1.out.trans (hb2.mono Hb1.out.size))
  have HB2:=hid (iP.out.below hb2 iP.out.lt)
  clear hb2 b0 b1 b2
  go_wp2_with fail
  refine Calls.mono (HP.out _ Hb2.out) ?_
  rintro e w3 ⟨rfl,hb3⟩
  have Hb3:=hid (Hb2.out.trans (hb3.mono Hb2.out.size))
  have HB3:=hid (HB2.out.below hb3 HB2.out.lt)
  clear hb3 HB2
  have d0:w3.cell? ⟨w.heap.size,0,none⟩=some (.string job):=HB3.out.cell 0
  have d1:w3.cell? ⟨w.heap.size,1,none⟩=some (.string node):=HB3.out.cell 1
  have d2:w3.cell? ⟨w.heap.size,2,none⟩=some (.int .i64 till):=HB3.out.cell 2
  have hb4:Below w.heap.size w (w3.alloc (.cells #[.string job,.string node,.int .i64 till] 36)):=Hb3.out.alloc Hb3.out.size _
  have hB4:Blk (w3.alloc (.cells #[.string job,.string node,.int .i64 till] 36)) w3.heap.size 36 (av ⟨job,node,till⟩).toArray:=heap_alloc_new w3 _
  have HI:=hid (DP base A n c w3.heap.size k l ⟨job,node,till⟩ (w3.alloc (.cells #[.string job,.string node,.int .i64 till] 36)) (ay Ho.out hb4) Hl.out (by omega) (by have:=Hl.out; omega) hB4 (fun q hq=>by have:=(Ho.out.lt q hq).2; have:=Hb3.out.size; omega) (Nat.le_trans hbase hb4.size))
  have Hb4:=hid hb4
  clear hb4 hB4
  go_wp2_with fail
  refine Calls.mono HI.out ?_
  rintro e w5 ⟨A',m,c',rfl,hm,ho',hg'⟩
  have aP:=hid (show aX av base 36 3 A n c (l.take k ++ ⟨job,node,till⟩ :: l.drop k) w (.returned (.slice A' m c')) w5 from ⟨A',m,c',rfl,hm,ho',bZ.after Hb4.out hg'⟩)
  clear hm ho' hg' d0 d1 d2
  go_wp2
  go_ret
  exact aP.out
theorem zY (base:Nat) (A:Option Addr) (n c:Nat) (l:List ak) (s:ByteArray) (w:World) (ho:w.ownsRow base 36 3 (.slice A n c) n (au av l)) (hl:l.length=n) (hn:n≤999) (hs:bG ak.job l) :
 Calls Tryz.prog 163 #[.slice A n c,.string s,.func (.func 150) #[] #[]] w (qQ av base 36 3 A n c (l.filter fun a=>!decide (ak.job a=s)) (isL ak.job l s) w):=by
 have htp:=uV (s:=s) hs
 obtain⟨k,hk⟩:∃ k,dF ak.job l s=k:=⟨_,rfl⟩
 have HP:=hid (nU s l A n c w (cO ho) hl (by omega) hs)
 have Ho:=hid ho
 have Hl:=hid hl
 unfold dS at HP
 rw [hk] at htp
 simp only [hk] at HP
 cases his:isL ak.job l s with
 | true=>
  rw [his] at htp
  simp only [his] at HP
  obtain⟨y,hy,hky⟩:=lJ his
  rw [hk] at hy
  have hkn:k<n:=by have:=(List.getElem?_eq_some_iff.1 hy).1; omega
  obtain⟨g,cap,hA,hcap⟩:=ho.form (by omega)
  injection hA with hA _ hc
  subst hA; subst hc
  rw [if_pos rfl] at htp
  rw [htp]
  obtain⟨m,rfl⟩:∃ m,n=m+1:=⟨n - 1,by omega⟩
  have HD:=hid (fun W (hb:Below w.heap.size w W)=>DO base g m c k l W (ay ho hb) hl (by omega) (by omega))
  have hw1:IntKind.i64.wrap ((k:Int)+1)=(k:Int)+1:=by rw [IntKind.wrap_i64]; omega
  clear htp his hy hky hk hl ho hs
  go_enter Tryz.func163,Tryz.ntmps163
  go_wp2_with fail
  refine Calls.mono HP.out ?_
  rintro e w3 ⟨rfl,hb3⟩
  have Hb3:=hid hb3
  clear hb3
  go_wp2_with fail
  refine Calls.mono (HD.out _ Hb3.out) ?_
  rintro e w5 ⟨A',m',c',rfl,hm,ho',hg'⟩
  have aP:=hid (show qQ av base 36 3 (some ⟨g,0,none⟩) (m+1) c (l.take k ++ l.drop (k+1)) true w (.returned (.tuple #[.slice A' m' c',.bool true])) w5 from ⟨A',m',c',rfl,hm,ho',bZ.after Hb3.out hg'⟩)
  clear hm ho' hg'
  go_wp2
  go_ret2
  exact aP.out
 | false=>
  rw [his] at htp
  simp only [his] at HP
  rw [if_neg (by decide)] at htp
  rw [htp]
  clear htp his hk hl ho hs
  go_enter Tryz.func163,Tryz.ntmps163
  go_wp2_with fail
  refine Calls.mono HP.out ?_
  rintro e w3 ⟨rfl,hb3⟩
  have aP:=hid (show qQ av base 36 3 A n c l false w (.returned (.tuple #[.slice A n c,.bool false])) w3 from ⟨A,n,c,rfl,Hl.out.symm,ay Ho.out hb3,bZ.after hb3 (bZ.refl _ _)⟩)
  clear hb3
  go_wp2
  go_ret2
  exact aP.out
end Go.Proofs.YtbllgmociapjeaaGreatDoor
