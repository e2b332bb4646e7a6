/- Of the proof of a statement: Delete. -/
import Derived.Test.YtoeejfhdjmkpcaaGreatDoorUInsert
set_option linter.unusedVariables false
set_option linter.unusedSimpArgs false
set_option maxRecDepth 100000
set_option maxHeartbeats 8000000
/- slices.Delete of one row; serve.put and serve.take. -/
namespace Go.Proofs.YtoeejfhdjmkpcaaGreatDoor
open Go.Lib (hid)
open Go.RowKit
theorem cE.after {w w1 w2:World} {v v':Value} (hb:Below w.heap.size w w1) (hg:cE w1 w2 v v'):cE w w2 v v':=
 cE.trans ⟨⟨hb.os,hb.tape,hb.output,hb.size,fun k hk _=>hb.block k hk⟩,.inl rfl⟩ hg
def Ao (L:List Value) (o:Nat):List Value→List Value
 | []=>L
 | v :: r=>Ao (L.set o v) (o+1) r
theorem qo:∀ (xs L:List Value) (o:Nat),o+xs.length≤L.length→Ao L o xs=L.take o ++ xs ++ L.drop (o+xs.length)
 | [],L,o,_=>by simp [Ao]
 | v :: r,L,o,h=>by
  rw [List.length_cons] at h
  rw [Ao,qo r (L.set o v) (o+1) (by rw [List.length_set]; omega),list_seg_step L o v r h,List.length_cons]
theorem cS.setCell {w:World} {base g cap sz:Nat} {e:TypeId} {cur:Array Value} (h:cS w base e sz g cap cur) (i:Nat) (v:Value):cS (w.setCell ⟨g,i,none⟩ v) base e sz g cap (cur.setIfInBounds i v):=by
 rw [setCell_eq_setRow w g i cur e (0,0) v h.blk]
 exact h.set _ (by rw [Array.size_setIfInBounds]; exact h.size)
theorem cS.cell {w:World} {base g cap sz:Nat} {e:TypeId} {cur:Array Value} (h:cS w base e sz g cap cur) {i:Nat} {v:Value} (hv:cur.toList[i]? = some v):w.cell? ⟨g,i,none⟩=some v:=by
 rw [cell_of_row w g i cur e (0,0) h.blk,← Array.getElem?_toList]; exact hv
theorem cS.thaw {w:World} {base g cap sz:Nat} {e:TypeId} {cur:Array Value} (h:cS w base e sz g cap cur) (i:Nat):w.frozen? ⟨g,i,none⟩=false:=by
 have:=h.blk
 simp [World.frozen?,this]
theorem uK {L X R:List Value} {a b s:Nat} (hab:a+s≤b) (hb:b≤L.length) (hX:X.length=s) (hR:L.take b=R) :
 (L.take a ++ X ++ L.drop (a+s)).take b=R.take a ++ X ++ R.drop (a+s):=by
 have l1:(L.take a).length=a:=by rw [List.length_take]; omega
 rw [List.take_append,List.take_of_length_le (by rw [List.length_append,l1,hX]; omega),List.length_append,l1,hX,← hR,List.drop_take,List.take_take,Nat.min_eq_left (by omega)]
theorem dK {w:World} (g i n n' c c':Nat) (u:Value):cE w (w.setCell ⟨g,i,none⟩ u) (.slice (some ⟨g,0,none⟩) n c) (.slice (some ⟨g,0,none⟩) n' c'):=
 ⟨aF (World.grownBy.refl w (some g)) i u,.inl rfl⟩
def sQ {α:Type} (enc:α→List Value) (base:Nat) (T:TypeId) (sz:Nat) (A:Option Addr) (n c:Nat) (l:List α) (is:Bool) (w:World) (e:Ending) (w':World):Prop:=
 ∃ A' m c',e = .returned (.tuple #[.slice A' m c',.bool is])∧m=l.length∧w'.ownsRow base T sz (.slice A' m c') m (au enc l)∧cE w w' (.slice A n c) (.slice A' m c')
theorem G3 (base g m c k:Nat) (l:List aA) (w:World) (ho:w.ownsRow base 34 5 (.slice (some ⟨g,0,none⟩) (m+1) c) (m+1) (au aJ l)) (hl:l.length=m+1) (hn:m+1≤1000) (hk:k<m) :
 Calls Tryz.prog 240 #[.slice (some ⟨g,0,none⟩) (m+1) c,.int .i64 k,.int .i64 ((k:Int)+1)] w (bf aJ base 34 5 (some ⟨g,0,none⟩) (m+1) c (l.take k ++ l.drop (k+1)) w):=by
 obtain⟨cur,hR,hnc,htk⟩:=cS.of ho
 have hc63:=hR.cap_
 unfold maxLen at hc63
 obtain⟨i0,hi0,hz0,hz1,hzb⟩:=info_parts pC
 have hinfo:(Tryz.prog.info? 34).map (·.size)=some 5:=by rw [hi0]; simp [hz1]
 have one:∀ v ∈ au aJ l,v.oneCell'=true:=fun v hv'=>by
  obtain⟨a,_,ha⟩:=List.mem_flatMap.1 hv'
  exact iO a v ha
 obtain⟨L,hL⟩:∃ L,cur.toList=L:=⟨_,rfl⟩
 have hLl:L.length=c*5:=by rw [← hL,Array.length_toList,hR.size]
 obtain⟨C1,hC1⟩:∃ C1,(L.drop (k*5+5)).take ((m+1)*5 - (k*5+5))=C1:=⟨_,rfl⟩
 have lC1:C1.length=(m - k)*5:=by rw [← hC1,List.length_take,List.length_drop,hLl]; omega
 have m1C:∀ v ∈ C1,v ∈ au aJ l:=fun v hv'=>by
  rw [← hC1,← List.drop_take,← hL,htk] at hv'
  exact List.mem_of_mem_drop hv'
 obtain⟨aW,cX⟩:∃ aW,(cur.toList.take (k*5) ++ C1 ++ cur.toList.drop (k*5+C1.length)).toArray=aW:=⟨_,rfl⟩
 have hap:∀ ty sc,(Builtin.append_ #[22,22] ty #[.slice (some ⟨g,0,none⟩) k c,.slice (some ⟨g,(k+1)*5,none⟩) (m - k) sc]).run Tryz.prog w.drew = .ok (.slice (some ⟨g,0,none⟩) m c) (w.drew.setRow g aW):=fun ty sc=>by
  have h:=kQ (P:=Tryz.prog) w.drew 22 ty 34 5 Tryz.underlying22 hinfo g k c ⟨g,(k+1)*5,none⟩ (m - k) sc cur 34 C1 hR.blk lC1 (fun j v hj=>by
   refine hR.cells ((k+1)*5) j v ?_
   rw [hL,show (k+1)*5=k*5+5 by omega]
   rw [← hC1,List.getElem?_take] at hj
   split at hj
   · exact hj
   · cases hj) (by omega) (by rw [lC1,hR.size]; omega) (fun v hv'=>one v (m1C v hv'))
  rw [h,cX,show k+(m - k)=m by omega]
 have hs1:aW.size=c*5:=by rw [← cX]; simp only [List.size_toArray,List.length_append,List.length_take,List.length_drop,hL,hLl,lC1]; omega
 have hR1:cS (w.drew.setRow g aW) base 34 5 g c aW:=cS.set (w:=w.drew) ⟨hR.ge,hR.blk,hR.cap_,hR.size⟩ aW hs1
 obtain⟨W1,hW1⟩:∃ W1,w.drew.setRow g aW=W1:=⟨_,rfl⟩
 rw [hW1] at hap hR1
 obtain⟨Z,hZ⟩:∃ Z,(Builtin.zeroCells (Value.cells (.agg #[.string ⟨#[]⟩,.int .i64 0,.int .i64 0,.int .i64 0,.string ⟨#[]⟩])) 1).toList=Z:=⟨_,rfl⟩
 have lZ:Z.length=5:=by rw [← hZ,eE]; rfl
 obtain⟨aX,bP⟩:∃ aX,(aW.toList.take (m*5) ++ Z ++ aW.toList.drop (m*5+Z.length)).toArray=aX:=⟨_,rfl⟩
 have hcl:∀ ty cc,(Builtin.clear_ #[22] ty #[.slice (some ⟨g,m*5,none⟩) 1 cc]).run Tryz.prog W1 = .ok (.tuple #[]) (W1.setRow g aX):=fun ty cc=>by
  have h:=eW (P:=Tryz.prog) W1 22 34 ty (.agg #[.string ⟨#[]⟩,.int .i64 0,.int .i64 0,.int .i64 0,.string ⟨#[]⟩]) g (m*5) 1 cc Tryz.underlying22 Tryz.zeroValue34 (fO _ 1 (fun u hu=>iO ⟨⟨#[]⟩,0,0,0,⟨#[]⟩⟩ u hu)) (by decide) aW 34 hR1.blk (by rw [hs1]; show m*5+1*5≤_; omega)
  rw [h,hZ,bP]
 have hs2:aX.size=c*5:=by rw [← bP]; simp only [List.size_toArray,List.length_append,List.length_take,List.length_drop,Array.length_toList,hs1,lZ]; omega
 have hfin:=(hR1.set aX hs2).own (n:=m) (by omega) (xs:=au aJ (l.take k ++ l.drop (k+1))) (by
  have h:=rA (L:=L) (R:=au aJ l) (a:=k*5) (b:=(m+1)*5) (s:=5) (by omega) (by omega) (by rw [← hL]; exact htk)
  have e1:aX.toList.take (m*5)=aW.toList.take (m*5):=by
   have l1:(aW.toList.take (m*5)).length=m*5:=by
    have e:aW.toList.length=aW.size:=Array.length_toList
    rw [List.length_take]; omega
   rw [← bP,List.append_assoc,List.take_append_of_le_length (by omega),List.take_of_length_le (by omega)]
  rw [bS,← cN aP,← dX aP,show (k+1)*5=k*5+5 by omega,← h,e1,← cX]
  simp only [hL,lC1]
  rw [← hC1,show (m+1)*5 - 5=m*5 by omega,show (m - k)*5=(m+1)*5 - (k*5+5) by omega])
 have hgr:cE w (W1.setRow g aX) (.slice (some ⟨g,0,none⟩) (m+1) c) (.slice (some ⟨g,0,none⟩) m c):=by
  rw [← hW1]
  exact (eK w g (m+1) (m+1) c c aW).trans (jD _ g (m+1) m c c aX)
 have aS:=hid (show bf aJ base 34 5 (some ⟨g,0,none⟩) (m+1) c (l.take k ++ l.drop (k+1)) w (.returned (.slice (some ⟨g,0,none⟩) m c)) (W1.setRow g aX) from ⟨_,m,c,rfl,by rw [List.length_append,List.length_take,List.length_drop]; omega,hfin,hgr⟩)
 have hkk:((k:Int) == (k:Int)+1)=false:=by rw [beq_eq_false_iff_ne]; omega
 have hw1:(0:Int)≤(k:Int)+1:=by omega
 have htn:((k:Int)+1).toNat=k+1:=by omega
 have hb3:(k:Int)+1≤(m:Int)+1:=by omega
 have hb4:(k:Int)≤(m:Int)+1:=by omega
 have hb5:(k:Int)≤(k:Int)+1:=by omega
 have hcm:¬ c=m:=by omega
 have hkc:(k:Int)≤(c:Int):=by omega
 have hck:¬ c=k:=by omega
 have Hcl:=hid hcl
 clear hl hR htk ho hinfo hL hLl hC1 lC1 m1C one cX hs1 hR1 hW1 hZ lZ hcl bP hs2 hfin hgr hi0 hz0 hz1 hzb
 have Bs:¬ c=k+1:=by omega
 go_enter Tryz.func240,Tryz.ntmps240
 go_wp2
 go_region_law (refine jV rfl _ _ 22 22 rfl (.slice (some ⟨g,0,none⟩) k c) (.slice (some ⟨g,(k+1)*5,none⟩) (m - k) (c - (k+1))) rfl rfl (hap _ _) ?_)
 go_wp2_with (refine bY _ rfl _ 22 rfl _ rfl (Hcl.out _ _) ?_)
 go_ret
 exact aS.out
theorem G4 (base g m c:Nat) (l:List aA) (w:World) (ho:w.ownsRow base 34 5 (.slice (some ⟨g,0,none⟩) (m+1) c) (m+1) (au aJ l)) (hl:l.length=m+1) (hn:m+1≤1000) :
 Calls Tryz.prog 240 #[.slice (some ⟨g,0,none⟩) (m+1) c,.int .i64 m,.int .i64 ((m:Int)+1)] w (bf aJ base 34 5 (some ⟨g,0,none⟩) (m+1) c (l.take m ++ l.drop (m+1)) w):=by
 obtain⟨cur,hR,hnc,htk⟩:=cS.of ho
 have hc63:=hR.cap_
 unfold maxLen at hc63
 obtain⟨Z,hZ⟩:∃ Z,(Builtin.zeroCells (Value.cells (.agg #[.string ⟨#[]⟩,.int .i64 0,.int .i64 0,.int .i64 0,.string ⟨#[]⟩])) 1).toList=Z:=⟨_,rfl⟩
 have lZ:Z.length=5:=by rw [← hZ,eE]; rfl
 obtain⟨aX,bP⟩:∃ aX,(cur.toList.take (m*5) ++ Z ++ cur.toList.drop (m*5+Z.length)).toArray=aX:=⟨_,rfl⟩
 have lc:cur.toList.length=c*5:=by rw [Array.length_toList,hR.size]
 have hcl:∀ ty cc,(Builtin.clear_ #[22] ty #[.slice (some ⟨g,m*5,none⟩) 1 cc]).run Tryz.prog w.drew = .ok (.tuple #[]) (w.drew.setRow g aX):=fun ty cc=>by
  have h:=eW (P:=Tryz.prog) w.drew 22 34 ty (.agg #[.string ⟨#[]⟩,.int .i64 0,.int .i64 0,.int .i64 0,.string ⟨#[]⟩]) g (m*5) 1 cc Tryz.underlying22 Tryz.zeroValue34 (fO _ 1 (fun u hu=>iO ⟨⟨#[]⟩,0,0,0,⟨#[]⟩⟩ u hu)) (by decide) cur 34 hR.blk (by rw [hR.size]; show m*5+1*5≤_; omega)
  rw [h,hZ,bP]
 have hs2:aX.size=c*5:=by rw [← bP]; simp only [List.size_toArray,List.length_append,List.length_take,List.length_drop,lc,lZ]; omega
 have hR2:cS (w.drew.setRow g aX) base 34 5 g c aX:=cS.set (w:=w.drew) ⟨hR.ge,hR.blk,hR.cap_,hR.size⟩ aX hs2
 have hfin:=hR2.own (n:=m) (by omega) (xs:=au aJ (l.take m ++ l.drop (m+1))) (by
  rw [List.drop_eq_nil_of_le (by omega),List.append_nil,← cN aP,← htk,← bP,List.append_assoc,List.take_append_of_le_length (by rw [List.length_take]; omega),List.take_take,List.take_take,Nat.min_self,Nat.min_eq_left (by omega)])
 have aS:=hid (show bf aJ base 34 5 (some ⟨g,0,none⟩) (m+1) c (l.take m ++ l.drop (m+1)) w (.returned (.slice (some ⟨g,0,none⟩) m c)) (w.drew.setRow g aX) from ⟨_,m,c,rfl,by rw [List.length_append,List.length_take,List.length_drop]; omega,hfin,eK w g (m+1) m c c aX⟩)
 have hkk:((m:Int) == (m:Int)+1)=false:=by rw [beq_eq_false_iff_ne]; omega
 have hw1:(0:Int)≤(m:Int)+1:=by omega
 have htn:((m:Int)+1).toNat=m+1:=by omega
 have hb3:(m:Int)+1≤(m:Int)+1:=by omega
 have hb4:(m:Int)≤(m:Int)+1:=by omega
 have hcm:¬ c=m:=by omega
 have hkc:(m:Int)≤(c:Int):=by omega
 have Hcl:=hid hcl
 clear hl hR htk ho hZ lZ hcl bP hs2 hR2 hfin lc
 by_cases Bs:c=m+1
 · subst Bs
   go_enter Tryz.func240,Tryz.ntmps240
   go_wp2
   go_region
   go_wp2_with (refine bY _ rfl _ 22 rfl _ rfl (Hcl.out _ _) ?_)
   go_ret
   exact aS.out
 · go_enter Tryz.func240,Tryz.ntmps240
   go_wp2
   go_region
   go_wp2_with (refine bY _ rfl _ 22 rfl _ rfl (Hcl.out _ _) ?_)
   go_ret
   exact aS.out
theorem JR (base g m c k:Nat) (l:List aA) (w:World) (ho:w.ownsRow base 34 5 (.slice (some ⟨g,0,none⟩) (m+1) c) (m+1) (au aJ l)) (hl:l.length=m+1) (hn:m+1≤1000) (hk:k≤m) :
 Calls Tryz.prog 240 #[.slice (some ⟨g,0,none⟩) (m+1) c,.int .i64 k,.int .i64 ((k:Int)+1)] w (bf aJ base 34 5 (some ⟨g,0,none⟩) (m+1) c (l.take k ++ l.drop (k+1)) w):=by
 by_cases h:k=m
 · subst h; exact G4 base g k c l w ho hl hn
 · exact G3 base g m c k l w ho hl hn (by omega)
theorem CT (base g n c k:Nat) (l:List aA) (x:aA) (w W:World) (ho:w.ownsRow base 34 5 (.slice (some ⟨g,0,none⟩) n c) n (au aJ l)) (hl:l.length=n) (hk:k<n) (hb:Below w.heap.size w W) :
 (∀ j,W.frozen? ⟨g,j,none⟩=false)∧(∀ j,j<n*5→∃ u,W.cell? ⟨g,j,none⟩=some u)∧bf aJ base 34 5 (some ⟨g,0,none⟩) n c (l.take k ++ x :: l.drop (k+1)) w (.returned (.slice (some ⟨g,0,none⟩) n c)) (((((W.setCell ⟨g,k*5,none⟩ (.string x.name)).setCell ⟨g,k*5+1,none⟩ (.int .i64 x.prio)).setCell ⟨g,k*5+2,none⟩ (.int .i64 x.need)).setCell ⟨g,k*5+3,none⟩ (.int .i64 x.tries)).setCell ⟨g,k*5+4,none⟩ (.string x.tag)):=by
 obtain⟨cur,hR,hnc,htk⟩:=cS.of (aC ho hb)
 have lc:cur.toList.length=c*5:=by rw [Array.length_toList,hR.size]
 have hR':=(((((hR.setCell (k*5) (.string x.name)).setCell (k*5+1) (.int .i64 x.prio)).setCell (k*5+2) (.int .i64 x.need)).setCell (k*5+3) (.int .i64 x.tries)).setCell (k*5+4) (.string x.tag))
 have e0:(((((cur.setIfInBounds (k*5) (.string x.name)).setIfInBounds (k*5+1) (.int .i64 x.prio)).setIfInBounds (k*5+2) (.int .i64 x.need)).setIfInBounds (k*5+3) (.int .i64 x.tries)).setIfInBounds (k*5+4) (.string x.tag)).toList=cur.toList.take (k*5) ++ aJ x ++ cur.toList.drop (k*5+5):=by
  have h:=qo (aJ x) cur.toList (k*5) (by rw [aP,lc]; omega)
  rw [aP] at h
  rw [← h]
  simp only [Array.toList_setIfInBounds]
  rfl
 refine⟨hR.thaw,fun j hj=>⟨_,hR.cell (List.getElem?_eq_getElem (by rw [lc]; omega))⟩,_,n,c,rfl,by rw [List.length_append,List.length_cons,List.length_take,List.length_drop,hl]; omega,hR'.own hnc ?_,cE.after hb ((((((dK g (k*5) n n c c (.string x.name)).trans (dK g (k*5+1) n n c c (.int .i64 x.prio))).trans (dK g (k*5+2) n n c c (.int .i64 x.need))).trans (dK g (k*5+3) n n c c (.int .i64 x.tries))).trans (dK g (k*5+4) n n c c (.string x.tag))))⟩
 have h:=uK (L:=cur.toList) (X:=aJ x) (R:=au aJ l) (a:=k*5) (b:=n*5) (s:=5) (by omega) (by rw [lc]; omega) (aP x) htk
 rw [bS,show au aJ (x :: l.drop (k+1))=aJ x ++ au aJ (l.drop (k+1)) from rfl,← cN aP,← dX aP,← List.append_assoc,show (k+1)*5=k*5+5 by omega,← h,e0]
theorem G5 (base:Nat) (A:Option Addr) (n c:Nat) (l:List aA) (x:aA) (w:World) (ho:w.ownsRow base 34 5 (.slice A n c) n (au aJ l)) (hl:l.length=n) (hn:n≤999) (hs:aK aA.name l) (hbase:base≤w.heap.size) :
 Calls Tryz.prog 135 #[.slice A n c,.agg (aJ x).toArray,.func (.func 83) #[] #[]] w (bf aJ base 34 5 A n c (iN aA.name l x) w):=by
 have hput:=oZ (x:=x) hs
 have sR:=sL (key:=aA.name) l (aA.name x)
 have heg:=enters_of Tryz.func83 (by kernel_rfl) rfl
 obtain⟨k,hk⟩:∃ k,dG aA.name l (aA.name x)=k:=⟨_,rfl⟩
 have hb1:Below w.heap.size w (w.alloc (.cells (aJ x).toArray 34)):=(Below.refl _ _).alloc (Nat.le_refl _) _
 have hB1:Blk (w.alloc (.cells (aJ x).toArray 34)) w.heap.size 34 (aJ x).toArray:=heap_alloc_new w _
 have HP:=hid (fun W (hb:Below w.heap.size w W)=>uo (aA.name x) l A n c W (cP (aC ho hb)) hl (by omega) hs)
 have Ho:=hid ho
 have Hb1:=hid hb1
 have HB1:=hid hB1
 unfold dU at HP
 rw [hk] at hput sR
 simp only [hk] at HP
 cases his:isL aA.name l (aA.name x) with
 | true=>
  rw [his] at hput
  simp only [his] at HP
  obtain⟨y,hy,hky⟩:=l7 his
  rw [hk] at hy
  have hkn:k<n:=by have:=(List.getElem?_eq_some_iff.1 hy).1; omega
  obtain⟨g,cap,hA,hcap⟩:=ho.form (by omega)
  injection hA with hA _ hc
  subst hA; subst hc
  rw [if_pos rfl] at hput
  have HS:=hid (fun W hb=>CT base g n c k l x w W ho hl hkn hb)
  rw [hput]
  clear hput hb1 hB1 his hy hky hk hl ho sR hs
  obtain⟨name,prio,need,tries,tag⟩:=x
  have jo:=hid (show Blk (w.alloc (.cells #[.string name,.int .i64 prio,.int .i64 need,.int .i64 tries,.string tag] 34)) w.heap.size 34 #[.string name,.int .i64 prio,.int .i64 need,.int .i64 tries,.string tag] from HB1.out)
  obtain⟨b0,b1,b2,b3,b4⟩:=Blk.c5 (jo.out)
  show Calls Tryz.prog 135 #[.slice (some ⟨g,0,none⟩) n c,.agg #[.string name,.int .i64 prio,.int .i64 need,.int .i64 tries,.string tag],.func (.func 83) #[] #[]] w _
  have Hb1:=hid (show Below w.heap.size w (w.alloc (.cells #[.string name,.int .i64 prio,.int .i64 need,.int .i64 tries,.string tag] 34)) from Hb1.out)
  clear HB1
  go_enter Tryz.func135,Tryz.ntmps135
  go_wp2_with fail
  refine Calls.mono (fL name prio need tries tag _) ?_
  rintro e w2 ⟨rfl,hb2⟩
  have Hb2:=hid (Hb1.out.trans (hb2.mono Hb1.out.size))
  have HB2:=hid (jo.out.below hb2 jo.out.lt)
  clear hb2 b0 b1 b2 b3 b4
  go_wp2_with fail
  refine Calls.mono (HP.out _ Hb2.out) ?_
  rintro e w3 ⟨rfl,hb3⟩
  have Hb3:=hid (Hb2.out.trans (hb3.mono Hb2.out.size))
  have HB3:=hid (HB2.out.below hb3 HB2.out.lt)
  clear hb3 HB2
  obtain⟨hfz,hce,hend⟩:=HS.out w3 Hb3.out
  obtain⟨d0,d1,d2,d3,d4⟩:=Blk.c5 (HB3.out)
  have f0:=hfz (k*5)
  obtain⟨u0,p0⟩:=hce (k*5) (by omega)
  have f1:=hfz (k*5+1)
  obtain⟨u1,p1⟩:=hce (k*5+1) (by omega)
  have f2:=hfz (k*5+2)
  obtain⟨u2,p2⟩:=hce (k*5+2) (by omega)
  have f3:=hfz (k*5+3)
  obtain⟨u3,p3⟩:=hce (k*5+3) (by omega)
  have f4:=hfz (k*5+4)
  obtain⟨u4,p4⟩:=hce (k*5+4) (by omega)
  have aS:=hid hend
  clear hfz hce hend
  go_wp2
  go_ret
  exact aS.out
 | false=>
  rw [his] at hput
  simp only [his] at HP
  rw [if_neg (by decide)] at hput
  rw [hput]
  have Hl:=hid hl
  clear hput hb1 hB1 his hk hl ho hs
  obtain⟨name,prio,need,tries,tag⟩:=x
  have jo:=hid (show Blk (w.alloc (.cells #[.string name,.int .i64 prio,.int .i64 need,.int .i64 tries,.string tag] 34)) w.heap.size 34 #[.string name,.int .i64 prio,.int .i64 need,.int .i64 tries,.string tag] from HB1.out)
  obtain⟨b0,b1,b2,b3,b4⟩:=Blk.c5 (jo.out)
  show Calls Tryz.prog 135 #[.slice A n c,.agg #[.string name,.int .i64 prio,.int .i64 need,.int .i64 tries,.string tag],.func (.func 83) #[] #[]] w _
  have Hb1:=hid (show Below w.heap.size w (w.alloc (.cells #[.string name,.int .i64 prio,.int .i64 need,.int .i64 tries,.string tag] 34)) from Hb1.out)
  clear HB1
  go_enter Tryz.func135,Tryz.ntmps135
  go_wp2_with fail
  refine Calls.mono (fL name prio need tries tag _) ?_
  rintro e w2 ⟨rfl,hb2⟩
  have Hb2:=hid (Hb1.out.trans (hb2.mono Hb1.out.size))
  have HB2:=hid (jo.out.below hb2 jo.out.lt)
  clear hb2 b0 b1 b2 b3 b4
  go_wp2_with fail
  refine Calls.mono (HP.out _ Hb2.out) ?_
  rintro e w3 ⟨rfl,hb3⟩
  have Hb3:=hid (Hb2.out.trans (hb3.mono Hb2.out.size))
  have HB3:=hid (HB2.out.below hb3 HB2.out.lt)
  clear hb3 HB2
  obtain⟨d0,d1,d2,d3,d4⟩:=Blk.c5 (HB3.out)
  have hb4:Below w.heap.size w (w3.alloc (.cells #[.string name,.int .i64 prio,.int .i64 need,.int .i64 tries,.string tag] 34)):=Hb3.out.alloc Hb3.out.size _
  have hB4:Blk (w3.alloc (.cells #[.string name,.int .i64 prio,.int .i64 need,.int .i64 tries,.string tag] 34)) w3.heap.size 34 (aJ ⟨name,prio,need,tries,tag⟩).toArray:=heap_alloc_new w3 _
  have HI:=hid (JS base A n c w3.heap.size k l ⟨name,prio,need,tries,tag⟩ (w3.alloc (.cells #[.string name,.int .i64 prio,.int .i64 need,.int .i64 tries,.string tag] 34)) (aC Ho.out hb4) Hl.out (by omega) (by have:=Hl.out; omega) hB4 (fun q hq=>by have:=(Ho.out.lt q hq).2; have:=Hb3.out.size; omega) (Nat.le_trans hbase hb4.size))
  have Hb4:=hid hb4
  clear hb4 hB4
  go_wp2_with fail
  refine Calls.mono HI.out ?_
  rintro e w5 ⟨A',m,c',rfl,hm,ho',hg'⟩
  have aS:=hid (show bf aJ base 34 5 A n c (l.take k ++ ⟨name,prio,need,tries,tag⟩ :: l.drop k) w (.returned (.slice A' m c')) w5 from ⟨A',m,c',rfl,hm,ho',cE.after Hb4.out hg'⟩)
  clear hm ho' hg' d0 d1 d2 d3 d4
  go_wp2
  go_ret
  exact aS.out
theorem Fd (base:Nat) (A:Option Addr) (n c:Nat) (l:List aA) (s:ByteArray) (w:World) (ho:w.ownsRow base 34 5 (.slice A n c) n (au aJ l)) (hl:l.length=n) (hn:n≤999) (hs:aK aA.name l) :
 Calls Tryz.prog 137 #[.slice A n c,.string s,.func (.func 83) #[] #[]] w (sQ aJ base 34 5 A n c (l.filter fun a=>!decide (aA.name a=s)) (isL aA.name l s) w):=by
 have htp:=xD (s:=s) hs
 obtain⟨k,hk⟩:∃ k,dG aA.name l s=k:=⟨_,rfl⟩
 have HP:=hid (uo s l A n c w (cP ho) hl (by omega) hs)
 have Ho:=hid ho
 have Hl:=hid hl
 unfold dU at HP
 rw [hk] at htp
 simp only [hk] at HP
 cases his:isL aA.name l s with
 | true=>
  rw [his] at htp
  simp only [his] at HP
  obtain⟨y,hy,hky⟩:=l7 his
  rw [hk] at hy
  have hkn:k<n:=by have:=(List.getElem?_eq_some_iff.1 hy).1; omega
  obtain⟨g,cap,hA,hcap⟩:=ho.form (by omega)
  injection hA with hA _ hc
  subst hA; subst hc
  rw [if_pos rfl] at htp
  rw [htp]
  obtain⟨m,rfl⟩:∃ m,n=m+1:=⟨n - 1,by omega⟩
  have HD:=hid (fun W (hb:Below w.heap.size w W)=>JR base g m c k l W (aC ho hb) hl (by omega) (by omega))
  have hw1:IntKind.i64.wrap ((k:Int)+1)=(k:Int)+1:=by rw [IntKind.wrap_i64]; omega
  clear htp his hy hky hk hl ho hs
  go_enter Tryz.func137,Tryz.ntmps137
  go_wp2_with fail
  refine Calls.mono HP.out ?_
  rintro e w3 ⟨rfl,hb3⟩
  have Hb3:=hid hb3
  clear hb3
  go_wp2_with fail
  refine Calls.mono (HD.out _ Hb3.out) ?_
  rintro e w5 ⟨A',m',c',rfl,hm,ho',hg'⟩
  have aS:=hid (show sQ aJ base 34 5 (some ⟨g,0,none⟩) (m+1) c (l.take k ++ l.drop (k+1)) true w (.returned (.tuple #[.slice A' m' c',.bool true])) w5 from ⟨A',m',c',rfl,hm,ho',cE.after Hb3.out hg'⟩)
  clear hm ho' hg'
  go_wp2
  go_ret2
  exact aS.out
 | false=>
  rw [his] at htp
  simp only [his] at HP
  rw [if_neg (by decide)] at htp
  rw [htp]
  clear htp his hk hl ho hs
  go_enter Tryz.func137,Tryz.ntmps137
  go_wp2_with fail
  refine Calls.mono HP.out ?_
  rintro e w3 ⟨rfl,hb3⟩
  have aS:=hid (show sQ aJ base 34 5 A n c l false w (.returned (.tuple #[.slice A n c,.bool false])) w3 from ⟨A,n,c,rfl,Hl.out.symm,aC Ho.out hb3,cE.after hb3 (cE.refl _ _)⟩)
  clear hb3
  go_wp2
  go_ret2
  exact aS.out
theorem Fe (base g m c k:Nat) (l:List av) (w:World) (ho:w.ownsRow base 36 3 (.slice (some ⟨g,0,none⟩) (m+1) c) (m+1) (au aB l)) (hl:l.length=m+1) (hn:m+1≤1000) (hk:k<m) :
 Calls Tryz.prog 242 #[.slice (some ⟨g,0,none⟩) (m+1) c,.int .i64 k,.int .i64 ((k:Int)+1)] w (bf aB base 36 3 (some ⟨g,0,none⟩) (m+1) c (l.take k ++ l.drop (k+1)) w):=by
 obtain⟨cur,hR,hnc,htk⟩:=cS.of ho
 have hc63:=hR.cap_
 unfold maxLen at hc63
 obtain⟨i0,hi0,hz0,hz1,hzb⟩:=info_parts nF
 have hinfo:(Tryz.prog.info? 36).map (·.size)=some 3:=by rw [hi0]; simp [hz1]
 have one:∀ v ∈ au aB l,v.oneCell'=true:=fun v hv'=>by
  obtain⟨a,_,ha⟩:=List.mem_flatMap.1 hv'
  exact gE a v ha
 obtain⟨L,hL⟩:∃ L,cur.toList=L:=⟨_,rfl⟩
 have hLl:L.length=c*3:=by rw [← hL,Array.length_toList,hR.size]
 obtain⟨C1,hC1⟩:∃ C1,(L.drop (k*3+3)).take ((m+1)*3 - (k*3+3))=C1:=⟨_,rfl⟩
 have lC1:C1.length=(m - k)*3:=by rw [← hC1,List.length_take,List.length_drop,hLl]; omega
 have m1C:∀ v ∈ C1,v ∈ au aB l:=fun v hv'=>by
  rw [← hC1,← List.drop_take,← hL,htk] at hv'
  exact List.mem_of_mem_drop hv'
 obtain⟨aW,cX⟩:∃ aW,(cur.toList.take (k*3) ++ C1 ++ cur.toList.drop (k*3+C1.length)).toArray=aW:=⟨_,rfl⟩
 have hap:∀ ty sc,(Builtin.append_ #[23,23] ty #[.slice (some ⟨g,0,none⟩) k c,.slice (some ⟨g,(k+1)*3,none⟩) (m - k) sc]).run Tryz.prog w.drew = .ok (.slice (some ⟨g,0,none⟩) m c) (w.drew.setRow g aW):=fun ty sc=>by
  have h:=kQ (P:=Tryz.prog) w.drew 23 ty 36 3 Tryz.underlying23 hinfo g k c ⟨g,(k+1)*3,none⟩ (m - k) sc cur 36 C1 hR.blk lC1 (fun j v hj=>by
   refine hR.cells ((k+1)*3) j v ?_
   rw [hL,show (k+1)*3=k*3+3 by omega]
   rw [← hC1,List.getElem?_take] at hj
   split at hj
   · exact hj
   · cases hj) (by omega) (by rw [lC1,hR.size]; omega) (fun v hv'=>one v (m1C v hv'))
  rw [h,cX,show k+(m - k)=m by omega]
 have hs1:aW.size=c*3:=by rw [← cX]; simp only [List.size_toArray,List.length_append,List.length_take,List.length_drop,hL,hLl,lC1]; omega
 have hR1:cS (w.drew.setRow g aW) base 36 3 g c aW:=cS.set (w:=w.drew) ⟨hR.ge,hR.blk,hR.cap_,hR.size⟩ aW hs1
 obtain⟨W1,hW1⟩:∃ W1,w.drew.setRow g aW=W1:=⟨_,rfl⟩
 rw [hW1] at hap hR1
 obtain⟨Z,hZ⟩:∃ Z,(Builtin.zeroCells (Value.cells (.agg #[.string ⟨#[]⟩,.int .i64 0,.string ⟨#[]⟩])) 1).toList=Z:=⟨_,rfl⟩
 have lZ:Z.length=3:=by rw [← hZ,eE]; rfl
 obtain⟨aX,bP⟩:∃ aX,(aW.toList.take (m*3) ++ Z ++ aW.toList.drop (m*3+Z.length)).toArray=aX:=⟨_,rfl⟩
 have hcl:∀ ty cc,(Builtin.clear_ #[23] ty #[.slice (some ⟨g,m*3,none⟩) 1 cc]).run Tryz.prog W1 = .ok (.tuple #[]) (W1.setRow g aX):=fun ty cc=>by
  have h:=eW (P:=Tryz.prog) W1 23 36 ty (.agg #[.string ⟨#[]⟩,.int .i64 0,.string ⟨#[]⟩]) g (m*3) 1 cc Tryz.underlying23 Tryz.zeroValue36 (fO _ 1 (fun u hu=>gE ⟨⟨#[]⟩,0,⟨#[]⟩⟩ u hu)) (by decide) aW 36 hR1.blk (by rw [hs1]; show m*3+1*3≤_; omega)
  rw [h,hZ,bP]
 have hs2:aX.size=c*3:=by rw [← bP]; simp only [List.size_toArray,List.length_append,List.length_take,List.length_drop,Array.length_toList,hs1,lZ]; omega
 have hfin:=(hR1.set aX hs2).own (n:=m) (by omega) (xs:=au aB (l.take k ++ l.drop (k+1))) (by
  have h:=rA (L:=L) (R:=au aB l) (a:=k*3) (b:=(m+1)*3) (s:=3) (by omega) (by omega) (by rw [← hL]; exact htk)
  have e1:aX.toList.take (m*3)=aW.toList.take (m*3):=by
   have l1:(aW.toList.take (m*3)).length=m*3:=by
    have e:aW.toList.length=aW.size:=Array.length_toList
    rw [List.length_take]; omega
   rw [← bP,List.append_assoc,List.take_append_of_le_length (by omega),List.take_of_length_le (by omega)]
  rw [bS,← cN aL,← dX aL,show (k+1)*3=k*3+3 by omega,← h,e1,← cX]
  simp only [hL,lC1]
  rw [← hC1,show (m+1)*3 - 3=m*3 by omega,show (m - k)*3=(m+1)*3 - (k*3+3) by omega])
 have hgr:cE w (W1.setRow g aX) (.slice (some ⟨g,0,none⟩) (m+1) c) (.slice (some ⟨g,0,none⟩) m c):=by
  rw [← hW1]
  exact (eK w g (m+1) (m+1) c c aW).trans (jD _ g (m+1) m c c aX)
 have aS:=hid (show bf aB base 36 3 (some ⟨g,0,none⟩) (m+1) c (l.take k ++ l.drop (k+1)) w (.returned (.slice (some ⟨g,0,none⟩) m c)) (W1.setRow g aX) from ⟨_,m,c,rfl,by rw [List.length_append,List.length_take,List.length_drop]; omega,hfin,hgr⟩)
 have hkk:((k:Int) == (k:Int)+1)=false:=by rw [beq_eq_false_iff_ne]; omega
 have hw1:(0:Int)≤(k:Int)+1:=by omega
 have htn:((k:Int)+1).toNat=k+1:=by omega
 have hb3:(k:Int)+1≤(m:Int)+1:=by omega
 have hb4:(k:Int)≤(m:Int)+1:=by omega
 have hb5:(k:Int)≤(k:Int)+1:=by omega
 have hcm:¬ c=m:=by omega
 have hkc:(k:Int)≤(c:Int):=by omega
 have hck:¬ c=k:=by omega
 have Hcl:=hid hcl
 clear hl hR htk ho hinfo hL hLl hC1 lC1 m1C one cX hs1 hR1 hW1 hZ lZ hcl bP hs2 hfin hgr hi0 hz0 hz1 hzb
 have Bs:¬ c=k+1:=by omega
 go_enter Tryz.func242,Tryz.ntmps242
 go_wp2
 go_region_law (refine jV rfl _ _ 23 23 rfl (.slice (some ⟨g,0,none⟩) k c) (.slice (some ⟨g,(k+1)*3,none⟩) (m - k) (c - (k+1))) rfl rfl (hap _ _) ?_)
 go_wp2_with (refine bY _ rfl _ 23 rfl _ rfl (Hcl.out _ _) ?_)
 go_ret
 exact aS.out
theorem Ff (base g m c:Nat) (l:List av) (w:World) (ho:w.ownsRow base 36 3 (.slice (some ⟨g,0,none⟩) (m+1) c) (m+1) (au aB l)) (hl:l.length=m+1) (hn:m+1≤1000) :
 Calls Tryz.prog 242 #[.slice (some ⟨g,0,none⟩) (m+1) c,.int .i64 m,.int .i64 ((m:Int)+1)] w (bf aB base 36 3 (some ⟨g,0,none⟩) (m+1) c (l.take m ++ l.drop (m+1)) w):=by
 obtain⟨cur,hR,hnc,htk⟩:=cS.of ho
 have hc63:=hR.cap_
 unfold maxLen at hc63
 obtain⟨Z,hZ⟩:∃ Z,(Builtin.zeroCells (Value.cells (.agg #[.string ⟨#[]⟩,.int .i64 0,.string ⟨#[]⟩])) 1).toList=Z:=⟨_,rfl⟩
 have lZ:Z.length=3:=by rw [← hZ,eE]; rfl
 obtain⟨aX,bP⟩:∃ aX,(cur.toList.take (m*3) ++ Z ++ cur.toList.drop (m*3+Z.length)).toArray=aX:=⟨_,rfl⟩
 have lc:cur.toList.length=c*3:=by rw [Array.length_toList,hR.size]
 have hcl:∀ ty cc,(Builtin.clear_ #[23] ty #[.slice (some ⟨g,m*3,none⟩) 1 cc]).run Tryz.prog w.drew = .ok (.tuple #[]) (w.drew.setRow g aX):=fun ty cc=>by
  have h:=eW (P:=Tryz.prog) w.drew 23 36 ty (.agg #[.string ⟨#[]⟩,.int .i64 0,.string ⟨#[]⟩]) g (m*3) 1 cc Tryz.underlying23 Tryz.zeroValue36 (fO _ 1 (fun u hu=>gE ⟨⟨#[]⟩,0,⟨#[]⟩⟩ u hu)) (by decide) cur 36 hR.blk (by rw [hR.size]; show m*3+1*3≤_; omega)
  rw [h,hZ,bP]
 have hs2:aX.size=c*3:=by rw [← bP]; simp only [List.size_toArray,List.length_append,List.length_take,List.length_drop,lc,lZ]; omega
 have hR2:cS (w.drew.setRow g aX) base 36 3 g c aX:=cS.set (w:=w.drew) ⟨hR.ge,hR.blk,hR.cap_,hR.size⟩ aX hs2
 have hfin:=hR2.own (n:=m) (by omega) (xs:=au aB (l.take m ++ l.drop (m+1))) (by
  rw [List.drop_eq_nil_of_le (by omega),List.append_nil,← cN aL,← htk,← bP,List.append_assoc,List.take_append_of_le_length (by rw [List.length_take]; omega),List.take_take,List.take_take,Nat.min_self,Nat.min_eq_left (by omega)])
 have aS:=hid (show bf aB base 36 3 (some ⟨g,0,none⟩) (m+1) c (l.take m ++ l.drop (m+1)) w (.returned (.slice (some ⟨g,0,none⟩) m c)) (w.drew.setRow g aX) from ⟨_,m,c,rfl,by rw [List.length_append,List.length_take,List.length_drop]; omega,hfin,eK w g (m+1) m c c aX⟩)
 have hkk:((m:Int) == (m:Int)+1)=false:=by rw [beq_eq_false_iff_ne]; omega
 have hw1:(0:Int)≤(m:Int)+1:=by omega
 have htn:((m:Int)+1).toNat=m+1:=by omega
 have hb3:(m:Int)+1≤(m:Int)+1:=by omega
 have hb4:(m:Int)≤(m:Int)+1:=by omega
 have hcm:¬ c=m:=by omega
 have hkc:(m:Int)≤(c:Int):=by omega
 have Hcl:=hid hcl
 clear hl hR htk ho hZ lZ hcl bP hs2 hR2 hfin lc
 by_cases Bs:c=m+1
 · subst Bs
   go_enter Tryz.func242,Tryz.ntmps242
   go_wp2
   go_region
   go_wp2_with (refine bY _ rfl _ 23 rfl _ rfl (Hcl.out _ _) ?_)
   go_ret
   exact aS.out
 · go_enter Tryz.func242,Tryz.ntmps242
   go_wp2
   go_region
   go_wp2_with (refine bY _ rfl _ 23 rfl _ rfl (Hcl.out _ _) ?_)
   go_ret
   exact aS.out
theorem G6 (base g m c k:Nat) (l:List av) (w:World) (ho:w.ownsRow base 36 3 (.slice (some ⟨g,0,none⟩) (m+1) c) (m+1) (au aB l)) (hl:l.length=m+1) (hn:m+1≤1000) (hk:k≤m) :
 Calls Tryz.prog 242 #[.slice (some ⟨g,0,none⟩) (m+1) c,.int .i64 k,.int .i64 ((k:Int)+1)] w (bf aB base 36 3 (some ⟨g,0,none⟩) (m+1) c (l.take k ++ l.drop (k+1)) w):=by
 by_cases h:k=m
 · subst h; exact Ff base g k c l w ho hl hn
 · exact Fe base g m c k l w ho hl hn (by omega)
theorem Bt (base g n c k:Nat) (l:List av) (x:av) (w W:World) (ho:w.ownsRow base 36 3 (.slice (some ⟨g,0,none⟩) n c) n (au aB l)) (hl:l.length=n) (hk:k<n) (hb:Below w.heap.size w W) :
 (∀ j,W.frozen? ⟨g,j,none⟩=false)∧(∀ j,j<n*3→∃ u,W.cell? ⟨g,j,none⟩=some u)∧bf aB base 36 3 (some ⟨g,0,none⟩) n c (l.take k ++ x :: l.drop (k+1)) w (.returned (.slice (some ⟨g,0,none⟩) n c)) (((W.setCell ⟨g,k*3,none⟩ (.string x.name)).setCell ⟨g,k*3+1,none⟩ (.int .i64 x.room)).setCell ⟨g,k*3+2,none⟩ (.string x.zone)):=by
 obtain⟨cur,hR,hnc,htk⟩:=cS.of (aC ho hb)
 have lc:cur.toList.length=c*3:=by rw [Array.length_toList,hR.size]
 have hR':=(((hR.setCell (k*3) (.string x.name)).setCell (k*3+1) (.int .i64 x.room)).setCell (k*3+2) (.string x.zone))
 have e0:(((cur.setIfInBounds (k*3) (.string x.name)).setIfInBounds (k*3+1) (.int .i64 x.room)).setIfInBounds (k*3+2) (.string x.zone)).toList=cur.toList.take (k*3) ++ aB x ++ cur.toList.drop (k*3+3):=by
  have h:=qo (aB x) cur.toList (k*3) (by rw [aL,lc]; omega)
  rw [aL] at h
  rw [← h]
  simp only [Array.toList_setIfInBounds]
  rfl
 refine⟨hR.thaw,fun j hj=>⟨_,hR.cell (List.getElem?_eq_getElem (by rw [lc]; omega))⟩,_,n,c,rfl,by rw [List.length_append,List.length_cons,List.length_take,List.length_drop,hl]; omega,hR'.own hnc ?_,cE.after hb ((((dK g (k*3) n n c c (.string x.name)).trans (dK g (k*3+1) n n c c (.int .i64 x.room))).trans (dK g (k*3+2) n n c c (.string x.zone))))⟩
 have h:=uK (L:=cur.toList) (X:=aB x) (R:=au aB l) (a:=k*3) (b:=n*3) (s:=3) (by omega) (by rw [lc]; omega) (aL x) htk
 rw [bS,show au aB (x :: l.drop (k+1))=aB x ++ au aB (l.drop (k+1)) from rfl,← cN aL,← dX aL,← List.append_assoc,show (k+1)*3=k*3+3 by omega,← h,e0]
theorem Fg (base:Nat) (A:Option Addr) (n c:Nat) (l:List av) (x:av) (w:World) (ho:w.ownsRow base 36 3 (.slice A n c) n (au aB l)) (hl:l.length=n) (hn:n≤999) (hs:aK av.name l) (hbase:base≤w.heap.size) :
 Calls Tryz.prog 136 #[.slice A n c,.agg (aB x).toArray,.func (.func 85) #[] #[]] w (bf aB base 36 3 A n c (iN av.name l x) w):=by
 have hput:=oZ (x:=x) hs
 have sR:=sL (key:=av.name) l (av.name x)
 have heg:=enters_of Tryz.func85 (by kernel_rfl) rfl
 obtain⟨k,hk⟩:∃ k,dG av.name l (av.name x)=k:=⟨_,rfl⟩
 have hb1:Below w.heap.size w (w.alloc (.cells (aB x).toArray 36)):=(Below.refl _ _).alloc (Nat.le_refl _) _
 have hB1:Blk (w.alloc (.cells (aB x).toArray 36)) w.heap.size 36 (aB x).toArray:=heap_alloc_new w _
 have HP:=hid (fun W (hb:Below w.heap.size w W)=>qY (av.name x) l A n c W (cP (aC ho hb)) hl (by omega) hs)
 have Ho:=hid ho
 have Hb1:=hid hb1
 have HB1:=hid hB1
 unfold dU at HP
 rw [hk] at hput sR
 simp only [hk] at HP
 cases his:isL av.name l (av.name x) with
 | true=>
  rw [his] at hput
  simp only [his] at HP
  obtain⟨y,hy,hky⟩:=l7 his
  rw [hk] at hy
  have hkn:k<n:=by have:=(List.getElem?_eq_some_iff.1 hy).1; omega
  obtain⟨g,cap,hA,hcap⟩:=ho.form (by omega)
  injection hA with hA _ hc
  subst hA; subst hc
  rw [if_pos rfl] at hput
  have HS:=hid (fun W hb=>Bt base g n c k l x w W ho hl hkn hb)
  rw [hput]
  clear hput hb1 hB1 his hy hky hk hl ho sR hs
  obtain⟨name,room,zone⟩:=x
  have jo:=hid (show Blk (w.alloc (.cells #[.string name,.int .i64 room,.string zone] 36)) w.heap.size 36 #[.string name,.int .i64 room,.string zone] from HB1.out)
  have b0:(w.alloc (.cells #[.string name,.int .i64 room,.string zone] 36)).cell? ⟨w.heap.size,0,none⟩=some (.string name):=jo.out.cell 0
  have b1:(w.alloc (.cells #[.string name,.int .i64 room,.string zone] 36)).cell? ⟨w.heap.size,1,none⟩=some (.int .i64 room):=jo.out.cell 1
  have b2:(w.alloc (.cells #[.string name,.int .i64 room,.string zone] 36)).cell? ⟨w.heap.size,2,none⟩=some (.string zone):=jo.out.cell 2
  show Calls Tryz.prog 136 #[.slice (some ⟨g,0,none⟩) n c,.agg #[.string name,.int .i64 room,.string zone],.func (.func 85) #[] #[]] w _
  have Hb1:=hid (show Below w.heap.size w (w.alloc (.cells #[.string name,.int .i64 room,.string zone] 36)) from Hb1.out)
  clear HB1
  go_enter Tryz.func136,Tryz.ntmps136
  go_wp2_with fail
  refine Calls.mono (eN name room zone _) ?_
  rintro e w2 ⟨rfl,hb2⟩
  have Hb2:=hid (Hb1.out.trans (hb2.mono Hb1.out.size))
  have HB2:=hid (jo.out.below hb2 jo.out.lt)
  clear hb2 b0 b1 b2
  go_wp2_with fail
  refine Calls.mono (HP.out _ Hb2.out) ?_
  rintro e w3 ⟨rfl,hb3⟩
  have Hb3:=hid (Hb2.out.trans (hb3.mono Hb2.out.size))
  have HB3:=hid (HB2.out.below hb3 HB2.out.lt)
  clear hb3 HB2
  obtain⟨hfz,hce,hend⟩:=HS.out w3 Hb3.out
  have d0:w3.cell? ⟨w.heap.size,0,none⟩=some (.string name):=HB3.out.cell 0
  have d1:w3.cell? ⟨w.heap.size,1,none⟩=some (.int .i64 room):=HB3.out.cell 1
  have d2:w3.cell? ⟨w.heap.size,2,none⟩=some (.string zone):=HB3.out.cell 2
  have f0:=hfz (k*3)
  obtain⟨u0,p0⟩:=hce (k*3) (by omega)
  have f1:=hfz (k*3+1)
  obtain⟨u1,p1⟩:=hce (k*3+1) (by omega)
  have f2:=hfz (k*3+2)
  obtain⟨u2,p2⟩:=hce (k*3+2) (by omega)
  have aS:=hid hend
  clear hfz hce hend
  go_wp2
  go_ret
  exact aS.out
 | false=>
  rw [his] at hput
  simp only [his] at HP
  rw [if_neg (by decide)] at hput
  rw [hput]
  have Hl:=hid hl
  clear hput hb1 hB1 his hk hl ho hs
  obtain⟨name,room,zone⟩:=x
  have jo:=hid (show Blk (w.alloc (.cells #[.string name,.int .i64 room,.string zone] 36)) w.heap.size 36 #[.string name,.int .i64 room,.string zone] from HB1.out)
  have b0:(w.alloc (.cells #[.string name,.int .i64 room,.string zone] 36)).cell? ⟨w.heap.size,0,none⟩=some (.string name):=jo.out.cell 0
  have b1:(w.alloc (.cells #[.string name,.int .i64 room,.string zone] 36)).cell? ⟨w.heap.size,1,none⟩=some (.int .i64 room):=jo.out.cell 1
  have b2:(w.alloc (.cells #[.string name,.int .i64 room,.string zone] 36)).cell? ⟨w.heap.size,2,none⟩=some (.string zone):=jo.out.cell 2
  show Calls Tryz.prog 136 #[.slice A n c,.agg #[.string name,.int .i64 room,.string zone],.func (.func 85) #[] #[]] w _
  have Hb1:=hid (show Below w.heap.size w (w.alloc (.cells #[.string name,.int .i64 room,.string zone] 36)) from Hb1.out)
  clear HB1
  go_enter Tryz.func136,Tryz.ntmps136
  go_wp2_with fail
  refine Calls.mono (eN name room zone _) ?_
  rintro e w2 ⟨rfl,hb2⟩
  have Hb2:=hid (Hb1.out.trans (hb2.mono Hb1.out.size))
  have HB2:=hid (jo.out.below hb2 jo.out.lt)
  clear hb2 b0 b1 b2
  go_wp2_with fail
  refine Calls.mono (HP.out _ Hb2.out) ?_
  rintro e w3 ⟨rfl,hb3⟩
  have Hb3:=hid (Hb2.out.trans (hb3.mono Hb2.out.size))
  have HB3:=hid (HB2.out.below hb3 HB2.out.lt)
  clear hb3 HB2
  have d0:w3.cell? ⟨w.heap.size,0,none⟩=some (.string name):=HB3.out.cell 0
  have d1:w3.cell? ⟨w.heap.size,1,none⟩=some (.int .i64 room):=HB3.out.cell 1
  have d2:w3.cell? ⟨w.heap.size,2,none⟩=some (.string zone):=HB3.out.cell 2
  have hb4:Below w.heap.size w (w3.alloc (.cells #[.string name,.int .i64 room,.string zone] 36)):=Hb3.out.alloc Hb3.out.size _
  have hB4:Blk (w3.alloc (.cells #[.string name,.int .i64 room,.string zone] 36)) w3.heap.size 36 (aB ⟨name,room,zone⟩).toArray:=heap_alloc_new w3 _
  have HI:=hid (G7 base A n c w3.heap.size k l ⟨name,room,zone⟩ (w3.alloc (.cells #[.string name,.int .i64 room,.string zone] 36)) (aC Ho.out hb4) Hl.out (by omega) (by have:=Hl.out; omega) hB4 (fun q hq=>by have:=(Ho.out.lt q hq).2; have:=Hb3.out.size; omega) (Nat.le_trans hbase hb4.size))
  have Hb4:=hid hb4
  clear hb4 hB4
  go_wp2_with fail
  refine Calls.mono HI.out ?_
  rintro e w5 ⟨A',m,c',rfl,hm,ho',hg'⟩
  have aS:=hid (show bf aB base 36 3 A n c (l.take k ++ ⟨name,room,zone⟩ :: l.drop k) w (.returned (.slice A' m c')) w5 from ⟨A',m,c',rfl,hm,ho',cE.after Hb4.out hg'⟩)
  clear hm ho' hg' d0 d1 d2
  go_wp2
  go_ret
  exact aS.out
theorem CU (base:Nat) (A:Option Addr) (n c:Nat) (l:List av) (s:ByteArray) (w:World) (ho:w.ownsRow base 36 3 (.slice A n c) n (au aB l)) (hl:l.length=n) (hn:n≤999) (hs:aK av.name l) :
 Calls Tryz.prog 140 #[.slice A n c,.string s,.func (.func 85) #[] #[]] w (sQ aB base 36 3 A n c (l.filter fun a=>!decide (av.name a=s)) (isL av.name l s) w):=by
 have htp:=xD (s:=s) hs
 obtain⟨k,hk⟩:∃ k,dG av.name l s=k:=⟨_,rfl⟩
 have HP:=hid (qY s l A n c w (cP ho) hl (by omega) hs)
 have Ho:=hid ho
 have Hl:=hid hl
 unfold dU at HP
 rw [hk] at htp
 simp only [hk] at HP
 cases his:isL av.name l s with
 | true=>
  rw [his] at htp
  simp only [his] at HP
  obtain⟨y,hy,hky⟩:=l7 his
  rw [hk] at hy
  have hkn:k<n:=by have:=(List.getElem?_eq_some_iff.1 hy).1; omega
  obtain⟨g,cap,hA,hcap⟩:=ho.form (by omega)
  injection hA with hA _ hc
  subst hA; subst hc
  rw [if_pos rfl] at htp
  rw [htp]
  obtain⟨m,rfl⟩:∃ m,n=m+1:=⟨n - 1,by omega⟩
  have HD:=hid (fun W (hb:Below w.heap.size w W)=>G6 base g m c k l W (aC ho hb) hl (by omega) (by omega))
  have hw1:IntKind.i64.wrap ((k:Int)+1)=(k:Int)+1:=by rw [IntKind.wrap_i64]; omega
  clear htp his hy hky hk hl ho hs
  go_enter Tryz.func140,Tryz.ntmps140
  go_wp2_with fail
  refine Calls.mono HP.out ?_
  rintro e w3 ⟨rfl,hb3⟩
  have Hb3:=hid hb3
  clear hb3
  go_wp2_with fail
  refine Calls.mono (HD.out _ Hb3.out) ?_
  rintro e w5 ⟨A',m',c',rfl,hm,ho',hg'⟩
  have aS:=hid (show sQ aB base 36 3 (some ⟨g,0,none⟩) (m+1) c (l.take k ++ l.drop (k+1)) true w (.returned (.tuple #[.slice A' m' c',.bool true])) w5 from ⟨A',m',c',rfl,hm,ho',cE.after Hb3.out hg'⟩)
  clear hm ho' hg'
  go_wp2
  go_ret2
  exact aS.out
 | false=>
  rw [his] at htp
  simp only [his] at HP
  rw [if_neg (by decide)] at htp
  rw [htp]
  clear htp his hk hl ho hs
  go_enter Tryz.func140,Tryz.ntmps140
  go_wp2_with fail
  refine Calls.mono HP.out ?_
  rintro e w3 ⟨rfl,hb3⟩
  have aS:=hid (show sQ aB base 36 3 A n c l false w (.returned (.tuple #[.slice A n c,.bool false])) w3 from ⟨A,n,c,rfl,Hl.out.symm,aC Ho.out hb3,cE.after hb3 (cE.refl _ _)⟩)
  clear hb3
  go_wp2
  go_ret2
  exact aS.out
theorem CV (base g m c k:Nat) (l:List ah) (w:World) (ho:w.ownsRow base 38 3 (.slice (some ⟨g,0,none⟩) (m+1) c) (m+1) (au ay l)) (hl:l.length=m+1) (hn:m+1≤1000) (hk:k<m) :
 Calls Tryz.prog 245 #[.slice (some ⟨g,0,none⟩) (m+1) c,.int .i64 k,.int .i64 ((k:Int)+1)] w (bf ay base 38 3 (some ⟨g,0,none⟩) (m+1) c (l.take k ++ l.drop (k+1)) w):=by
 obtain⟨cur,hR,hnc,htk⟩:=cS.of ho
 have hc63:=hR.cap_
 unfold maxLen at hc63
 obtain⟨i0,hi0,hz0,hz1,hzb⟩:=info_parts mg
 have hinfo:(Tryz.prog.info? 38).map (·.size)=some 3:=by rw [hi0]; simp [hz1]
 have one:∀ v ∈ au ay l,v.oneCell'=true:=fun v hv'=>by
  obtain⟨a,_,ha⟩:=List.mem_flatMap.1 hv'
  exact eP a v ha
 obtain⟨L,hL⟩:∃ L,cur.toList=L:=⟨_,rfl⟩
 have hLl:L.length=c*3:=by rw [← hL,Array.length_toList,hR.size]
 obtain⟨C1,hC1⟩:∃ C1,(L.drop (k*3+3)).take ((m+1)*3 - (k*3+3))=C1:=⟨_,rfl⟩
 have lC1:C1.length=(m - k)*3:=by rw [← hC1,List.length_take,List.length_drop,hLl]; omega
 have m1C:∀ v ∈ C1,v ∈ au ay l:=fun v hv'=>by
  rw [← hC1,← List.drop_take,← hL,htk] at hv'
  exact List.mem_of_mem_drop hv'
 obtain⟨aW,cX⟩:∃ aW,(cur.toList.take (k*3) ++ C1 ++ cur.toList.drop (k*3+C1.length)).toArray=aW:=⟨_,rfl⟩
 have hap:∀ ty sc,(Builtin.append_ #[24,24] ty #[.slice (some ⟨g,0,none⟩) k c,.slice (some ⟨g,(k+1)*3,none⟩) (m - k) sc]).run Tryz.prog w.drew = .ok (.slice (some ⟨g,0,none⟩) m c) (w.drew.setRow g aW):=fun ty sc=>by
  have h:=kQ (P:=Tryz.prog) w.drew 24 ty 38 3 Tryz.underlying24 hinfo g k c ⟨g,(k+1)*3,none⟩ (m - k) sc cur 38 C1 hR.blk lC1 (fun j v hj=>by
   refine hR.cells ((k+1)*3) j v ?_
   rw [hL,show (k+1)*3=k*3+3 by omega]
   rw [← hC1,List.getElem?_take] at hj
   split at hj
   · exact hj
   · cases hj) (by omega) (by rw [lC1,hR.size]; omega) (fun v hv'=>one v (m1C v hv'))
  rw [h,cX,show k+(m - k)=m by omega]
 have hs1:aW.size=c*3:=by rw [← cX]; simp only [List.size_toArray,List.length_append,List.length_take,List.length_drop,hL,hLl,lC1]; omega
 have hR1:cS (w.drew.setRow g aW) base 38 3 g c aW:=cS.set (w:=w.drew) ⟨hR.ge,hR.blk,hR.cap_,hR.size⟩ aW hs1
 obtain⟨W1,hW1⟩:∃ W1,w.drew.setRow g aW=W1:=⟨_,rfl⟩
 rw [hW1] at hap hR1
 obtain⟨Z,hZ⟩:∃ Z,(Builtin.zeroCells (Value.cells (.agg #[.string ⟨#[]⟩,.string ⟨#[]⟩,.int .i64 0])) 1).toList=Z:=⟨_,rfl⟩
 have lZ:Z.length=3:=by rw [← hZ,eE]; rfl
 obtain⟨aX,bP⟩:∃ aX,(aW.toList.take (m*3) ++ Z ++ aW.toList.drop (m*3+Z.length)).toArray=aX:=⟨_,rfl⟩
 have hcl:∀ ty cc,(Builtin.clear_ #[24] ty #[.slice (some ⟨g,m*3,none⟩) 1 cc]).run Tryz.prog W1 = .ok (.tuple #[]) (W1.setRow g aX):=fun ty cc=>by
  have h:=eW (P:=Tryz.prog) W1 24 38 ty (.agg #[.string ⟨#[]⟩,.string ⟨#[]⟩,.int .i64 0]) g (m*3) 1 cc Tryz.underlying24 Tryz.zeroValue38 (fO _ 1 (fun u hu=>eP ⟨⟨#[]⟩,⟨#[]⟩,0⟩ u hu)) (by decide) aW 38 hR1.blk (by rw [hs1]; show m*3+1*3≤_; omega)
  rw [h,hZ,bP]
 have hs2:aX.size=c*3:=by rw [← bP]; simp only [List.size_toArray,List.length_append,List.length_take,List.length_drop,Array.length_toList,hs1,lZ]; omega
 have hfin:=(hR1.set aX hs2).own (n:=m) (by omega) (xs:=au ay (l.take k ++ l.drop (k+1))) (by
  have h:=rA (L:=L) (R:=au ay l) (a:=k*3) (b:=(m+1)*3) (s:=3) (by omega) (by omega) (by rw [← hL]; exact htk)
  have e1:aX.toList.take (m*3)=aW.toList.take (m*3):=by
   have l1:(aW.toList.take (m*3)).length=m*3:=by
    have e:aW.toList.length=aW.size:=Array.length_toList
    rw [List.length_take]; omega
   rw [← bP,List.append_assoc,List.take_append_of_le_length (by omega),List.take_of_length_le (by omega)]
  rw [bS,← cN aH,← dX aH,show (k+1)*3=k*3+3 by omega,← h,e1,← cX]
  simp only [hL,lC1]
  rw [← hC1,show (m+1)*3 - 3=m*3 by omega,show (m - k)*3=(m+1)*3 - (k*3+3) by omega])
 have hgr:cE w (W1.setRow g aX) (.slice (some ⟨g,0,none⟩) (m+1) c) (.slice (some ⟨g,0,none⟩) m c):=by
  rw [← hW1]
  exact (eK w g (m+1) (m+1) c c aW).trans (jD _ g (m+1) m c c aX)
 have aS:=hid (show bf ay base 38 3 (some ⟨g,0,none⟩) (m+1) c (l.take k ++ l.drop (k+1)) w (.returned (.slice (some ⟨g,0,none⟩) m c)) (W1.setRow g aX) from ⟨_,m,c,rfl,by rw [List.length_append,List.length_take,List.length_drop]; omega,hfin,hgr⟩)
 have hkk:((k:Int) == (k:Int)+1)=false:=by rw [beq_eq_false_iff_ne]; omega
 have hw1:(0:Int)≤(k:Int)+1:=by omega
 have htn:((k:Int)+1).toNat=k+1:=by omega
 have hb3:(k:Int)+1≤(m:Int)+1:=by omega
 have hb4:(k:Int)≤(m:Int)+1:=by omega
 have hb5:(k:Int)≤(k:Int)+1:=by omega
 have hcm:¬ c=m:=by omega
 have hkc:(k:Int)≤(c:Int):=by omega
 have hck:¬ c=k:=by omega
 have Hcl:=hid hcl
 clear hl hR htk ho hinfo hL hLl hC1 lC1 m1C one cX hs1 hR1 hW1 hZ lZ hcl bP hs2 hfin hgr hi0 hz0 hz1 hzb
 have Bs:¬ c=k+1:=by omega
 go_enter Tryz.func245,Tryz.ntmps245
 go_wp2
 go_region_law (refine jV rfl _ _ 24 24 rfl (.slice (some ⟨g,0,none⟩) k c) (.slice (some ⟨g,(k+1)*3,none⟩) (m - k) (c - (k+1))) rfl rfl (hap _ _) ?_)
 go_wp2_with (refine bY _ rfl _ 24 rfl _ rfl (Hcl.out _ _) ?_)
 go_ret
 exact aS.out
theorem CW (base g m c:Nat) (l:List ah) (w:World) (ho:w.ownsRow base 38 3 (.slice (some ⟨g,0,none⟩) (m+1) c) (m+1) (au ay l)) (hl:l.length=m+1) (hn:m+1≤1000) :
 Calls Tryz.prog 245 #[.slice (some ⟨g,0,none⟩) (m+1) c,.int .i64 m,.int .i64 ((m:Int)+1)] w (bf ay base 38 3 (some ⟨g,0,none⟩) (m+1) c (l.take m ++ l.drop (m+1)) w):=by
 obtain⟨cur,hR,hnc,htk⟩:=cS.of ho
 have hc63:=hR.cap_
 unfold maxLen at hc63
 obtain⟨Z,hZ⟩:∃ Z,(Builtin.zeroCells (Value.cells (.agg #[.string ⟨#[]⟩,.string ⟨#[]⟩,.int .i64 0])) 1).toList=Z:=⟨_,rfl⟩
 have lZ:Z.length=3:=by rw [← hZ,eE]; rfl
 obtain⟨aX,bP⟩:∃ aX,(cur.toList.take (m*3) ++ Z ++ cur.toList.drop (m*3+Z.length)).toArray=aX:=⟨_,rfl⟩
 have lc:cur.toList.length=c*3:=by rw [Array.length_toList,hR.size]
 have hcl:∀ ty cc,(Builtin.clear_ #[24] ty #[.slice (some ⟨g,m*3,none⟩) 1 cc]).run Tryz.prog w.drew = .ok (.tuple #[]) (w.drew.setRow g aX):=fun ty cc=>by
  have h:=eW (P:=Tryz.prog) w.drew 24 38 ty (.agg #[.string ⟨#[]⟩,.string ⟨#[]⟩,.int .i64 0]) g (m*3) 1 cc Tryz.underlying24 Tryz.zeroValue38 (fO _ 1 (fun u hu=>eP ⟨⟨#[]⟩,⟨#[]⟩,0⟩ u hu)) (by decide) cur 38 hR.blk (by rw [hR.size]; show m*3+1*3≤_; omega)
  rw [h,hZ,bP]
 have hs2:aX.size=c*3:=by rw [← bP]; simp only [List.size_toArray,List.length_append,List.length_take,List.length_drop,lc,lZ]; omega
 have hR2:cS (w.drew.setRow g aX) base 38 3 g c aX:=cS.set (w:=w.drew) ⟨hR.ge,hR.blk,hR.cap_,hR.size⟩ aX hs2
 have hfin:=hR2.own (n:=m) (by omega) (xs:=au ay (l.take m ++ l.drop (m+1))) (by
  rw [List.drop_eq_nil_of_le (by omega),List.append_nil,← cN aH,← htk,← bP,List.append_assoc,List.take_append_of_le_length (by rw [List.length_take]; omega),List.take_take,List.take_take,Nat.min_self,Nat.min_eq_left (by omega)])
 have aS:=hid (show bf ay base 38 3 (some ⟨g,0,none⟩) (m+1) c (l.take m ++ l.drop (m+1)) w (.returned (.slice (some ⟨g,0,none⟩) m c)) (w.drew.setRow g aX) from ⟨_,m,c,rfl,by rw [List.length_append,List.length_take,List.length_drop]; omega,hfin,eK w g (m+1) m c c aX⟩)
 have hkk:((m:Int) == (m:Int)+1)=false:=by rw [beq_eq_false_iff_ne]; omega
 have hw1:(0:Int)≤(m:Int)+1:=by omega
 have htn:((m:Int)+1).toNat=m+1:=by omega
 have hb3:(m:Int)+1≤(m:Int)+1:=by omega
 have hb4:(m:Int)≤(m:Int)+1:=by omega
 have hcm:¬ c=m:=by omega
 have hkc:(m:Int)≤(c:Int):=by omega
 have Hcl:=hid hcl
 clear hl hR htk ho hZ lZ hcl bP hs2 hR2 hfin lc
 by_cases Bs:c=m+1
 · subst Bs
   go_enter Tryz.func245,Tryz.ntmps245
   go_wp2
   go_region
   go_wp2_with (refine bY _ rfl _ 24 rfl _ rfl (Hcl.out _ _) ?_)
   go_ret
   exact aS.out
 · go_enter Tryz.func245,Tryz.ntmps245
   go_wp2
   go_region
   go_wp2_with (refine bY _ rfl _ 24 rfl _ rfl (Hcl.out _ _) ?_)
   go_ret
   exact aS.out
theorem Fh (base g m c k:Nat) (l:List ah) (w:World) (ho:w.ownsRow base 38 3 (.slice (some ⟨g,0,none⟩) (m+1) c) (m+1) (au ay l)) (hl:l.length=m+1) (hn:m+1≤1000) (hk:k≤m) :
 Calls Tryz.prog 245 #[.slice (some ⟨g,0,none⟩) (m+1) c,.int .i64 k,.int .i64 ((k:Int)+1)] w (bf ay base 38 3 (some ⟨g,0,none⟩) (m+1) c (l.take k ++ l.drop (k+1)) w):=by
 by_cases h:k=m
 · subst h; exact CW base g k c l w ho hl hn
 · exact CV base g m c k l w ho hl hn (by omega)
theorem sP (base g n c k:Nat) (l:List ah) (x:ah) (w W:World) (ho:w.ownsRow base 38 3 (.slice (some ⟨g,0,none⟩) n c) n (au ay l)) (hl:l.length=n) (hk:k<n) (hb:Below w.heap.size w W) :
 (∀ j,W.frozen? ⟨g,j,none⟩=false)∧(∀ j,j<n*3→∃ u,W.cell? ⟨g,j,none⟩=some u)∧bf ay base 38 3 (some ⟨g,0,none⟩) n c (l.take k ++ x :: l.drop (k+1)) w (.returned (.slice (some ⟨g,0,none⟩) n c)) (((W.setCell ⟨g,k*3,none⟩ (.string x.job)).setCell ⟨g,k*3+1,none⟩ (.string x.node)).setCell ⟨g,k*3+2,none⟩ (.int .i64 x.till)):=by
 obtain⟨cur,hR,hnc,htk⟩:=cS.of (aC ho hb)
 have lc:cur.toList.length=c*3:=by rw [Array.length_toList,hR.size]
 have hR':=(((hR.setCell (k*3) (.string x.job)).setCell (k*3+1) (.string x.node)).setCell (k*3+2) (.int .i64 x.till))
 have e0:(((cur.setIfInBounds (k*3) (.string x.job)).setIfInBounds (k*3+1) (.string x.node)).setIfInBounds (k*3+2) (.int .i64 x.till)).toList=cur.toList.take (k*3) ++ ay x ++ cur.toList.drop (k*3+3):=by
  have h:=qo (ay x) cur.toList (k*3) (by rw [aH,lc]; omega)
  rw [aH] at h
  rw [← h]
  simp only [Array.toList_setIfInBounds]
  rfl
 refine⟨hR.thaw,fun j hj=>⟨_,hR.cell (List.getElem?_eq_getElem (by rw [lc]; omega))⟩,_,n,c,rfl,by rw [List.length_append,List.length_cons,List.length_take,List.length_drop,hl]; omega,hR'.own hnc ?_,cE.after hb ((((dK g (k*3) n n c c (.string x.job)).trans (dK g (k*3+1) n n c c (.string x.node))).trans (dK g (k*3+2) n n c c (.int .i64 x.till))))⟩
 have h:=uK (L:=cur.toList) (X:=ay x) (R:=au ay l) (a:=k*3) (b:=n*3) (s:=3) (by omega) (by rw [lc]; omega) (aH x) htk
 rw [bS,show au ay (x :: l.drop (k+1))=ay x ++ au ay (l.drop (k+1)) from rfl,← cN aH,← dX aH,← List.append_assoc,show (k+1)*3=k*3+3 by omega,← h,e0]
theorem CX (base:Nat) (A:Option Addr) (n c:Nat) (l:List ah) (x:ah) (w:World) (ho:w.ownsRow base 38 3 (.slice A n c) n (au ay l)) (hl:l.length=n) (hn:n≤999) (hs:aK ah.job l) (hbase:base≤w.heap.size) :
 Calls Tryz.prog 244 #[.slice A n c,.agg (ay x).toArray,.func (.func 87) #[] #[]] w (bf ay base 38 3 A n c (iN ah.job l x) w):=by
 have hput:=oZ (x:=x) hs
 have sR:=sL (key:=ah.job) l (ah.job x)
 have heg:=enters_of Tryz.func87 (by kernel_rfl) rfl
 obtain⟨k,hk⟩:∃ k,dG ah.job l (ah.job x)=k:=⟨_,rfl⟩
 have hb1:Below w.heap.size w (w.alloc (.cells (ay x).toArray 38)):=(Below.refl _ _).alloc (Nat.le_refl _) _
 have hB1:Blk (w.alloc (.cells (ay x).toArray 38)) w.heap.size 38 (ay x).toArray:=heap_alloc_new w _
 have HP:=hid (fun W (hb:Below w.heap.size w W)=>oR (ah.job x) l A n c W (cP (aC ho hb)) hl (by omega) hs)
 have Ho:=hid ho
 have Hb1:=hid hb1
 have HB1:=hid hB1
 unfold dU at HP
 rw [hk] at hput sR
 simp only [hk] at HP
 cases his:isL ah.job l (ah.job x) with
 | true=>
  rw [his] at hput
  simp only [his] at HP
  obtain⟨y,hy,hky⟩:=l7 his
  rw [hk] at hy
  have hkn:k<n:=by have:=(List.getElem?_eq_some_iff.1 hy).1; omega
  obtain⟨g,cap,hA,hcap⟩:=ho.form (by omega)
  injection hA with hA _ hc
  subst hA; subst hc
  rw [if_pos rfl] at hput
  have HS:=hid (fun W hb=>sP base g n c k l x w W ho hl hkn hb)
  rw [hput]
  clear hput hb1 hB1 his hy hky hk hl ho sR hs
  obtain⟨job,node,till⟩:=x
  have jo:=hid (show Blk (w.alloc (.cells #[.string job,.string node,.int .i64 till] 38)) w.heap.size 38 #[.string job,.string node,.int .i64 till] from HB1.out)
  have b0:(w.alloc (.cells #[.string job,.string node,.int .i64 till] 38)).cell? ⟨w.heap.size,0,none⟩=some (.string job):=jo.out.cell 0
  have b1:(w.alloc (.cells #[.string job,.string node,.int .i64 till] 38)).cell? ⟨w.heap.size,1,none⟩=some (.string node):=jo.out.cell 1
  have b2:(w.alloc (.cells #[.string job,.string node,.int .i64 till] 38)).cell? ⟨w.heap.size,2,none⟩=some (.int .i64 till):=jo.out.cell 2
  show Calls Tryz.prog 244 #[.slice (some ⟨g,0,none⟩) n c,.agg #[.string job,.string node,.int .i64 till],.func (.func 87) #[] #[]] w _
  have Hb1:=hid (show Below w.heap.size w (w.alloc (.cells #[.string job,.string node,.int .i64 till] 38)) from Hb1.out)
  clear HB1
  go_enter Tryz.func244,Tryz.ntmps244
  go_wp2_with fail
  refine Calls.mono (cZ job node till _) ?_
  rintro e w2 ⟨rfl,hb2⟩
  have Hb2:=hid (Hb1.out.trans (hb2.mono Hb1.out.size))
  have HB2:=hid (jo.out.below hb2 jo.out.lt)
  clear hb2 b0 b1 b2
  go_wp2_with fail
  refine Calls.mono (HP.out _ Hb2.out) ?_
  rintro e w3 ⟨rfl,hb3⟩
  have Hb3:=hid (Hb2.out.trans (hb3.mono Hb2.out.size))
  have HB3:=hid (HB2.out.below hb3 HB2.out.lt)
  clear hb3 HB2
  obtain⟨hfz,hce,hend⟩:=HS.out w3 Hb3.out
  have d0:w3.cell? ⟨w.heap.size,0,none⟩=some (.string job):=HB3.out.cell 0
  have d1:w3.cell? ⟨w.heap.size,1,none⟩=some (.string node):=HB3.out.cell 1
  have d2:w3.cell? ⟨w.heap.size,2,none⟩=some (.int .i64 till):=HB3.out.cell 2
  have f0:=hfz (k*3)
  obtain⟨u0,p0⟩:=hce (k*3) (by omega)
  have f1:=hfz (k*3+1)
  obtain⟨u1,p1⟩:=hce (k*3+1) (by omega)
  have f2:=hfz (k*3+2)
  obtain⟨u2,p2⟩:=hce (k*3+2) (by omega)
  have aS:=hid hend
  clear hfz hce hend
  go_wp2
  go_ret
  exact aS.out
 | false=>
  rw [his] at hput
  simp only [his] at HP
  rw [if_neg (by decide)] at hput
  rw [hput]
  have Hl:=hid hl
  clear hput hb1 hB1 his hk hl ho hs
  obtain⟨job,node,till⟩:=x
  have jo:=hid (show Blk (w.alloc (.cells #[.string job,.string node,.int .i64 till] 38)) w.heap.size 38 #[.string job,.string node,.int .i64 till] from HB1.out)
  have b0:(w.alloc (.cells #[.string job,.string node,.int .i64 till] 38)).cell? ⟨w.heap.size,0,none⟩=some (.string job):=jo.out.cell 0
  have b1:(w.alloc (.cells #[.string job,.string node,.int .i64 till] 38)).cell? ⟨w.heap.size,1,none⟩=some (.string node):=jo.out.cell 1
  have b2:(w.alloc (.cells #[.string job,.string node,.int .i64 till] 38)).cell? ⟨w.heap.size,2,none⟩=some (.int .i64 till):=jo.out.cell 2
  show Calls Tryz.prog 244 #[.slice A n c,.agg #[.string job,.string node,.int .i64 till],.func (.func 87) #[] #[]] w _
  have Hb1:=hid (show Below w.heap.size w (w.alloc (.cells #[.string job,.string node,.int .i64 till] 38)) from Hb1.out)
  clear HB1
  go_enter Tryz.func244,Tryz.ntmps244
  go_wp2_with fail
  refine Calls.mono (cZ job node till _) ?_
  rintro e w2 ⟨rfl,hb2⟩
  have Hb2:=hid (Hb1.out.trans (hb2.mono Hb1.out.size))
  have HB2:=hid (jo.out.below hb2 jo.out.lt)
  clear hb2 b0 b1 b2
  go_wp2_with fail
  refine Calls.mono (HP.out _ Hb2.out) ?_
  rintro e w3 ⟨rfl,hb3⟩
  have Hb3:=hid (Hb2.out.trans (hb3.mono Hb2.out.size))
  have HB3:=hid (HB2.out.below hb3 HB2.out.lt)
  clear hb3 HB2
  have d0:w3.cell? ⟨w.heap.size,0,none⟩=some (.string job):=HB3.out.cell 0
  have d1:w3.cell? ⟨w.heap.size,1,none⟩=some (.string node):=HB3.out.cell 1
  have d2:w3.cell? ⟨w.heap.size,2,none⟩=some (.int .i64 till):=HB3.out.cell 2
  have hb4:Below w.heap.size w (w3.alloc (.cells #[.string job,.string node,.int .i64 till] 38)):=Hb3.out.alloc Hb3.out.size _
  have hB4:Blk (w3.alloc (.cells #[.string job,.string node,.int .i64 till] 38)) w3.heap.size 38 (ay ⟨job,node,till⟩).toArray:=heap_alloc_new w3 _
  have HI:=hid (Fi base A n c w3.heap.size k l ⟨job,node,till⟩ (w3.alloc (.cells #[.string job,.string node,.int .i64 till] 38)) (aC Ho.out hb4) Hl.out (by omega) (by have:=Hl.out; omega) hB4 (fun q hq=>by have:=(Ho.out.lt q hq).2; have:=Hb3.out.size; omega) (Nat.le_trans hbase hb4.size))
  have Hb4:=hid hb4
  clear hb4 hB4
  go_wp2_with fail
  refine Calls.mono HI.out ?_
  rintro e w5 ⟨A',m,c',rfl,hm,ho',hg'⟩
  have aS:=hid (show bf ay base 38 3 A n c (l.take k ++ ⟨job,node,till⟩ :: l.drop k) w (.returned (.slice A' m c')) w5 from ⟨A',m,c',rfl,hm,ho',cE.after Hb4.out hg'⟩)
  clear hm ho' hg' d0 d1 d2
  go_wp2
  go_ret
  exact aS.out
theorem Bu (base:Nat) (A:Option Addr) (n c:Nat) (l:List ah) (s:ByteArray) (w:World) (ho:w.ownsRow base 38 3 (.slice A n c) n (au ay l)) (hl:l.length=n) (hn:n≤999) (hs:aK ah.job l) :
 Calls Tryz.prog 143 #[.slice A n c,.string s,.func (.func 87) #[] #[]] w (sQ ay base 38 3 A n c (l.filter fun a=>!decide (ah.job a=s)) (isL ah.job l s) w):=by
 have htp:=xD (s:=s) hs
 obtain⟨k,hk⟩:∃ k,dG ah.job l s=k:=⟨_,rfl⟩
 have HP:=hid (oR s l A n c w (cP ho) hl (by omega) hs)
 have Ho:=hid ho
 have Hl:=hid hl
 unfold dU at HP
 rw [hk] at htp
 simp only [hk] at HP
 cases his:isL ah.job l s with
 | true=>
  rw [his] at htp
  simp only [his] at HP
  obtain⟨y,hy,hky⟩:=l7 his
  rw [hk] at hy
  have hkn:k<n:=by have:=(List.getElem?_eq_some_iff.1 hy).1; omega
  obtain⟨g,cap,hA,hcap⟩:=ho.form (by omega)
  injection hA with hA _ hc
  subst hA; subst hc
  rw [if_pos rfl] at htp
  rw [htp]
  obtain⟨m,rfl⟩:∃ m,n=m+1:=⟨n - 1,by omega⟩
  have HD:=hid (fun W (hb:Below w.heap.size w W)=>Fh base g m c k l W (aC ho hb) hl (by omega) (by omega))
  have hw1:IntKind.i64.wrap ((k:Int)+1)=(k:Int)+1:=by rw [IntKind.wrap_i64]; omega
  clear htp his hy hky hk hl ho hs
  go_enter Tryz.func143,Tryz.ntmps143
  go_wp2_with fail
  refine Calls.mono HP.out ?_
  rintro e w3 ⟨rfl,hb3⟩
  have Hb3:=hid hb3
  clear hb3
  go_wp2_with fail
  refine Calls.mono (HD.out _ Hb3.out) ?_
  rintro e w5 ⟨A',m',c',rfl,hm,ho',hg'⟩
  have aS:=hid (show sQ ay base 38 3 (some ⟨g,0,none⟩) (m+1) c (l.take k ++ l.drop (k+1)) true w (.returned (.tuple #[.slice A' m' c',.bool true])) w5 from ⟨A',m',c',rfl,hm,ho',cE.after Hb3.out hg'⟩)
  clear hm ho' hg'
  go_wp2
  go_ret2
  exact aS.out
 | false=>
  rw [his] at htp
  simp only [his] at HP
  rw [if_neg (by decide)] at htp
  rw [htp]
  clear htp his hk hl ho hs
  go_enter Tryz.func143,Tryz.ntmps143
  go_wp2_with fail
  refine Calls.mono HP.out ?_
  rintro e w3 ⟨rfl,hb3⟩
  have aS:=hid (show sQ ay base 38 3 A n c l false w (.returned (.tuple #[.slice A n c,.bool false])) w3 from ⟨A,n,c,rfl,Hl.out.symm,aC Ho.out hb3,cE.after hb3 (cE.refl _ _)⟩)
  clear hb3
  go_wp2
  go_ret2
  exact aS.out
end Go.Proofs.YtoeejfhdjmkpcaaGreatDoor
