/- Of the proof of a statement: ChgW. -/
import Derived.Test.YtoeejfhdjmkpcaaGreatDoorUChg
set_option linter.unusedVariables false
set_option linter.unusedSimpArgs false
set_option maxRecDepth 100000
set_option maxHeartbeats 8000000
/- The walks of changed, at jobs, nodes and leases. -/
namespace Go.Proofs.YtoeejfhdjmkpcaaGreatDoor
open Go.Lib (hid)
open List (foldl_cons foldl_nil setIfInBounds_toArray set_cons_succ set_cons_zero)
open Go.RowKit Go.Maps
theorem bX.del {w:World} {b n:Nat} {g:ByteArray→Option Value} {t e:TypeId} (h:bX w b n g) (ht : Tryz.prog.underlying t=some (.map 9 e)) (s:ByteArray) (hs:s.size≤maxLen) (ty:TypeId) :
 ∃ w',(Builtin.delete_ #[t,9] ty #[.map (some b),.string s]).run Tryz.prog w = .ok (.tuple #[]) w'∧bX w' b n (fun x=>if x=s then none else g x)∧w.grownBy w' (some b):=by
 obtain⟨D,ho,hD⟩:=h
 obtain⟨w',hr,ho',hg⟩:=ho.drop yR ht (Go.WideMaps.keyOf_string_mk Tryz.underlying9 hs) ty
 refine⟨w',hr,⟨_,ho',fun x z=>?_⟩,hg.grown⟩
 by_cases hx:x=s
 · subst hx
   rw [atKey_del_same]
   simp
 · rw [atKey_del_other (fun e=>hx (data_inj e)),hD x z]
   simp [hx]
def sI {α:Type} (key:α→ByteArray) (T:TypeId) (sz:Nat) (enc:α→List Value) (rows set:List α) (gone:List ByteArray) (w:World) (e:Ending) (w':World):Prop:=
 Below w.heap.size w w'∧((aY key rows gone=true∧e = .returned (.tuple #[.slice none 0 0,.bool false])) ∨
  (aY key rows gone=false∧∃ A c,e = .returned (.tuple #[.slice A (bV key rows set gone).length c,.bool true]) ∧
   w'.ownsRow w.heap.size T sz (.slice A (bV key rows set gone).length c) (bV key rows set gone).length (au enc (bV key rows set gone))))
structure jU (w0:World) (K:Value) (n:Nat) (g:ByteArray→Option Value) (wr:World):Prop where
 below:Below w0.heap.size w0 wr
 key:wr.cell? ⟨w0.heap.size,0,none⟩=some K
 size:w0.heap.size+1<wr.heap.size
 map:bX wr (w0.heap.size+1) n g
theorem jU.kept {w0 w w':World} {K:Value} {n:Nat} {g:ByteArray→Option Value} (h:jU w0 K n g w) (hb:Below w.heap.size w w'):jU w0 K n g w':=
 ⟨h.below.trans (hb.mono h.below.size),(hb.cell (p:=⟨w0.heap.size,0,none⟩) (by show w0.heap.size<w.heap.size; have:=h.size; omega)).trans h.key,Nat.lt_of_lt_of_le h.size hb.size,h.map.below hb h.map.lt⟩
theorem jU.turned {w0 w w':World} {K:Value} {n m:Nat} {g g':ByteArray→Option Value} (h:jU w0 K n g w) (hg:w.grownBy w' (some (w0.heap.size+1))) (hm:bX w' (w0.heap.size+1) m g'):jU w0 K m g' w':=
 ⟨below_grown h.below hg (Nat.le_succ _),gI hg (by omega) h.key,Nat.lt_of_lt_of_le h.size hg.size,hm⟩
def cgV (mb:Nat) (K X:Value) (s:ByteArray) (i:Nat) (u:Value):Prop:=
 match i with
 | 0=>u = .map (some mb)
 | 1=>u=K
 | 2=>u=X
 | 3=>u = .string s
 | 4=>u=X
 | _=>True
def EP (W1:World) (mb m:Nat) (g':ByteArray→Option Value) (p:Nat) (wx:World):Prop:=
 (p≤1→Below W1.heap.size W1 wx)∧(2≤p→∃ wm,Below W1.heap.size W1 wm∧wm.grownBy wx (some mb)∧bX wx mb m g')
theorem lM {α:Type} {V:α→Value} {a b:ByteArray→Option α} {q:ByteArray} {x:α} (h:∀ s,a s=if s=q then some x else b s) (s:ByteArray):(if s=q then some (V x) else (b s).map V)=(a s).map V:=by
 rw [h]; split <;> rfl
theorem uz {α:Type} {V:α→Value} {a b:ByteArray→Option α} {q:ByteArray} (h:∀ s,a s=if s=q then none else b s) (s:ByteArray):(if s=q then none else (b s).map V)=(a s).map V:=by
 rw [h]; split <;> rfl
theorem Bd (rows set:List aA) (gone:List ByteArray) (A B G:Option Addr) (n cA m cB q cG:Nat) (w:World) (ha:aQ w w.heap.size 5 A n (au aJ rows)) (la:rows.length=n) (hn:n≤40) (hb:aQ w w.heap.size 5 B m (au aJ set)) (lb:set.length=m) (hm:m≤40)
 (hg:aQ w w.heap.size 1 G q (au jh gone)) (lg:gone.length=q) (hq:q≤1000) (hr:aK aA.name rows) (hs:aK aA.name set) (hgd:gone.Pairwise fun a b=>a≠b)
 (ho1:∀ x ∈ rows,(aA.name x).size≤maxLen) (ho2:∀ x ∈ set,(aA.name x).size≤maxLen) (ho3:∀ x ∈ gone,x.size≤maxLen) :
 Calls Tryz.prog 82 #[.slice A n cA,.slice B m cB,.slice G q cG,.func (.func 83) #[] #[]] w (sI aA.name 34 5 aJ rows set gone w):=by
 have HA0:=hid ha
 have HB0:=hid hb
 have HG0:=hid hg
 have La:=hid la
 have Lb:=hid lb
 have Lg:=hid lg
 have HR:=hid hr
 have HS:=hid hs
 have HGd:=hid hgd
 have Ho1:=hid ho1
 have Ho2:=hid ho2
 have Ho3:=hid ho3
 have H0:=hid (show jU w (.func (.func 83) #[] #[]) 0 (fun s=>(eA aA.name (rows.take 0) [] [] s).map (fun x:aA=>Value.agg (aJ x).toArray)) ((w.alloc (.cells #[.func (.func 83) #[] #[]] 160)).alloc (.map #[] 0)) from
  ⟨((Below.refl _ _).alloc (Nat.le_refl _) _).alloc (by simp) _,by simp [go_sem],by simp,by
   have h:=bX.made (w.alloc (.cells #[.func (.func 83) #[] #[]] 160))
   rw [show (w.alloc (.cells #[.func (.func 83) #[] #[]] 160)).heap.size=w.heap.size+1 by simp] at h
   exact h.congr (fun s=>by simp [eA])⟩)
 have hmk:=fun t W=>run_makeMap (P:=Tryz.prog) t W
 clear ha hb hg la lb lg hr hs hgd ho1 ho2 ho3
 go_enter Tryz.func82,Tryz.ntmps82
 go_wp2
 clear hmk
 go_loopw [22] (fun i wr=>∃ k:Nat,k≤n∧i = .int .i64 k∧jU w (.func (.func 83) #[] #[]) k (fun s=>(eA aA.name (rows.take k) [] [] s).map (fun x:aA=>Value.agg (aJ x).toArray)) wr) (fun i _=>n - (intOf i).toNat)
 case atStart=>exact⟨0,Nat.zero_le _,rfl,H0.out⟩
 case round=>
  clear H0
  obtain⟨k,hk,rfl,hat⟩:=hrel
  have HA:=hid hat
  have hsz:=hat.size
  have hbs:=hat.below.size
  clear hat
  by_cases hlt:k<n
  · obtain⟨x,hf⟩:∃ x,rows[k]? = some x:=⟨_,List.getElem?_eq_getElem (by rw [La.out]; exact hlt)⟩
    obtain⟨bb,off,hao,hbB,hc⟩:=(HA0.out.below HA.out.below).cR aP La.out hf
    subst hao
    have Hf:=hid hf
    obtain⟨name,prio,need,tries,tag⟩:=x
    obtain⟨e0,e1,e2,e3,e4⟩:=rc5 hc
    have hlb:bb<wr.heap.size:=by omega
    obtain⟨W1,hW1⟩:∃ W1,wr.alloc (.cells #[.string name,.int .i64 prio,.int .i64 need,.int .i64 tries,.string tag] 34)=W1:=⟨_,rfl⟩
    have hB1:Below wr.heap.size wr W1:=by rw [← hW1]; exact (Below.refl _ _).alloc (Nat.le_refl _) _
    have HY:=hid (show Blk W1 wr.heap.size 34 #[.string name,.int .i64 prio,.int .i64 need,.int .i64 tries,.string tag] from by rw [← hW1]; exact heap_alloc_new wr _)
    have HA1:=hid (HA.out.kept hB1)
    have hsz1:=hB1.size
    have hyl:=HY.out.lt
    have HW1:=hid hW1
    have HSt:=hid (lM (V:=(fun x:aA=>Value.agg (aJ x).toArray)) (xB (key:=aA.name) (cF HR.out) Hf.out))
    have hml:w.heap.size+1<W1.heap.size:=HA1.out.size
    clear hc hB1 hW1 hf
    go_wp2_with fail
    rw [HW1.out]
    refine cH (n:=65) (Γ:=Unit) (by kernel_rfl) (fun _=>cgV (w.heap.size+1) (.func (.func 83) #[] #[]) (.agg #[.string name,.int .i64 prio,.int .i64 need,.int .i64 tries,.string tag]) name) [3,5] (fun p _=>EP W1 (w.heap.size+1) (k+1) (fun s=>(eA aA.name (rows.take (k+1)) [] [] s).map (fun x:aA=>Value.agg (aJ x).toArray)) p) () (by decide +kernel) (by decide +kernel) rfl ⟨fun _=>(Below.refl _ W1).drew,fun h=>absurd h (by omega)⟩ ?_ ?_
    · refine⟨?_,?_,?_,?_,?_,?_,trivial⟩
      · refine okP 0 1 fun p γ a wx _ _ hp hk=>?_
        have h1:=hk.k 10 rfl
        simp [go_sem,Oper.wp,execOp,Act.eval,h1]
        exact⟨_,rfl,rfl,hp⟩
      · refine okP 0 0 fun p γ a wx _ hph hp hk=>?_
        have h1:=hk.k 7 rfl
        have hc:wx.cell? ⟨w.heap.size,0,none⟩=some (.func (.func 83) #[] #[]):=((hp.1 (by omega)).cell (p:=⟨w.heap.size,0,none⟩) (by show w.heap.size<_; omega)).trans HA1.out.key
        simp [go_sem,Oper.wp,execOp,Act.eval,h1,hc]
        exact⟨_,rfl,rfl,hp⟩
      · refine okP 0 0 fun p γ a wx _ hph hp hk=>?_
        have h1:=hk.k 12 rfl
        have hbx:=HY.out.below (hp.1 (by omega)) hyl
        obtain⟨c0,c1,c2,c3,c4⟩:=Blk.c5 (hbx)
        simp [go_sem,Oper.wp,execOp,Act.eval,h1,c0,c1,c2,c3,c4]
        exact⟨_,rfl,rfl,hp⟩
      · refine⟨rfl,.inl ⟨0,rfl,fun γ a wx hp hk=>?_⟩⟩
        obtain⟨u1,h1,rfl⟩:=hk.g 1 27 rfl rfl
        obtain⟨u2,h2,rfl⟩:=hk.g 2 28 rfl rfl
        simp [go_sem,Oper.wp,execOp,Act.eval,h1,h2]
        refine (fL _ _ _ _ _ wx).mono ?_
        rintro e w' ⟨rfl,hb⟩
        exact⟨_,rfl,rfl,fun _=>(hp.1 (by omega)).trans (hb.mono (hp.1 (by omega)).size),fun h=>absurd h (by omega)⟩
      · refine okP 0 1 fun p γ a wx _ hph hp hk=>?_
        have h1:=hk.k 12 rfl
        have hbx:=HY.out.below (hp.1 (by omega)) hyl
        obtain⟨c0,c1,c2,c3,c4⟩:=Blk.c5 (hbx)
        simp [go_sem,Oper.wp,execOp,Act.eval,h1,c0,c1,c2,c3,c4]
        exact⟨_,rfl,rfl,hp⟩
      · refine⟨rfl,.inl ⟨1,rfl,fun γ a wx hp hk=>?_⟩⟩
        obtain⟨u1,h1,rfl⟩:=hk.g 0 26 rfl rfl
        obtain⟨u2,h2,rfl⟩:=hk.g 3 29 rfl rfl
        obtain⟨u3,h3,rfl⟩:=hk.g 4 30 rfl rfl
        obtain⟨w',hr,hm',hg'⟩:=(HA1.out.map.below (hp.1 (by omega)) hml).put Tryz.underlying260 (by unfold maxLen; omega) name (Ho1.out _ (List.mem_of_getElem? Hf.out)) (.agg #[.string name,.int .i64 prio,.int .i64 need,.int .i64 tries,.string tag])
        simp [go_sem,Oper.wp,execOp,Act.eval,h1,h2,h3,hr]
        exact⟨⟨.int .i64 0,trivial⟩,fun h=>absurd h (by omega),fun _=>⟨wx,hp.1 (by omega),hg',hm'.congr (fun s=>HSt.out s)⟩⟩
    · intro γ a wx hd
      obtain⟨wm,hbm,hgm,hmm⟩:=hd.ph.2 (by decide)
      obtain⟨fv,rfl,-⟩:=hd.frame [26,27,28,29,30] rfl
      have HC:=hid ((HA1.out.kept hbm).turned hgm hmm)
      clear hd hbm hgm hmm
      simp only [foldl_cons,foldl_nil,setIfInBounds_toArray,set_cons_succ,set_cons_zero]
      go_wp2
      go_roundw
      case rel=>exact⟨k+1,by omega,by go_num,HC.out⟩
      case measure=>simp [intOf]; omega
  · have HE:=hid (show jU w (.func (.func 83) #[] #[]) k (fun s=>(eA aA.name rows (gone.take 0) [] s).map (fun x:aA=>Value.agg (aJ x).toArray)) wr from ⟨HA.out.below,HA.out.key,HA.out.size,HA.out.map.congr (fun s=>by rw [List.take_of_length_le (by rw [La.out]; omega)]; rfl)⟩)
    have hk40:k≤40:=by omega
    clear HA HA0 hsz hbs
    go_wp2
    clear hlt
    go_loopw [34] (fun i wr=>∃ kk:Nat,kk≤q∧i = .int .i64 kk∧aY aA.name rows (gone.take kk)=false∧jU w (.func (.func 83) #[] #[]) k (fun s=>(eA aA.name rows (gone.take kk) [] s).map (fun x:aA=>Value.agg (aJ x).toArray)) wr) (fun i _=>q - (intOf i).toNat)
    case atStart=>exact⟨0,Nat.zero_le _,rfl,rfl,HE.out⟩
    case round=>
     clear HE
     obtain⟨kk,hkk,rfl,Be,hat⟩:=hrel
     have HA:=hid hat
     have HM:=hid Be
     have hsz:=hat.size
     have hbs:=hat.below.size
     clear hat Be
     by_cases hlt:kk<q
     · obtain⟨s,hf⟩:∃ x,gone[kk]? = some x:=⟨_,List.getElem?_eq_getElem (by rw [Lg.out]; exact hlt)⟩
       obtain⟨bb,off,hao,hbB,hc⟩:=(HG0.out.below HA.out.below).cR eC Lg.out hf
       subst hao
       have Hf:=hid hf
       have e0:wr.cell? ⟨bb,off+kk*1,none⟩=some (.string s):=hc 0 _ rfl
       rw [Nat.mul_one] at e0
       have hlb:bb<wr.heap.size:=by omega
       have hss:=hid (Ho3.out s (List.mem_of_getElem? hf))
       have hlk:=HA.out.map.look_ok Tryz.underlying260 (Tryz.zeroValue34 wr) s hss.out
       have His:=hid (Af (key:=aA.name) (rows:=rows) HGd.out hf)
       clear hc hf
       cases ht:eA aA.name rows (gone.take kk) [] s with
       | none=>
        rw [ht] at hlk
        simp only [Option.map_none,Option.getD_none,Option.isSome_none] at hlk
        have fin:=hid (oU (key:=aA.name) Hf.out (by rw [← His.out,ht]; rfl))
        have Hb:=hid (HA.out.below.alloc hbs (.cells #[.string ⟨#[]⟩,.int .i64 0,.int .i64 0,.int .i64 0,.string ⟨#[]⟩] 34))
        clear ht
        go_wp2
        go_ret2
        exact⟨Hb.out,.inl ⟨fin.out,rfl⟩⟩
       | some r=>
        rw [ht] at hlk
        simp only [Option.map_some,Option.getD_some,Option.isSome_some] at hlk
        have hany:(rows.any fun r=>decide (aA.name r=s))=true:=by rw [← His.out,ht]; rfl
        have fin:=hid (nW (key:=aA.name) Hf.out HM.out hany)
        have HSt:=hid (uz (V:=(fun x:aA=>Value.agg (aJ x).toArray)) (uA (key:=aA.name) (rows:=rows) Hf.out))
        obtain⟨name,prio,need,tries,tag⟩:=r
        replace hlk:(Instr.lookup 260 (.map (some (w.heap.size+1))) (.string s) true).run Tryz.prog wr = .ok (.tuple #[.agg #[.string name,.int .i64 prio,.int .i64 need,.int .i64 tries,.string tag],.bool true]) wr:=hlk
        have HA1:=hid (HA.out.kept ((Below.refl wr.heap.size wr).alloc (Nat.le_refl _) (.cells #[.string name,.int .i64 prio,.int .i64 need,.int .i64 tries,.string tag] 34)))
        obtain⟨wd,hdr,hdm,hdg⟩:=HA1.out.map.del Tryz.underlying260 s hss.out 0
        have HC:=hid (HA1.out.turned hdg (hdm.congr (fun s=>HSt.out s)))
        clear ht hany hdm hdg
        go_wp2
        go_roundw
        case rel=>exact⟨kk+1,by omega,by go_num,fin.out,HC.out⟩
        case measure=>simp [intOf]; omega
     · have Hmf:=hid (oV (key:=aA.name) HM.out (by rw [Lg.out]; omega))
       have HE:=hid (show jU w (.func (.func 83) #[] #[]) (k+0) (fun s=>(eA aA.name rows gone (set.take 0) s).map (fun x:aA=>Value.agg (aJ x).toArray)) wr from ⟨HA.out.below,HA.out.key,HA.out.size,HA.out.map.congr (fun s=>by rw [List.take_of_length_le (by rw [Lg.out]; omega)]; rfl)⟩)
       clear HA HM HG0 hsz hbs
       go_wp2
       clear hlt
       go_loopw [51] (fun i wr=>∃ kk:Nat,kk≤m∧i = .int .i64 kk∧jU w (.func (.func 83) #[] #[]) (k+kk) (fun s=>(eA aA.name rows gone (set.take kk) s).map (fun x:aA=>Value.agg (aJ x).toArray)) wr) (fun i _=>m - (intOf i).toNat)
       case atStart=>exact⟨0,Nat.zero_le _,rfl,HE.out⟩
       case round=>
        clear HE
        obtain⟨kk,hkk,rfl,hat⟩:=hrel
        have HA:=hid hat
        have hsz:=hat.size
        have hbs:=hat.below.size
        clear hat
        by_cases hlt:kk<m
        · obtain⟨x,hf⟩:∃ x,set[kk]? = some x:=⟨_,List.getElem?_eq_getElem (by rw [Lb.out]; exact hlt)⟩
          obtain⟨bb,off,hao,hbB,hc⟩:=(HB0.out.below HA.out.below).cR aP Lb.out hf
          subst hao
          have Hf:=hid hf
          obtain⟨name,prio,need,tries,tag⟩:=x
          obtain⟨e0,e1,e2,e3,e4⟩:=rc5 hc
          have hlb:bb<wr.heap.size:=by omega
          obtain⟨W1,hW1⟩:∃ W1,wr.alloc (.cells #[.string name,.int .i64 prio,.int .i64 need,.int .i64 tries,.string tag] 34)=W1:=⟨_,rfl⟩
          have hB1:Below wr.heap.size wr W1:=by rw [← hW1]; exact (Below.refl _ _).alloc (Nat.le_refl _) _
          have HY:=hid (show Blk W1 wr.heap.size 34 #[.string name,.int .i64 prio,.int .i64 need,.int .i64 tries,.string tag] from by rw [← hW1]; exact heap_alloc_new wr _)
          have HA1:=hid (HA.out.kept hB1)
          have hsz1:=hB1.size
          have hyl:=HY.out.lt
          have HW1:=hid hW1
          have HSt:=hid (lM (V:=(fun x:aA=>Value.agg (aJ x).toArray)) (xC (key:=aA.name) (rows:=rows) (gone:=gone) (cF HS.out) Hf.out))
          have hml:w.heap.size+1<W1.heap.size:=HA1.out.size
          clear hc hB1 hW1 hf
          go_wp2_with fail
          rw [HW1.out]
          refine cH (n:=65) (Γ:=Unit) (by kernel_rfl) (fun _=>cgV (w.heap.size+1) (.func (.func 83) #[] #[]) (.agg #[.string name,.int .i64 prio,.int .i64 need,.int .i64 tries,.string tag]) name) [3,5] (fun p _=>EP W1 (w.heap.size+1) ((k+kk)+1) (fun s=>(eA aA.name rows gone (set.take (kk+1)) s).map (fun x:aA=>Value.agg (aJ x).toArray)) p) () (by decide +kernel) (by decide +kernel) rfl ⟨fun _=>(Below.refl _ W1).drew,fun h=>absurd h (by omega)⟩ ?_ ?_
          · refine⟨?_,?_,?_,?_,?_,?_,trivial⟩
            · refine okP 0 1 fun p γ a wx _ _ hp hk=>?_
              have h1:=hk.k 10 rfl
              simp [go_sem,Oper.wp,execOp,Act.eval,h1]
              exact⟨_,rfl,rfl,hp⟩
            · refine okP 0 0 fun p γ a wx _ hph hp hk=>?_
              have h1:=hk.k 7 rfl
              have hc:wx.cell? ⟨w.heap.size,0,none⟩=some (.func (.func 83) #[] #[]):=((hp.1 (by omega)).cell (p:=⟨w.heap.size,0,none⟩) (by show w.heap.size<_; omega)).trans HA1.out.key
              simp [go_sem,Oper.wp,execOp,Act.eval,h1,hc]
              exact⟨_,rfl,rfl,hp⟩
            · refine okP 0 0 fun p γ a wx _ hph hp hk=>?_
              have h1:=hk.k 18 rfl
              have hbx:=HY.out.below (hp.1 (by omega)) hyl
              obtain⟨c0,c1,c2,c3,c4⟩:=Blk.c5 (hbx)
              simp [go_sem,Oper.wp,execOp,Act.eval,h1,c0,c1,c2,c3,c4]
              exact⟨_,rfl,rfl,hp⟩
            · refine⟨rfl,.inl ⟨0,rfl,fun γ a wx hp hk=>?_⟩⟩
              obtain⟨u1,h1,rfl⟩:=hk.g 1 56 rfl rfl
              obtain⟨u2,h2,rfl⟩:=hk.g 2 57 rfl rfl
              simp [go_sem,Oper.wp,execOp,Act.eval,h1,h2]
              refine (fL _ _ _ _ _ wx).mono ?_
              rintro e w' ⟨rfl,hb⟩
              exact⟨_,rfl,rfl,fun _=>(hp.1 (by omega)).trans (hb.mono (hp.1 (by omega)).size),fun h=>absurd h (by omega)⟩
            · refine okP 0 1 fun p γ a wx _ hph hp hk=>?_
              have h1:=hk.k 18 rfl
              have hbx:=HY.out.below (hp.1 (by omega)) hyl
              obtain⟨c0,c1,c2,c3,c4⟩:=Blk.c5 (hbx)
              simp [go_sem,Oper.wp,execOp,Act.eval,h1,c0,c1,c2,c3,c4]
              exact⟨_,rfl,rfl,hp⟩
            · refine⟨rfl,.inl ⟨1,rfl,fun γ a wx hp hk=>?_⟩⟩
              obtain⟨u1,h1,rfl⟩:=hk.g 0 55 rfl rfl
              obtain⟨u2,h2,rfl⟩:=hk.g 3 58 rfl rfl
              obtain⟨u3,h3,rfl⟩:=hk.g 4 59 rfl rfl
              obtain⟨w',hr,hm',hg'⟩:=(HA1.out.map.below (hp.1 (by omega)) hml).put Tryz.underlying260 (by unfold maxLen; omega) name (Ho2.out _ (List.mem_of_getElem? Hf.out)) (.agg #[.string name,.int .i64 prio,.int .i64 need,.int .i64 tries,.string tag])
              simp [go_sem,Oper.wp,execOp,Act.eval,h1,h2,h3,hr]
              exact⟨⟨.int .i64 0,trivial⟩,fun h=>absurd h (by omega),fun _=>⟨wx,hp.1 (by omega),hg',hm'.congr (fun s=>HSt.out s)⟩⟩
          · intro γ a wx hd
            obtain⟨wm,hbm,hgm,hmm⟩:=hd.ph.2 (by decide)
            obtain⟨fv,rfl,-⟩:=hd.frame [55,56,57,58,59] rfl
            have HC:=hid ((HA1.out.kept hbm).turned hgm hmm)
            clear hd hbm hgm hmm
            simp only [foldl_cons,foldl_nil,setIfInBounds_toArray,set_cons_succ,set_cons_zero]
            go_wp2
            go_roundw
            case rel=>exact⟨kk+1,by omega,by go_num,HC.out⟩
            case measure=>simp [intOf]; omega
        · have HE:=hid (show jU w (.func (.func 83) #[] #[]) (k+kk) (fun s=>(eA aA.name rows gone set s).map (fun x:aA=>Value.agg (aJ x).toArray)) wr from ⟨HA.out.below,HA.out.key,HA.out.size,HA.out.map.congr (fun s=>by rw [List.take_of_length_le (by rw [Lb.out]; omega)])⟩)
          have hB1:Below wr.heap.size wr (wr.alloc (.cells #[.map (some (w.heap.size+1))] 260)):=(Below.refl _ _).alloc (Nat.le_refl _) _
          have HE1:=HE.out.kept hB1
          have HC:=hid (JK wr.heap.size (w.heap.size+1) (k+kk) w.heap.size (by omega) rows set gone _ (by simp [go_sem]) HE1.map HE1.key HR.out HS.out)
          have HB:=hid HE1.below
          have hmf:∀ (fn:Fn) (first cap:Array Value) (w:World),(Instr.makeFunc fn first cap).run Tryz.prog w = .ok (.func fn first cap) w:=fun _ _ _ _=>rfl
          clear HA HE hB1 HE1
          go_wp2_with fail
          refine Calls.mono (CM _ _) ?_
          rintro e w1 ⟨rfl,rfl⟩
          go_wp2_with fail
          refine Calls.mono HC.out ?_
          rintro e w2 ⟨A2,c2,rfl,hown,hb2⟩
          have H2:=hid (HB.out.trans (hb2.mono HB.out.size))
          have H3:=hid (bL hown HB.out.size)
          clear hown hb2
          go_wp2
          go_ret2
          exact⟨H2.out,.inr ⟨Hmf.out,A2,c2,rfl,H3.out⟩⟩
theorem Ag (rows set:List av) (gone:List ByteArray) (A B G:Option Addr) (n cA m cB q cG:Nat) (w:World) (ha:aQ w w.heap.size 3 A n (au aB rows)) (la:rows.length=n) (hn:n≤40) (hb:aQ w w.heap.size 3 B m (au aB set)) (lb:set.length=m) (hm:m≤40)
 (hg:aQ w w.heap.size 1 G q (au jh gone)) (lg:gone.length=q) (hq:q≤1000) (hr:aK av.name rows) (hs:aK av.name set) (hgd:gone.Pairwise fun a b=>a≠b)
 (ho1:∀ x ∈ rows,(av.name x).size≤maxLen) (ho2:∀ x ∈ set,(av.name x).size≤maxLen) (ho3:∀ x ∈ gone,x.size≤maxLen) :
 Calls Tryz.prog 84 #[.slice A n cA,.slice B m cB,.slice G q cG,.func (.func 85) #[] #[]] w (sI av.name 36 3 aB rows set gone w):=by
 have HA0:=hid ha
 have HB0:=hid hb
 have HG0:=hid hg
 have La:=hid la
 have Lb:=hid lb
 have Lg:=hid lg
 have HR:=hid hr
 have HS:=hid hs
 have HGd:=hid hgd
 have Ho1:=hid ho1
 have Ho2:=hid ho2
 have Ho3:=hid ho3
 have H0:=hid (show jU w (.func (.func 85) #[] #[]) 0 (fun s=>(eA av.name (rows.take 0) [] [] s).map (fun x:av=>Value.agg (aB x).toArray)) ((w.alloc (.cells #[.func (.func 85) #[] #[]] 163)).alloc (.map #[] 0)) from
  ⟨((Below.refl _ _).alloc (Nat.le_refl _) _).alloc (by simp) _,by simp [go_sem],by simp,by
   have h:=bX.made (w.alloc (.cells #[.func (.func 85) #[] #[]] 163))
   rw [show (w.alloc (.cells #[.func (.func 85) #[] #[]] 163)).heap.size=w.heap.size+1 by simp] at h
   exact h.congr (fun s=>by simp [eA])⟩)
 have hmk:=fun t W=>run_makeMap (P:=Tryz.prog) t W
 clear ha hb hg la lb lg hr hs hgd ho1 ho2 ho3
 go_enter Tryz.func84,Tryz.ntmps84
 go_wp2
 clear hmk
 go_loopw [22] (fun i wr=>∃ k:Nat,k≤n∧i = .int .i64 k∧jU w (.func (.func 85) #[] #[]) k (fun s=>(eA av.name (rows.take k) [] [] s).map (fun x:av=>Value.agg (aB x).toArray)) wr) (fun i _=>n - (intOf i).toNat)
 case atStart=>exact⟨0,Nat.zero_le _,rfl,H0.out⟩
 case round=>
  clear H0
  obtain⟨k,hk,rfl,hat⟩:=hrel
  have HA:=hid hat
  have hsz:=hat.size
  have hbs:=hat.below.size
  clear hat
  by_cases hlt:k<n
  · obtain⟨x,hf⟩:∃ x,rows[k]? = some x:=⟨_,List.getElem?_eq_getElem (by rw [La.out]; exact hlt)⟩
    obtain⟨bb,off,hao,hbB,hc⟩:=(HA0.out.below HA.out.below).cR aL La.out hf
    subst hao
    have Hf:=hid hf
    obtain⟨name,room,zone⟩:=x
    obtain⟨e0,e1,e2⟩:=rc3 hc
    have hlb:bb<wr.heap.size:=by omega
    obtain⟨W1,hW1⟩:∃ W1,wr.alloc (.cells #[.string name,.int .i64 room,.string zone] 36)=W1:=⟨_,rfl⟩
    have hB1:Below wr.heap.size wr W1:=by rw [← hW1]; exact (Below.refl _ _).alloc (Nat.le_refl _) _
    have HY:=hid (show Blk W1 wr.heap.size 36 #[.string name,.int .i64 room,.string zone] from by rw [← hW1]; exact heap_alloc_new wr _)
    have HA1:=hid (HA.out.kept hB1)
    have hsz1:=hB1.size
    have hyl:=HY.out.lt
    have HW1:=hid hW1
    have HSt:=hid (lM (V:=(fun x:av=>Value.agg (aB x).toArray)) (xB (key:=av.name) (cF HR.out) Hf.out))
    have hml:w.heap.size+1<W1.heap.size:=HA1.out.size
    clear hc hB1 hW1 hf
    go_wp2_with fail
    rw [HW1.out]
    refine cH (n:=65) (Γ:=Unit) (by kernel_rfl) (fun _=>cgV (w.heap.size+1) (.func (.func 85) #[] #[]) (.agg #[.string name,.int .i64 room,.string zone]) name) [3,5] (fun p _=>EP W1 (w.heap.size+1) (k+1) (fun s=>(eA av.name (rows.take (k+1)) [] [] s).map (fun x:av=>Value.agg (aB x).toArray)) p) () (by decide +kernel) (by decide +kernel) rfl ⟨fun _=>(Below.refl _ W1).drew,fun h=>absurd h (by omega)⟩ ?_ ?_
    · refine⟨?_,?_,?_,?_,?_,?_,trivial⟩
      · refine okP 0 1 fun p γ a wx _ _ hp hk=>?_
        have h1:=hk.k 10 rfl
        simp [go_sem,Oper.wp,execOp,Act.eval,h1]
        exact⟨_,rfl,rfl,hp⟩
      · refine okP 0 0 fun p γ a wx _ hph hp hk=>?_
        have h1:=hk.k 7 rfl
        have hc:wx.cell? ⟨w.heap.size,0,none⟩=some (.func (.func 85) #[] #[]):=((hp.1 (by omega)).cell (p:=⟨w.heap.size,0,none⟩) (by show w.heap.size<_; omega)).trans HA1.out.key
        simp [go_sem,Oper.wp,execOp,Act.eval,h1,hc]
        exact⟨_,rfl,rfl,hp⟩
      · refine okP 0 0 fun p γ a wx _ hph hp hk=>?_
        have h1:=hk.k 12 rfl
        have hbx:=HY.out.below (hp.1 (by omega)) hyl
        have c0:wx.cell? ⟨wr.heap.size,0,none⟩=some (.string name):=hbx.cell 0
        have c1:wx.cell? ⟨wr.heap.size,1,none⟩=some (.int .i64 room):=hbx.cell 1
        have c2:wx.cell? ⟨wr.heap.size,2,none⟩=some (.string zone):=hbx.cell 2
        simp [go_sem,Oper.wp,execOp,Act.eval,h1,c0,c1,c2]
        exact⟨_,rfl,rfl,hp⟩
      · refine⟨rfl,.inl ⟨0,rfl,fun γ a wx hp hk=>?_⟩⟩
        obtain⟨u1,h1,rfl⟩:=hk.g 1 27 rfl rfl
        obtain⟨u2,h2,rfl⟩:=hk.g 2 28 rfl rfl
        simp [go_sem,Oper.wp,execOp,Act.eval,h1,h2]
        refine (eN _ _ _ wx).mono ?_
        rintro e w' ⟨rfl,hb⟩
        exact⟨_,rfl,rfl,fun _=>(hp.1 (by omega)).trans (hb.mono (hp.1 (by omega)).size),fun h=>absurd h (by omega)⟩
      · refine okP 0 1 fun p γ a wx _ hph hp hk=>?_
        have h1:=hk.k 12 rfl
        have hbx:=HY.out.below (hp.1 (by omega)) hyl
        have c0:wx.cell? ⟨wr.heap.size,0,none⟩=some (.string name):=hbx.cell 0
        have c1:wx.cell? ⟨wr.heap.size,1,none⟩=some (.int .i64 room):=hbx.cell 1
        have c2:wx.cell? ⟨wr.heap.size,2,none⟩=some (.string zone):=hbx.cell 2
        simp [go_sem,Oper.wp,execOp,Act.eval,h1,c0,c1,c2]
        exact⟨_,rfl,rfl,hp⟩
      · refine⟨rfl,.inl ⟨1,rfl,fun γ a wx hp hk=>?_⟩⟩
        obtain⟨u1,h1,rfl⟩:=hk.g 0 26 rfl rfl
        obtain⟨u2,h2,rfl⟩:=hk.g 3 29 rfl rfl
        obtain⟨u3,h3,rfl⟩:=hk.g 4 30 rfl rfl
        obtain⟨w',hr,hm',hg'⟩:=(HA1.out.map.below (hp.1 (by omega)) hml).put Tryz.underlying268 (by unfold maxLen; omega) name (Ho1.out _ (List.mem_of_getElem? Hf.out)) (.agg #[.string name,.int .i64 room,.string zone])
        simp [go_sem,Oper.wp,execOp,Act.eval,h1,h2,h3,hr]
        exact⟨⟨.int .i64 0,trivial⟩,fun h=>absurd h (by omega),fun _=>⟨wx,hp.1 (by omega),hg',hm'.congr (fun s=>HSt.out s)⟩⟩
    · intro γ a wx hd
      obtain⟨wm,hbm,hgm,hmm⟩:=hd.ph.2 (by decide)
      obtain⟨fv,rfl,-⟩:=hd.frame [26,27,28,29,30] rfl
      have HC:=hid ((HA1.out.kept hbm).turned hgm hmm)
      clear hd hbm hgm hmm
      simp only [foldl_cons,foldl_nil,setIfInBounds_toArray,set_cons_succ,set_cons_zero]
      go_wp2
      go_roundw
      case rel=>exact⟨k+1,by omega,by go_num,HC.out⟩
      case measure=>simp [intOf]; omega
  · have HE:=hid (show jU w (.func (.func 85) #[] #[]) k (fun s=>(eA av.name rows (gone.take 0) [] s).map (fun x:av=>Value.agg (aB x).toArray)) wr from ⟨HA.out.below,HA.out.key,HA.out.size,HA.out.map.congr (fun s=>by rw [List.take_of_length_le (by rw [La.out]; omega)]; rfl)⟩)
    have hk40:k≤40:=by omega
    clear HA HA0 hsz hbs
    go_wp2
    clear hlt
    go_loopw [34] (fun i wr=>∃ kk:Nat,kk≤q∧i = .int .i64 kk∧aY av.name rows (gone.take kk)=false∧jU w (.func (.func 85) #[] #[]) k (fun s=>(eA av.name rows (gone.take kk) [] s).map (fun x:av=>Value.agg (aB x).toArray)) wr) (fun i _=>q - (intOf i).toNat)
    case atStart=>exact⟨0,Nat.zero_le _,rfl,rfl,HE.out⟩
    case round=>
     clear HE
     obtain⟨kk,hkk,rfl,Be,hat⟩:=hrel
     have HA:=hid hat
     have HM:=hid Be
     have hsz:=hat.size
     have hbs:=hat.below.size
     clear hat Be
     by_cases hlt:kk<q
     · obtain⟨s,hf⟩:∃ x,gone[kk]? = some x:=⟨_,List.getElem?_eq_getElem (by rw [Lg.out]; exact hlt)⟩
       obtain⟨bb,off,hao,hbB,hc⟩:=(HG0.out.below HA.out.below).cR eC Lg.out hf
       subst hao
       have Hf:=hid hf
       have e0:wr.cell? ⟨bb,off+kk*1,none⟩=some (.string s):=hc 0 _ rfl
       rw [Nat.mul_one] at e0
       have hlb:bb<wr.heap.size:=by omega
       have hss:=hid (Ho3.out s (List.mem_of_getElem? hf))
       have hlk:=HA.out.map.look_ok Tryz.underlying268 (Tryz.zeroValue36 wr) s hss.out
       have His:=hid (Af (key:=av.name) (rows:=rows) HGd.out hf)
       clear hc hf
       cases ht:eA av.name rows (gone.take kk) [] s with
       | none=>
        rw [ht] at hlk
        simp only [Option.map_none,Option.getD_none,Option.isSome_none] at hlk
        have fin:=hid (oU (key:=av.name) Hf.out (by rw [← His.out,ht]; rfl))
        have Hb:=hid (HA.out.below.alloc hbs (.cells #[.string ⟨#[]⟩,.int .i64 0,.string ⟨#[]⟩] 36))
        clear ht
        go_wp2
        go_ret2
        exact⟨Hb.out,.inl ⟨fin.out,rfl⟩⟩
       | some r=>
        rw [ht] at hlk
        simp only [Option.map_some,Option.getD_some,Option.isSome_some] at hlk
        have hany:(rows.any fun r=>decide (av.name r=s))=true:=by rw [← His.out,ht]; rfl
        have fin:=hid (nW (key:=av.name) Hf.out HM.out hany)
        have HSt:=hid (uz (V:=(fun x:av=>Value.agg (aB x).toArray)) (uA (key:=av.name) (rows:=rows) Hf.out))
        obtain⟨name,room,zone⟩:=r
        replace hlk:(Instr.lookup 268 (.map (some (w.heap.size+1))) (.string s) true).run Tryz.prog wr = .ok (.tuple #[.agg #[.string name,.int .i64 room,.string zone],.bool true]) wr:=hlk
        have HA1:=hid (HA.out.kept ((Below.refl wr.heap.size wr).alloc (Nat.le_refl _) (.cells #[.string name,.int .i64 room,.string zone] 36)))
        obtain⟨wd,hdr,hdm,hdg⟩:=HA1.out.map.del Tryz.underlying268 s hss.out 0
        have HC:=hid (HA1.out.turned hdg (hdm.congr (fun s=>HSt.out s)))
        clear ht hany hdm hdg
        go_wp2
        go_roundw
        case rel=>exact⟨kk+1,by omega,by go_num,fin.out,HC.out⟩
        case measure=>simp [intOf]; omega
     · have Hmf:=hid (oV (key:=av.name) HM.out (by rw [Lg.out]; omega))
       have HE:=hid (show jU w (.func (.func 85) #[] #[]) (k+0) (fun s=>(eA av.name rows gone (set.take 0) s).map (fun x:av=>Value.agg (aB x).toArray)) wr from ⟨HA.out.below,HA.out.key,HA.out.size,HA.out.map.congr (fun s=>by rw [List.take_of_length_le (by rw [Lg.out]; omega)]; rfl)⟩)
       clear HA HM HG0 hsz hbs
       go_wp2
       clear hlt
       go_loopw [51] (fun i wr=>∃ kk:Nat,kk≤m∧i = .int .i64 kk∧jU w (.func (.func 85) #[] #[]) (k+kk) (fun s=>(eA av.name rows gone (set.take kk) s).map (fun x:av=>Value.agg (aB x).toArray)) wr) (fun i _=>m - (intOf i).toNat)
       case atStart=>exact⟨0,Nat.zero_le _,rfl,HE.out⟩
       case round=>
        clear HE
        obtain⟨kk,hkk,rfl,hat⟩:=hrel
        have HA:=hid hat
        have hsz:=hat.size
        have hbs:=hat.below.size
        clear hat
        by_cases hlt:kk<m
        · obtain⟨x,hf⟩:∃ x,set[kk]? = some x:=⟨_,List.getElem?_eq_getElem (by rw [Lb.out]; exact hlt)⟩
          obtain⟨bb,off,hao,hbB,hc⟩:=(HB0.out.below HA.out.below).cR aL Lb.out hf
          subst hao
          have Hf:=hid hf
          obtain⟨name,room,zone⟩:=x
          obtain⟨e0,e1,e2⟩:=rc3 hc
          have hlb:bb<wr.heap.size:=by omega
          obtain⟨W1,hW1⟩:∃ W1,wr.alloc (.cells #[.string name,.int .i64 room,.string zone] 36)=W1:=⟨_,rfl⟩
          have hB1:Below wr.heap.size wr W1:=by rw [← hW1]; exact (Below.refl _ _).alloc (Nat.le_refl _) _
          have HY:=hid (show Blk W1 wr.heap.size 36 #[.string name,.int .i64 room,.string zone] from by rw [← hW1]; exact heap_alloc_new wr _)
          have HA1:=hid (HA.out.kept hB1)
          have hsz1:=hB1.size
          have hyl:=HY.out.lt
          have HW1:=hid hW1
          have HSt:=hid (lM (V:=(fun x:av=>Value.agg (aB x).toArray)) (xC (key:=av.name) (rows:=rows) (gone:=gone) (cF HS.out) Hf.out))
          have hml:w.heap.size+1<W1.heap.size:=HA1.out.size
          clear hc hB1 hW1 hf
          go_wp2_with fail
          rw [HW1.out]
          refine cH (n:=65) (Γ:=Unit) (by kernel_rfl) (fun _=>cgV (w.heap.size+1) (.func (.func 85) #[] #[]) (.agg #[.string name,.int .i64 room,.string zone]) name) [3,5] (fun p _=>EP W1 (w.heap.size+1) ((k+kk)+1) (fun s=>(eA av.name rows gone (set.take (kk+1)) s).map (fun x:av=>Value.agg (aB x).toArray)) p) () (by decide +kernel) (by decide +kernel) rfl ⟨fun _=>(Below.refl _ W1).drew,fun h=>absurd h (by omega)⟩ ?_ ?_
          · refine⟨?_,?_,?_,?_,?_,?_,trivial⟩
            · refine okP 0 1 fun p γ a wx _ _ hp hk=>?_
              have h1:=hk.k 10 rfl
              simp [go_sem,Oper.wp,execOp,Act.eval,h1]
              exact⟨_,rfl,rfl,hp⟩
            · refine okP 0 0 fun p γ a wx _ hph hp hk=>?_
              have h1:=hk.k 7 rfl
              have hc:wx.cell? ⟨w.heap.size,0,none⟩=some (.func (.func 85) #[] #[]):=((hp.1 (by omega)).cell (p:=⟨w.heap.size,0,none⟩) (by show w.heap.size<_; omega)).trans HA1.out.key
              simp [go_sem,Oper.wp,execOp,Act.eval,h1,hc]
              exact⟨_,rfl,rfl,hp⟩
            · refine okP 0 0 fun p γ a wx _ hph hp hk=>?_
              have h1:=hk.k 18 rfl
              have hbx:=HY.out.below (hp.1 (by omega)) hyl
              have c0:wx.cell? ⟨wr.heap.size,0,none⟩=some (.string name):=hbx.cell 0
              have c1:wx.cell? ⟨wr.heap.size,1,none⟩=some (.int .i64 room):=hbx.cell 1
              have c2:wx.cell? ⟨wr.heap.size,2,none⟩=some (.string zone):=hbx.cell 2
              simp [go_sem,Oper.wp,execOp,Act.eval,h1,c0,c1,c2]
              exact⟨_,rfl,rfl,hp⟩
            · refine⟨rfl,.inl ⟨0,rfl,fun γ a wx hp hk=>?_⟩⟩
              obtain⟨u1,h1,rfl⟩:=hk.g 1 56 rfl rfl
              obtain⟨u2,h2,rfl⟩:=hk.g 2 57 rfl rfl
              simp [go_sem,Oper.wp,execOp,Act.eval,h1,h2]
              refine (eN _ _ _ wx).mono ?_
              rintro e w' ⟨rfl,hb⟩
              exact⟨_,rfl,rfl,fun _=>(hp.1 (by omega)).trans (hb.mono (hp.1 (by omega)).size),fun h=>absurd h (by omega)⟩
            · refine okP 0 1 fun p γ a wx _ hph hp hk=>?_
              have h1:=hk.k 18 rfl
              have hbx:=HY.out.below (hp.1 (by omega)) hyl
              have c0:wx.cell? ⟨wr.heap.size,0,none⟩=some (.string name):=hbx.cell 0
              have c1:wx.cell? ⟨wr.heap.size,1,none⟩=some (.int .i64 room):=hbx.cell 1
              have c2:wx.cell? ⟨wr.heap.size,2,none⟩=some (.string zone):=hbx.cell 2
              simp [go_sem,Oper.wp,execOp,Act.eval,h1,c0,c1,c2]
              exact⟨_,rfl,rfl,hp⟩
            · refine⟨rfl,.inl ⟨1,rfl,fun γ a wx hp hk=>?_⟩⟩
              obtain⟨u1,h1,rfl⟩:=hk.g 0 55 rfl rfl
              obtain⟨u2,h2,rfl⟩:=hk.g 3 58 rfl rfl
              obtain⟨u3,h3,rfl⟩:=hk.g 4 59 rfl rfl
              obtain⟨w',hr,hm',hg'⟩:=(HA1.out.map.below (hp.1 (by omega)) hml).put Tryz.underlying268 (by unfold maxLen; omega) name (Ho2.out _ (List.mem_of_getElem? Hf.out)) (.agg #[.string name,.int .i64 room,.string zone])
              simp [go_sem,Oper.wp,execOp,Act.eval,h1,h2,h3,hr]
              exact⟨⟨.int .i64 0,trivial⟩,fun h=>absurd h (by omega),fun _=>⟨wx,hp.1 (by omega),hg',hm'.congr (fun s=>HSt.out s)⟩⟩
          · intro γ a wx hd
            obtain⟨wm,hbm,hgm,hmm⟩:=hd.ph.2 (by decide)
            obtain⟨fv,rfl,-⟩:=hd.frame [55,56,57,58,59] rfl
            have HC:=hid ((HA1.out.kept hbm).turned hgm hmm)
            clear hd hbm hgm hmm
            simp only [foldl_cons,foldl_nil,setIfInBounds_toArray,set_cons_succ,set_cons_zero]
            go_wp2
            go_roundw
            case rel=>exact⟨kk+1,by omega,by go_num,HC.out⟩
            case measure=>simp [intOf]; omega
        · have HE:=hid (show jU w (.func (.func 85) #[] #[]) (k+kk) (fun s=>(eA av.name rows gone set s).map (fun x:av=>Value.agg (aB x).toArray)) wr from ⟨HA.out.below,HA.out.key,HA.out.size,HA.out.map.congr (fun s=>by rw [List.take_of_length_le (by rw [Lb.out]; omega)])⟩)
          have hB1:Below wr.heap.size wr (wr.alloc (.cells #[.map (some (w.heap.size+1))] 268)):=(Below.refl _ _).alloc (Nat.le_refl _) _
          have HE1:=HE.out.kept hB1
          have HC:=hid (GI wr.heap.size (w.heap.size+1) (k+kk) w.heap.size (by omega) rows set gone _ (by simp [go_sem]) HE1.map HE1.key HR.out HS.out)
          have HB:=hid HE1.below
          have hmf:∀ (fn:Fn) (first cap:Array Value) (w:World),(Instr.makeFunc fn first cap).run Tryz.prog w = .ok (.func fn first cap) w:=fun _ _ _ _=>rfl
          clear HA HE hB1 HE1
          go_wp2_with fail
          refine Calls.mono (Bf _ _) ?_
          rintro e w1 ⟨rfl,rfl⟩
          go_wp2_with fail
          refine Calls.mono HC.out ?_
          rintro e w2 ⟨A2,c2,rfl,hown,hb2⟩
          have H2:=hid (HB.out.trans (hb2.mono HB.out.size))
          have H3:=hid (bL hown HB.out.size)
          clear hown hb2
          go_wp2
          go_ret2
          exact⟨H2.out,.inr ⟨Hmf.out,A2,c2,rfl,H3.out⟩⟩
theorem yS (rows set:List ah) (gone:List ByteArray) (A B G:Option Addr) (n cA m cB q cG:Nat) (w:World) (ha:aQ w w.heap.size 3 A n (au ay rows)) (la:rows.length=n) (hn:n≤40) (hb:aQ w w.heap.size 3 B m (au ay set)) (lb:set.length=m) (hm:m≤40)
 (hg:aQ w w.heap.size 1 G q (au jh gone)) (lg:gone.length=q) (hq:q≤1000) (hr:aK ah.job rows) (hs:aK ah.job set) (hgd:gone.Pairwise fun a b=>a≠b)
 (ho1:∀ x ∈ rows,(ah.job x).size≤maxLen) (ho2:∀ x ∈ set,(ah.job x).size≤maxLen) (ho3:∀ x ∈ gone,x.size≤maxLen) :
 Calls Tryz.prog 86 #[.slice A n cA,.slice B m cB,.slice G q cG,.func (.func 87) #[] #[]] w (sI ah.job 38 3 ay rows set gone w):=by
 have HA0:=hid ha
 have HB0:=hid hb
 have HG0:=hid hg
 have La:=hid la
 have Lb:=hid lb
 have Lg:=hid lg
 have HR:=hid hr
 have HS:=hid hs
 have HGd:=hid hgd
 have Ho1:=hid ho1
 have Ho2:=hid ho2
 have Ho3:=hid ho3
 have H0:=hid (show jU w (.func (.func 87) #[] #[]) 0 (fun s=>(eA ah.job (rows.take 0) [] [] s).map (fun x:ah=>Value.agg (ay x).toArray)) ((w.alloc (.cells #[.func (.func 87) #[] #[]] 166)).alloc (.map #[] 0)) from
  ⟨((Below.refl _ _).alloc (Nat.le_refl _) _).alloc (by simp) _,by simp [go_sem],by simp,by
   have h:=bX.made (w.alloc (.cells #[.func (.func 87) #[] #[]] 166))
   rw [show (w.alloc (.cells #[.func (.func 87) #[] #[]] 166)).heap.size=w.heap.size+1 by simp] at h
   exact h.congr (fun s=>by simp [eA])⟩)
 have hmk:=fun t W=>run_makeMap (P:=Tryz.prog) t W
 clear ha hb hg la lb lg hr hs hgd ho1 ho2 ho3
 go_enter Tryz.func86,Tryz.ntmps86
 go_wp2
 clear hmk
 go_loopw [22] (fun i wr=>∃ k:Nat,k≤n∧i = .int .i64 k∧jU w (.func (.func 87) #[] #[]) k (fun s=>(eA ah.job (rows.take k) [] [] s).map (fun x:ah=>Value.agg (ay x).toArray)) wr) (fun i _=>n - (intOf i).toNat)
 case atStart=>exact⟨0,Nat.zero_le _,rfl,H0.out⟩
 case round=>
  clear H0
  obtain⟨k,hk,rfl,hat⟩:=hrel
  have HA:=hid hat
  have hsz:=hat.size
  have hbs:=hat.below.size
  clear hat
  by_cases hlt:k<n
  · obtain⟨x,hf⟩:∃ x,rows[k]? = some x:=⟨_,List.getElem?_eq_getElem (by rw [La.out]; exact hlt)⟩
    obtain⟨bb,off,hao,hbB,hc⟩:=(HA0.out.below HA.out.below).cR aH La.out hf
    subst hao
    have Hf:=hid hf
    obtain⟨job,node,till⟩:=x
    obtain⟨e0,e1,e2⟩:=rc3 hc
    have hlb:bb<wr.heap.size:=by omega
    obtain⟨W1,hW1⟩:∃ W1,wr.alloc (.cells #[.string job,.string node,.int .i64 till] 38)=W1:=⟨_,rfl⟩
    have hB1:Below wr.heap.size wr W1:=by rw [← hW1]; exact (Below.refl _ _).alloc (Nat.le_refl _) _
    have HY:=hid (show Blk W1 wr.heap.size 38 #[.string job,.string node,.int .i64 till] from by rw [← hW1]; exact heap_alloc_new wr _)
    have HA1:=hid (HA.out.kept hB1)
    have hsz1:=hB1.size
    have hyl:=HY.out.lt
    have HW1:=hid hW1
    have HSt:=hid (lM (V:=(fun x:ah=>Value.agg (ay x).toArray)) (xB (key:=ah.job) (cF HR.out) Hf.out))
    have hml:w.heap.size+1<W1.heap.size:=HA1.out.size
    clear hc hB1 hW1 hf
    go_wp2_with fail
    rw [HW1.out]
    refine cH (n:=65) (Γ:=Unit) (by kernel_rfl) (fun _=>cgV (w.heap.size+1) (.func (.func 87) #[] #[]) (.agg #[.string job,.string node,.int .i64 till]) job) [3,5] (fun p _=>EP W1 (w.heap.size+1) (k+1) (fun s=>(eA ah.job (rows.take (k+1)) [] [] s).map (fun x:ah=>Value.agg (ay x).toArray)) p) () (by decide +kernel) (by decide +kernel) rfl ⟨fun _=>(Below.refl _ W1).drew,fun h=>absurd h (by omega)⟩ ?_ ?_
    · refine⟨?_,?_,?_,?_,?_,?_,trivial⟩
      · refine okP 0 1 fun p γ a wx _ _ hp hk=>?_
        have h1:=hk.k 10 rfl
        simp [go_sem,Oper.wp,execOp,Act.eval,h1]
        exact⟨_,rfl,rfl,hp⟩
      · refine okP 0 0 fun p γ a wx _ hph hp hk=>?_
        have h1:=hk.k 7 rfl
        have hc:wx.cell? ⟨w.heap.size,0,none⟩=some (.func (.func 87) #[] #[]):=((hp.1 (by omega)).cell (p:=⟨w.heap.size,0,none⟩) (by show w.heap.size<_; omega)).trans HA1.out.key
        simp [go_sem,Oper.wp,execOp,Act.eval,h1,hc]
        exact⟨_,rfl,rfl,hp⟩
      · refine okP 0 0 fun p γ a wx _ hph hp hk=>?_
        have h1:=hk.k 12 rfl
        have hbx:=HY.out.below (hp.1 (by omega)) hyl
        have c0:wx.cell? ⟨wr.heap.size,0,none⟩=some (.string job):=hbx.cell 0
        have c1:wx.cell? ⟨wr.heap.size,1,none⟩=some (.string node):=hbx.cell 1
        have c2:wx.cell? ⟨wr.heap.size,2,none⟩=some (.int .i64 till):=hbx.cell 2
        simp [go_sem,Oper.wp,execOp,Act.eval,h1,c0,c1,c2]
        exact⟨_,rfl,rfl,hp⟩
      · refine⟨rfl,.inl ⟨0,rfl,fun γ a wx hp hk=>?_⟩⟩
        obtain⟨u1,h1,rfl⟩:=hk.g 1 27 rfl rfl
        obtain⟨u2,h2,rfl⟩:=hk.g 2 28 rfl rfl
        simp [go_sem,Oper.wp,execOp,Act.eval,h1,h2]
        refine (cZ _ _ _ wx).mono ?_
        rintro e w' ⟨rfl,hb⟩
        exact⟨_,rfl,rfl,fun _=>(hp.1 (by omega)).trans (hb.mono (hp.1 (by omega)).size),fun h=>absurd h (by omega)⟩
      · refine okP 0 1 fun p γ a wx _ hph hp hk=>?_
        have h1:=hk.k 12 rfl
        have hbx:=HY.out.below (hp.1 (by omega)) hyl
        have c0:wx.cell? ⟨wr.heap.size,0,none⟩=some (.string job):=hbx.cell 0
        have c1:wx.cell? ⟨wr.heap.size,1,none⟩=some (.string node):=hbx.cell 1
        have c2:wx.cell? ⟨wr.heap.size,2,none⟩=some (.int .i64 till):=hbx.cell 2
        simp [go_sem,Oper.wp,execOp,Act.eval,h1,c0,c1,c2]
        exact⟨_,rfl,rfl,hp⟩
      · refine⟨rfl,.inl ⟨1,rfl,fun γ a wx hp hk=>?_⟩⟩
        obtain⟨u1,h1,rfl⟩:=hk.g 0 26 rfl rfl
        obtain⟨u2,h2,rfl⟩:=hk.g 3 29 rfl rfl
        obtain⟨u3,h3,rfl⟩:=hk.g 4 30 rfl rfl
        obtain⟨w',hr,hm',hg'⟩:=(HA1.out.map.below (hp.1 (by omega)) hml).put Tryz.underlying275 (by unfold maxLen; omega) job (Ho1.out _ (List.mem_of_getElem? Hf.out)) (.agg #[.string job,.string node,.int .i64 till])
        simp [go_sem,Oper.wp,execOp,Act.eval,h1,h2,h3,hr]
        exact⟨⟨.int .i64 0,trivial⟩,fun h=>absurd h (by omega),fun _=>⟨wx,hp.1 (by omega),hg',hm'.congr (fun s=>HSt.out s)⟩⟩
    · intro γ a wx hd
      obtain⟨wm,hbm,hgm,hmm⟩:=hd.ph.2 (by decide)
      obtain⟨fv,rfl,-⟩:=hd.frame [26,27,28,29,30] rfl
      have HC:=hid ((HA1.out.kept hbm).turned hgm hmm)
      clear hd hbm hgm hmm
      simp only [foldl_cons,foldl_nil,setIfInBounds_toArray,set_cons_succ,set_cons_zero]
      go_wp2
      go_roundw
      case rel=>exact⟨k+1,by omega,by go_num,HC.out⟩
      case measure=>simp [intOf]; omega
  · have HE:=hid (show jU w (.func (.func 87) #[] #[]) k (fun s=>(eA ah.job rows (gone.take 0) [] s).map (fun x:ah=>Value.agg (ay x).toArray)) wr from ⟨HA.out.below,HA.out.key,HA.out.size,HA.out.map.congr (fun s=>by rw [List.take_of_length_le (by rw [La.out]; omega)]; rfl)⟩)
    have hk40:k≤40:=by omega
    clear HA HA0 hsz hbs
    go_wp2
    clear hlt
    go_loopw [34] (fun i wr=>∃ kk:Nat,kk≤q∧i = .int .i64 kk∧aY ah.job rows (gone.take kk)=false∧jU w (.func (.func 87) #[] #[]) k (fun s=>(eA ah.job rows (gone.take kk) [] s).map (fun x:ah=>Value.agg (ay x).toArray)) wr) (fun i _=>q - (intOf i).toNat)
    case atStart=>exact⟨0,Nat.zero_le _,rfl,rfl,HE.out⟩
    case round=>
     clear HE
     obtain⟨kk,hkk,rfl,Be,hat⟩:=hrel
     have HA:=hid hat
     have HM:=hid Be
     have hsz:=hat.size
     have hbs:=hat.below.size
     clear hat Be
     by_cases hlt:kk<q
     · obtain⟨s,hf⟩:∃ x,gone[kk]? = some x:=⟨_,List.getElem?_eq_getElem (by rw [Lg.out]; exact hlt)⟩
       obtain⟨bb,off,hao,hbB,hc⟩:=(HG0.out.below HA.out.below).cR eC Lg.out hf
       subst hao
       have Hf:=hid hf
       have e0:wr.cell? ⟨bb,off+kk*1,none⟩=some (.string s):=hc 0 _ rfl
       rw [Nat.mul_one] at e0
       have hlb:bb<wr.heap.size:=by omega
       have hss:=hid (Ho3.out s (List.mem_of_getElem? hf))
       have hlk:=HA.out.map.look_ok Tryz.underlying275 (Tryz.zeroValue38 wr) s hss.out
       have His:=hid (Af (key:=ah.job) (rows:=rows) HGd.out hf)
       clear hc hf
       cases ht:eA ah.job rows (gone.take kk) [] s with
       | none=>
        rw [ht] at hlk
        simp only [Option.map_none,Option.getD_none,Option.isSome_none] at hlk
        have fin:=hid (oU (key:=ah.job) Hf.out (by rw [← His.out,ht]; rfl))
        have Hb:=hid (HA.out.below.alloc hbs (.cells #[.string ⟨#[]⟩,.string ⟨#[]⟩,.int .i64 0] 38))
        clear ht
        go_wp2
        go_ret2
        exact⟨Hb.out,.inl ⟨fin.out,rfl⟩⟩
       | some r=>
        rw [ht] at hlk
        simp only [Option.map_some,Option.getD_some,Option.isSome_some] at hlk
        have hany:(rows.any fun r=>decide (ah.job r=s))=true:=by rw [← His.out,ht]; rfl
        have fin:=hid (nW (key:=ah.job) Hf.out HM.out hany)
        have HSt:=hid (uz (V:=(fun x:ah=>Value.agg (ay x).toArray)) (uA (key:=ah.job) (rows:=rows) Hf.out))
        obtain⟨job,node,till⟩:=r
        replace hlk:(Instr.lookup 275 (.map (some (w.heap.size+1))) (.string s) true).run Tryz.prog wr = .ok (.tuple #[.agg #[.string job,.string node,.int .i64 till],.bool true]) wr:=hlk
        have HA1:=hid (HA.out.kept ((Below.refl wr.heap.size wr).alloc (Nat.le_refl _) (.cells #[.string job,.string node,.int .i64 till] 38)))
        obtain⟨wd,hdr,hdm,hdg⟩:=HA1.out.map.del Tryz.underlying275 s hss.out 0
        have HC:=hid (HA1.out.turned hdg (hdm.congr (fun s=>HSt.out s)))
        clear ht hany hdm hdg
        go_wp2
        go_roundw
        case rel=>exact⟨kk+1,by omega,by go_num,fin.out,HC.out⟩
        case measure=>simp [intOf]; omega
     · have Hmf:=hid (oV (key:=ah.job) HM.out (by rw [Lg.out]; omega))
       have HE:=hid (show jU w (.func (.func 87) #[] #[]) (k+0) (fun s=>(eA ah.job rows gone (set.take 0) s).map (fun x:ah=>Value.agg (ay x).toArray)) wr from ⟨HA.out.below,HA.out.key,HA.out.size,HA.out.map.congr (fun s=>by rw [List.take_of_length_le (by rw [Lg.out]; omega)]; rfl)⟩)
       clear HA HM HG0 hsz hbs
       go_wp2
       clear hlt
       go_loopw [51] (fun i wr=>∃ kk:Nat,kk≤m∧i = .int .i64 kk∧jU w (.func (.func 87) #[] #[]) (k+kk) (fun s=>(eA ah.job rows gone (set.take kk) s).map (fun x:ah=>Value.agg (ay x).toArray)) wr) (fun i _=>m - (intOf i).toNat)
       case atStart=>exact⟨0,Nat.zero_le _,rfl,HE.out⟩
       case round=>
        clear HE
        obtain⟨kk,hkk,rfl,hat⟩:=hrel
        have HA:=hid hat
        have hsz:=hat.size
        have hbs:=hat.below.size
        clear hat
        by_cases hlt:kk<m
        · obtain⟨x,hf⟩:∃ x,set[kk]? = some x:=⟨_,List.getElem?_eq_getElem (by rw [Lb.out]; exact hlt)⟩
          obtain⟨bb,off,hao,hbB,hc⟩:=(HB0.out.below HA.out.below).cR aH Lb.out hf
          subst hao
          have Hf:=hid hf
          obtain⟨job,node,till⟩:=x
          obtain⟨e0,e1,e2⟩:=rc3 hc
          have hlb:bb<wr.heap.size:=by omega
          obtain⟨W1,hW1⟩:∃ W1,wr.alloc (.cells #[.string job,.string node,.int .i64 till] 38)=W1:=⟨_,rfl⟩
          have hB1:Below wr.heap.size wr W1:=by rw [← hW1]; exact (Below.refl _ _).alloc (Nat.le_refl _) _
          have HY:=hid (show Blk W1 wr.heap.size 38 #[.string job,.string node,.int .i64 till] from by rw [← hW1]; exact heap_alloc_new wr _)
          have HA1:=hid (HA.out.kept hB1)
          have hsz1:=hB1.size
          have hyl:=HY.out.lt
          have HW1:=hid hW1
          have HSt:=hid (lM (V:=(fun x:ah=>Value.agg (ay x).toArray)) (xC (key:=ah.job) (rows:=rows) (gone:=gone) (cF HS.out) Hf.out))
          have hml:w.heap.size+1<W1.heap.size:=HA1.out.size
          clear hc hB1 hW1 hf
          go_wp2_with fail
          rw [HW1.out]
          refine cH (n:=65) (Γ:=Unit) (by kernel_rfl) (fun _=>cgV (w.heap.size+1) (.func (.func 87) #[] #[]) (.agg #[.string job,.string node,.int .i64 till]) job) [3,5] (fun p _=>EP W1 (w.heap.size+1) ((k+kk)+1) (fun s=>(eA ah.job rows gone (set.take (kk+1)) s).map (fun x:ah=>Value.agg (ay x).toArray)) p) () (by decide +kernel) (by decide +kernel) rfl ⟨fun _=>(Below.refl _ W1).drew,fun h=>absurd h (by omega)⟩ ?_ ?_
          · refine⟨?_,?_,?_,?_,?_,?_,trivial⟩
            · refine okP 0 1 fun p γ a wx _ _ hp hk=>?_
              have h1:=hk.k 10 rfl
              simp [go_sem,Oper.wp,execOp,Act.eval,h1]
              exact⟨_,rfl,rfl,hp⟩
            · refine okP 0 0 fun p γ a wx _ hph hp hk=>?_
              have h1:=hk.k 7 rfl
              have hc:wx.cell? ⟨w.heap.size,0,none⟩=some (.func (.func 87) #[] #[]):=((hp.1 (by omega)).cell (p:=⟨w.heap.size,0,none⟩) (by show w.heap.size<_; omega)).trans HA1.out.key
              simp [go_sem,Oper.wp,execOp,Act.eval,h1,hc]
              exact⟨_,rfl,rfl,hp⟩
            · refine okP 0 0 fun p γ a wx _ hph hp hk=>?_
              have h1:=hk.k 18 rfl
              have hbx:=HY.out.below (hp.1 (by omega)) hyl
              have c0:wx.cell? ⟨wr.heap.size,0,none⟩=some (.string job):=hbx.cell 0
              have c1:wx.cell? ⟨wr.heap.size,1,none⟩=some (.string node):=hbx.cell 1
              have c2:wx.cell? ⟨wr.heap.size,2,none⟩=some (.int .i64 till):=hbx.cell 2
              simp [go_sem,Oper.wp,execOp,Act.eval,h1,c0,c1,c2]
              exact⟨_,rfl,rfl,hp⟩
            · refine⟨rfl,.inl ⟨0,rfl,fun γ a wx hp hk=>?_⟩⟩
              obtain⟨u1,h1,rfl⟩:=hk.g 1 56 rfl rfl
              obtain⟨u2,h2,rfl⟩:=hk.g 2 57 rfl rfl
              simp [go_sem,Oper.wp,execOp,Act.eval,h1,h2]
              refine (cZ _ _ _ wx).mono ?_
              rintro e w' ⟨rfl,hb⟩
              exact⟨_,rfl,rfl,fun _=>(hp.1 (by omega)).trans (hb.mono (hp.1 (by omega)).size),fun h=>absurd h (by omega)⟩
            · refine okP 0 1 fun p γ a wx _ hph hp hk=>?_
              have h1:=hk.k 18 rfl
              have hbx:=HY.out.below (hp.1 (by omega)) hyl
              have c0:wx.cell? ⟨wr.heap.size,0,none⟩=some (.string job):=hbx.cell 0
              have c1:wx.cell? ⟨wr.heap.size,1,none⟩=some (.string node):=hbx.cell 1
              have c2:wx.cell? ⟨wr.heap.size,2,none⟩=some (.int .i64 till):=hbx.cell 2
              simp [go_sem,Oper.wp,execOp,Act.eval,h1,c0,c1,c2]
              exact⟨_,rfl,rfl,hp⟩
            · refine⟨rfl,.inl ⟨1,rfl,fun γ a wx hp hk=>?_⟩⟩
              obtain⟨u1,h1,rfl⟩:=hk.g 0 55 rfl rfl
              obtain⟨u2,h2,rfl⟩:=hk.g 3 58 rfl rfl
              obtain⟨u3,h3,rfl⟩:=hk.g 4 59 rfl rfl
              obtain⟨w',hr,hm',hg'⟩:=(HA1.out.map.below (hp.1 (by omega)) hml).put Tryz.underlying275 (by unfold maxLen; omega) job (Ho2.out _ (List.mem_of_getElem? Hf.out)) (.agg #[.string job,.string node,.int .i64 till])
              simp [go_sem,Oper.wp,execOp,Act.eval,h1,h2,h3,hr]
              exact⟨⟨.int .i64 0,trivial⟩,fun h=>absurd h (by omega),fun _=>⟨wx,hp.1 (by omega),hg',hm'.congr (fun s=>HSt.out s)⟩⟩
          · intro γ a wx hd
            obtain⟨wm,hbm,hgm,hmm⟩:=hd.ph.2 (by decide)
            obtain⟨fv,rfl,-⟩:=hd.frame [55,56,57,58,59] rfl
            have HC:=hid ((HA1.out.kept hbm).turned hgm hmm)
            clear hd hbm hgm hmm
            simp only [foldl_cons,foldl_nil,setIfInBounds_toArray,set_cons_succ,set_cons_zero]
            go_wp2
            go_roundw
            case rel=>exact⟨kk+1,by omega,by go_num,HC.out⟩
            case measure=>simp [intOf]; omega
        · have HE:=hid (show jU w (.func (.func 87) #[] #[]) (k+kk) (fun s=>(eA ah.job rows gone set s).map (fun x:ah=>Value.agg (ay x).toArray)) wr from ⟨HA.out.below,HA.out.key,HA.out.size,HA.out.map.congr (fun s=>by rw [List.take_of_length_le (by rw [Lb.out]; omega)])⟩)
          have hB1:Below wr.heap.size wr (wr.alloc (.cells #[.map (some (w.heap.size+1))] 275)):=(Below.refl _ _).alloc (Nat.le_refl _) _
          have HE1:=HE.out.kept hB1
          have HC:=hid (EO wr.heap.size (w.heap.size+1) (k+kk) w.heap.size (by omega) rows set gone _ (by simp [go_sem]) HE1.map HE1.key HR.out HS.out)
          have HB:=hid HE1.below
          have hmf:∀ (fn:Fn) (first cap:Array Value) (w:World),(Instr.makeFunc fn first cap).run Tryz.prog w = .ok (.func fn first cap) w:=fun _ _ _ _=>rfl
          clear HA HE hB1 HE1
          go_wp2_with fail
          refine Calls.mono (Ah _ _) ?_
          rintro e w1 ⟨rfl,rfl⟩
          go_wp2_with fail
          refine Calls.mono HC.out ?_
          rintro e w2 ⟨A2,c2,rfl,hown,hb2⟩
          have H2:=hid (HB.out.trans (hb2.mono HB.out.size))
          have H3:=hid (bL hown HB.out.size)
          clear hown hb2
          go_wp2
          go_ret2
          exact⟨H2.out,.inr ⟨Hmf.out,A2,c2,rfl,H3.out⟩⟩
end Go.Proofs.YtoeejfhdjmkpcaaGreatDoor
