/- Of the proof of a statement: ChgW. -/
import Derived.Test.YtcpgnjmaampglaaGreatDoorWChg
set_option linter.unusedVariables false
set_option linter.unusedSimpArgs false
set_option maxRecDepth 100000
set_option maxHeartbeats 8000000
/- The walks of changed, at jobs, nodes and leases. -/
namespace Go.Proofs.YtcpgnjmaampglaaGreatDoor
open Go.Lib (hid)
open List (foldl_cons foldl_nil setIfInBounds_toArray set_cons_succ set_cons_zero)
open Go.RowKit Go.Maps
theorem bT.del {w:World} {b n:Nat} {g:ByteArray→Option Value} {t e:TypeId} (h:bT w b n g) (ht : Tryz.prog.underlying t=some (.map 9 e)) (s:ByteArray) (hs:s.size≤maxLen) (ty:TypeId) :
 ∃ w',(Builtin.delete_ #[t,9] ty #[.map (some b),.string s]).run Tryz.prog w = .ok (.tuple #[]) w'∧bT w' b n (fun x=>if x=s then none else g x)∧w.grownBy w' (some b):=by
 obtain⟨D,ho,hD⟩:=h
 obtain⟨w',hr,ho',hg⟩:=ho.drop AT ht (Go.WideMaps.keyOf_string_mk Tryz.underlying9 hs) ty
 refine⟨w',hr,⟨_,ho',fun x z=>?_⟩,hg.grown⟩
 by_cases hx:x=s
 · subst hx
   rw [atKey_del_same]
   simp
 · rw [atKey_del_other (fun e=>hx (data_inj e)),hD x z]
   simp [hx]
def tN {α:Type} (key:α→ByteArray) (T:TypeId) (sz:Nat) (enc:α→List Value) (rows set:List α) (gone:List ByteArray) (w:World) (e:Ending) (w':World):Prop:=
 Below w.heap.size w w'∧((aW key rows gone=true∧e = .returned (.tuple #[.slice none 0 0,.bool false])) ∨
  (aW key rows gone=false∧∃ A c,e = .returned (.tuple #[.slice A (bR key rows set gone).length c,.bool true]) ∧
   w'.ownsRow w.heap.size T sz (.slice A (bR key rows set gone).length c) (bR key rows set gone).length (au enc (bR key rows set gone))))
structure kG (w0:World) (K:Value) (n:Nat) (g:ByteArray→Option Value) (wr:World):Prop where
 below:Below w0.heap.size w0 wr
 key:wr.cell? ⟨w0.heap.size,0,none⟩=some K
 size:w0.heap.size+1<wr.heap.size
 map:bT wr (w0.heap.size+1) n g
theorem kG.kept {w0 w w':World} {K:Value} {n:Nat} {g:ByteArray→Option Value} (h:kG w0 K n g w) (hb:Below w.heap.size w w'):kG w0 K n g w':=
 ⟨h.below.trans (hb.mono h.below.size),(hb.cell (p:=⟨w0.heap.size,0,none⟩) (by show w0.heap.size<w.heap.size; have:=h.size; omega)).trans h.key,Nat.lt_of_lt_of_le h.size hb.size,h.map.below hb h.map.lt⟩
theorem kG.turned {w0 w w':World} {K:Value} {n m:Nat} {g g':ByteArray→Option Value} (h:kG w0 K n g w) (hg:w.grownBy w' (some (w0.heap.size+1))) (hm:bT w' (w0.heap.size+1) m g'):kG w0 K m g' w':=
 ⟨below_grown h.below hg (Nat.le_succ _),gS hg (by omega) h.key,Nat.lt_of_lt_of_le h.size hg.size,hm⟩
def cgV (mb:Nat) (K X:Value) (s:ByteArray) (i:Nat) (u:Value):Prop:=
 match i with
 | 0=>u = .map (some mb)
 | 1=>u=K
 | 2=>u=X
 | 3=>u = .string s
 | 4=>u=X
 | _=>True
def IV (W1:World) (mb m:Nat) (g':ByteArray→Option Value) (p:Nat) (wx:World):Prop:=
 (p≤1→Below W1.heap.size W1 wx)∧(2≤p→∃ wm,Below W1.heap.size W1 wm∧wm.grownBy wx (some mb)∧bT wx mb m g')
theorem mE {α:Type} {V:α→Value} {a b:ByteArray→Option α} {q:ByteArray} {x:α} (h:∀ s,a s=if s=q then some x else b s) (s:ByteArray):(if s=q then some (V x) else (b s).map V)=(a s).map V:=by
 rw [h]; split <;> rfl
theorem vo {α:Type} {V:α→Value} {a b:ByteArray→Option α} {q:ByteArray} (h:∀ s,a s=if s=q then none else b s) (s:ByteArray):(if s=q then none else (b s).map V)=(a s).map V:=by
 rw [h]; split <;> rfl
theorem Dq (rows set:List aB) (gone:List ByteArray) (A B G:Option Addr) (n cA m cB q cG:Nat) (w:World) (ha:aQ w w.heap.size 5 A n (au aH rows)) (la:rows.length=n) (hn:n≤40) (hb:aQ w w.heap.size 5 B m (au aH set)) (lb:set.length=m) (hm:m≤40)
 (hg:aQ w w.heap.size 1 G q (au mN gone)) (lg:gone.length=q) (hq:q≤1000) (hr:aT aB.name rows) (hs:aT aB.name set) (hgd:gone.Pairwise fun a b=>a≠b)
 (ho1:∀ x ∈ rows,(aB.name x).size≤maxLen) (ho2:∀ x ∈ set,(aB.name x).size≤maxLen) (ho3:∀ x ∈ gone,x.size≤maxLen) :
 Calls Tryz.prog 48 #[.slice A n cA,.slice B m cB,.slice G q cG,.func (.func 49) #[] #[]] w (tN aB.name 59 5 aH rows set gone w):=by
 have HA0:=hid ha
 have HB0:=hid hb
 have HG0:=hid hg
 have La:=hid la
 have Lb:=hid lb
 have Lg:=hid lg
 have HR:=hid hr
 have HS:=hid hs
 have HGd:=hid hgd
 have Ho1:=hid ho1
 have Ho2:=hid ho2
 have Ho3:=hid ho3
 have H0:=hid (show kG w (.func (.func 49) #[] #[]) 0 (fun s=>(eA aB.name (rows.take 0) [] [] s).map (fun x:aB=>Value.agg (aH x).toArray)) ((w.alloc (.cells #[.func (.func 49) #[] #[]] 108)).alloc (.map #[] 0)) from
  ⟨((Below.refl _ _).alloc (Nat.le_refl _) _).alloc (by simp) _,by simp [go_sem],by simp,by
   have h:=bT.made (w.alloc (.cells #[.func (.func 49) #[] #[]] 108))
   rw [show (w.alloc (.cells #[.func (.func 49) #[] #[]] 108)).heap.size=w.heap.size+1 by simp] at h
   exact h.congr (fun s=>by simp [eA])⟩)
 have hmk:=fun t W=>run_makeMap (P:=Tryz.prog) t W
 clear ha hb hg la lb lg hr hs hgd ho1 ho2 ho3
 go_enter Tryz.func48,Tryz.ntmps48
 go_wp2
 clear hmk
 go_loopw [22] (fun i wr=>∃ k:Nat,k≤n∧i = .int .i64 k∧kG w (.func (.func 49) #[] #[]) k (fun s=>(eA aB.name (rows.take k) [] [] s).map (fun x:aB=>Value.agg (aH x).toArray)) wr) (fun i _=>n - (intOf i).toNat)
 case atStart=>exact⟨0,Nat.zero_le _,rfl,H0.out⟩
 case round=>
  clear H0
  obtain⟨k,hk,rfl,hat⟩:=hrel
  have HA:=hid hat
  have hsz:=hat.size
  have hbs:=hat.below.size
  clear hat
  by_cases hlt:k<n
  · obtain⟨x,hf⟩:∃ x,rows[k]? = some x:=⟨_,List.getElem?_eq_getElem (by rw [La.out]; exact hlt)⟩
    obtain⟨bb,off,hao,hbB,hc⟩:=(HA0.out.below HA.out.below).dF aN La.out hf
    subst hao
    have Hf:=hid hf
    obtain⟨name,prio,need,tries,tag⟩:=x
    obtain⟨e0,e1,e2,e3,e4⟩:=rc5 hc
    have hlb:bb<wr.heap.size:=by omega
    obtain⟨W1,hW1⟩:∃ W1,wr.alloc (.cells #[.string name,.int .i64 prio,.int .i64 need,.int .i64 tries,.string tag] 59)=W1:=⟨_,rfl⟩
    have hB1:Below wr.heap.size wr W1:=by rw [← hW1]; exact (Below.refl _ _).alloc (Nat.le_refl _) _
    have HY:=hid (show Blk W1 wr.heap.size 59 #[.string name,.int .i64 prio,.int .i64 need,.int .i64 tries,.string tag] from by rw [← hW1]; exact heap_alloc_new wr _)
    have HA1:=hid (HA.out.kept hB1)
    have hsz1:=hB1.size
    have hyl:=HY.out.lt
    have HW1:=hid hW1
    have HSt:=hid (mE (V:=(fun x:aB=>Value.agg (aH x).toArray)) (yF (key:=aB.name) (cO HR.out) Hf.out))
    have hml:w.heap.size+1<W1.heap.size:=HA1.out.size
    clear hc hB1 hW1 hf
    go_wp2_with fail
    rw [HW1.out]
    refine bO (n:=65) (Γ:=Unit) (by kernel_rfl) (fun _=>cgV (w.heap.size+1) (.func (.func 49) #[] #[]) (.agg #[.string name,.int .i64 prio,.int .i64 need,.int .i64 tries,.string tag]) name) [3,5] (fun p _=>IV W1 (w.heap.size+1) (k+1) (fun s=>(eA aB.name (rows.take (k+1)) [] [] s).map (fun x:aB=>Value.agg (aH x).toArray)) p) () (by decide +kernel) (by decide +kernel) rfl ⟨fun _=>(Below.refl _ W1).drew,fun h=>absurd h (by omega)⟩ ?_ ?_
    · refine⟨?_,?_,?_,?_,?_,?_,trivial⟩
      · refine okP 0 1 fun p γ a wx _ _ hp hk=>?_
        have h1:=hk.k 10 rfl
        simp [go_sem,Oper.wp,execOp,Act.eval,h1]
        exact⟨_,rfl,rfl,hp⟩
      · refine okP 0 0 fun p γ a wx _ hph hp hk=>?_
        have h1:=hk.k 7 rfl
        have hc:wx.cell? ⟨w.heap.size,0,none⟩=some (.func (.func 49) #[] #[]):=((hp.1 (by omega)).cell (p:=⟨w.heap.size,0,none⟩) (by show w.heap.size<_; omega)).trans HA1.out.key
        simp [go_sem,Oper.wp,execOp,Act.eval,h1,hc]
        exact⟨_,rfl,rfl,hp⟩
      · refine okP 0 0 fun p γ a wx _ hph hp hk=>?_
        have h1:=hk.k 12 rfl
        have hbx:=HY.out.below (hp.1 (by omega)) hyl
        obtain⟨c0,c1,c2,c3,c4⟩:=Blk.c5 (hbx)
        simp [go_sem,Oper.wp,execOp,Act.eval,h1,c0,c1,c2,c3,c4]
        exact⟨_,rfl,rfl,hp⟩
      · refine⟨rfl,.inl ⟨0,rfl,fun γ a wx hp hk=>?_⟩⟩
        obtain⟨u1,h1,rfl⟩:=hk.g 1 27 rfl rfl
        obtain⟨u2,h2,rfl⟩:=hk.g 2 28 rfl rfl
        simp [go_sem,Oper.wp,execOp,Act.eval,h1,h2]
        refine (fT _ _ _ _ _ wx).mono ?_
        rintro e w' ⟨rfl,hb⟩
        exact⟨_,rfl,rfl,fun _=>(hp.1 (by omega)).trans (hb.mono (hp.1 (by omega)).size),fun h=>absurd h (by omega)⟩
      · refine okP 0 1 fun p γ a wx _ hph hp hk=>?_
        have h1:=hk.k 12 rfl
        have hbx:=HY.out.below (hp.1 (by omega)) hyl
        obtain⟨c0,c1,c2,c3,c4⟩:=Blk.c5 (hbx)
        simp [go_sem,Oper.wp,execOp,Act.eval,h1,c0,c1,c2,c3,c4]
        exact⟨_,rfl,rfl,hp⟩
      · refine⟨rfl,.inl ⟨1,rfl,fun γ a wx hp hk=>?_⟩⟩
        obtain⟨u1,h1,rfl⟩:=hk.g 0 26 rfl rfl
        obtain⟨u2,h2,rfl⟩:=hk.g 3 29 rfl rfl
        obtain⟨u3,h3,rfl⟩:=hk.g 4 30 rfl rfl
        obtain⟨w',hr,hm',hg'⟩:=(HA1.out.map.below (hp.1 (by omega)) hml).put Tryz.underlying157 (by unfold maxLen; omega) name (Ho1.out _ (List.mem_of_getElem? Hf.out)) (.agg #[.string name,.int .i64 prio,.int .i64 need,.int .i64 tries,.string tag])
        simp [go_sem,Oper.wp,execOp,Act.eval,h1,h2,h3,hr]
        exact⟨⟨.int .i64 0,trivial⟩,fun h=>absurd h (by omega),fun _=>⟨wx,hp.1 (by omega),hg',hm'.congr (fun s=>HSt.out s)⟩⟩
    · intro γ a wx hd
      obtain⟨wm,hbm,hgm,hmm⟩:=hd.ph.2 (by decide)
      obtain⟨fv,rfl,-⟩:=hd.frame [26,27,28,29,30] rfl
      have HC:=hid ((HA1.out.kept hbm).turned hgm hmm)
      clear hd hbm hgm hmm
      simp only [foldl_cons,foldl_nil,setIfInBounds_toArray,set_cons_succ,set_cons_zero]
      go_wp2
      go_roundw
      case rel=>exact⟨k+1,by omega,by go_num,HC.out⟩
      case measure=>simp [intOf]; omega
  · have HE:=hid (show kG w (.func (.func 49) #[] #[]) k (fun s=>(eA aB.name rows (gone.take 0) [] s).map (fun x:aB=>Value.agg (aH x).toArray)) wr from ⟨HA.out.below,HA.out.key,HA.out.size,HA.out.map.congr (fun s=>by rw [List.take_of_length_le (by rw [La.out]; omega)]; rfl)⟩)
    have hk40:k≤40:=by omega
    clear HA HA0 hsz hbs
    go_wp2
    clear hlt
    go_loopw [34] (fun i wr=>∃ kk:Nat,kk≤q∧i = .int .i64 kk∧aW aB.name rows (gone.take kk)=false∧kG w (.func (.func 49) #[] #[]) k (fun s=>(eA aB.name rows (gone.take kk) [] s).map (fun x:aB=>Value.agg (aH x).toArray)) wr) (fun i _=>q - (intOf i).toNat)
    case atStart=>exact⟨0,Nat.zero_le _,rfl,rfl,HE.out⟩
    case round=>
     clear HE
     obtain⟨kk,hkk,rfl,Dr,hat⟩:=hrel
     have HA:=hid hat
     have HM:=hid Dr
     have hsz:=hat.size
     have hbs:=hat.below.size
     clear hat Dr
     by_cases hlt:kk<q
     · obtain⟨s,hf⟩:∃ x,gone[kk]? = some x:=⟨_,List.getElem?_eq_getElem (by rw [Lg.out]; exact hlt)⟩
       obtain⟨bb,off,hao,hbB,hc⟩:=(HG0.out.below HA.out.below).dF jQ Lg.out hf
       subst hao
       have Hf:=hid hf
       have e0:wr.cell? ⟨bb,off+kk*1,none⟩=some (.string s):=hc 0 _ rfl
       rw [Nat.mul_one] at e0
       have hlb:bb<wr.heap.size:=by omega
       have hss:=hid (Ho3.out s (List.mem_of_getElem? hf))
       have hlk:=HA.out.map.look_ok Tryz.underlying157 (Tryz.zeroValue59 wr) s hss.out
       have His:=hid (Cf (key:=aB.name) (rows:=rows) HGd.out hf)
       clear hc hf
       cases ht:eA aB.name rows (gone.take kk) [] s with
       | none=>
        rw [ht] at hlk
        simp only [Option.map_none,Option.getD_none,Option.isSome_none] at hlk
        have fin:=hid (qE (key:=aB.name) Hf.out (by rw [← His.out,ht]; rfl))
        have Hb:=hid (HA.out.below.alloc hbs (.cells #[.string ⟨#[]⟩,.int .i64 0,.int .i64 0,.int .i64 0,.string ⟨#[]⟩] 59))
        clear ht
        go_wp2
        go_ret2
        exact⟨Hb.out,.inl ⟨fin.out,rfl⟩⟩
       | some r=>
        rw [ht] at hlk
        simp only [Option.map_some,Option.getD_some,Option.isSome_some] at hlk
        have hany:(rows.any fun r=>decide (aB.name r=s))=true:=by rw [← His.out,ht]; rfl
        have fin:=hid (pG (key:=aB.name) Hf.out HM.out hany)
        have HSt:=hid (vo (V:=(fun x:aB=>Value.agg (aH x).toArray)) (vv (key:=aB.name) (rows:=rows) Hf.out))
        obtain⟨name,prio,need,tries,tag⟩:=r
        replace hlk:(Instr.lookup 157 (.map (some (w.heap.size+1))) (.string s) true).run Tryz.prog wr = .ok (.tuple #[.agg #[.string name,.int .i64 prio,.int .i64 need,.int .i64 tries,.string tag],.bool true]) wr:=hlk
        have HA1:=hid (HA.out.kept ((Below.refl wr.heap.size wr).alloc (Nat.le_refl _) (.cells #[.string name,.int .i64 prio,.int .i64 need,.int .i64 tries,.string tag] 59)))
        obtain⟨wd,hdr,hdm,hdg⟩:=HA1.out.map.del Tryz.underlying157 s hss.out 0
        have HC:=hid (HA1.out.turned hdg (hdm.congr (fun s=>HSt.out s)))
        clear ht hany hdm hdg
        go_wp2
        go_roundw
        case rel=>exact⟨kk+1,by omega,by go_num,fin.out,HC.out⟩
        case measure=>simp [intOf]; omega
     · have Hmf:=hid (qF (key:=aB.name) HM.out (by rw [Lg.out]; omega))
       have HE:=hid (show kG w (.func (.func 49) #[] #[]) (k+0) (fun s=>(eA aB.name rows gone (set.take 0) s).map (fun x:aB=>Value.agg (aH x).toArray)) wr from ⟨HA.out.below,HA.out.key,HA.out.size,HA.out.map.congr (fun s=>by rw [List.take_of_length_le (by rw [Lg.out]; omega)]; rfl)⟩)
       clear HA HM HG0 hsz hbs
       go_wp2
       clear hlt
       go_loopw [51] (fun i wr=>∃ kk:Nat,kk≤m∧i = .int .i64 kk∧kG w (.func (.func 49) #[] #[]) (k+kk) (fun s=>(eA aB.name rows gone (set.take kk) s).map (fun x:aB=>Value.agg (aH x).toArray)) wr) (fun i _=>m - (intOf i).toNat)
       case atStart=>exact⟨0,Nat.zero_le _,rfl,HE.out⟩
       case round=>
        clear HE
        obtain⟨kk,hkk,rfl,hat⟩:=hrel
        have HA:=hid hat
        have hsz:=hat.size
        have hbs:=hat.below.size
        clear hat
        by_cases hlt:kk<m
        · obtain⟨x,hf⟩:∃ x,set[kk]? = some x:=⟨_,List.getElem?_eq_getElem (by rw [Lb.out]; exact hlt)⟩
          obtain⟨bb,off,hao,hbB,hc⟩:=(HB0.out.below HA.out.below).dF aN Lb.out hf
          subst hao
          have Hf:=hid hf
          obtain⟨name,prio,need,tries,tag⟩:=x
          obtain⟨e0,e1,e2,e3,e4⟩:=rc5 hc
          have hlb:bb<wr.heap.size:=by omega
          obtain⟨W1,hW1⟩:∃ W1,wr.alloc (.cells #[.string name,.int .i64 prio,.int .i64 need,.int .i64 tries,.string tag] 59)=W1:=⟨_,rfl⟩
          have hB1:Below wr.heap.size wr W1:=by rw [← hW1]; exact (Below.refl _ _).alloc (Nat.le_refl _) _
          have HY:=hid (show Blk W1 wr.heap.size 59 #[.string name,.int .i64 prio,.int .i64 need,.int .i64 tries,.string tag] from by rw [← hW1]; exact heap_alloc_new wr _)
          have HA1:=hid (HA.out.kept hB1)
          have hsz1:=hB1.size
          have hyl:=HY.out.lt
          have HW1:=hid hW1
          have HSt:=hid (mE (V:=(fun x:aB=>Value.agg (aH x).toArray)) (yG (key:=aB.name) (rows:=rows) (gone:=gone) (cO HS.out) Hf.out))
          have hml:w.heap.size+1<W1.heap.size:=HA1.out.size
          clear hc hB1 hW1 hf
          go_wp2_with fail
          rw [HW1.out]
          refine bO (n:=65) (Γ:=Unit) (by kernel_rfl) (fun _=>cgV (w.heap.size+1) (.func (.func 49) #[] #[]) (.agg #[.string name,.int .i64 prio,.int .i64 need,.int .i64 tries,.string tag]) name) [3,5] (fun p _=>IV W1 (w.heap.size+1) ((k+kk)+1) (fun s=>(eA aB.name rows gone (set.take (kk+1)) s).map (fun x:aB=>Value.agg (aH x).toArray)) p) () (by decide +kernel) (by decide +kernel) rfl ⟨fun _=>(Below.refl _ W1).drew,fun h=>absurd h (by omega)⟩ ?_ ?_
          · refine⟨?_,?_,?_,?_,?_,?_,trivial⟩
            · refine okP 0 1 fun p γ a wx _ _ hp hk=>?_
              have h1:=hk.k 10 rfl
              simp [go_sem,Oper.wp,execOp,Act.eval,h1]
              exact⟨_,rfl,rfl,hp⟩
            · refine okP 0 0 fun p γ a wx _ hph hp hk=>?_
              have h1:=hk.k 7 rfl
              have hc:wx.cell? ⟨w.heap.size,0,none⟩=some (.func (.func 49) #[] #[]):=((hp.1 (by omega)).cell (p:=⟨w.heap.size,0,none⟩) (by show w.heap.size<_; omega)).trans HA1.out.key
              simp [go_sem,Oper.wp,execOp,Act.eval,h1,hc]
              exact⟨_,rfl,rfl,hp⟩
            · refine okP 0 0 fun p γ a wx _ hph hp hk=>?_
              have h1:=hk.k 18 rfl
              have hbx:=HY.out.below (hp.1 (by omega)) hyl
              obtain⟨c0,c1,c2,c3,c4⟩:=Blk.c5 (hbx)
              simp [go_sem,Oper.wp,execOp,Act.eval,h1,c0,c1,c2,c3,c4]
              exact⟨_,rfl,rfl,hp⟩
            · refine⟨rfl,.inl ⟨0,rfl,fun γ a wx hp hk=>?_⟩⟩
              obtain⟨u1,h1,rfl⟩:=hk.g 1 56 rfl rfl
              obtain⟨u2,h2,rfl⟩:=hk.g 2 57 rfl rfl
              simp [go_sem,Oper.wp,execOp,Act.eval,h1,h2]
              refine (fT _ _ _ _ _ wx).mono ?_
              rintro e w' ⟨rfl,hb⟩
              exact⟨_,rfl,rfl,fun _=>(hp.1 (by omega)).trans (hb.mono (hp.1 (by omega)).size),fun h=>absurd h (by omega)⟩
            · refine okP 0 1 fun p γ a wx _ hph hp hk=>?_
              have h1:=hk.k 18 rfl
              have hbx:=HY.out.below (hp.1 (by omega)) hyl
              obtain⟨c0,c1,c2,c3,c4⟩:=Blk.c5 (hbx)
              simp [go_sem,Oper.wp,execOp,Act.eval,h1,c0,c1,c2,c3,c4]
              exact⟨_,rfl,rfl,hp⟩
            · refine⟨rfl,.inl ⟨1,rfl,fun γ a wx hp hk=>?_⟩⟩
              obtain⟨u1,h1,rfl⟩:=hk.g 0 55 rfl rfl
              obtain⟨u2,h2,rfl⟩:=hk.g 3 58 rfl rfl
              obtain⟨u3,h3,rfl⟩:=hk.g 4 59 rfl rfl
              obtain⟨w',hr,hm',hg'⟩:=(HA1.out.map.below (hp.1 (by omega)) hml).put Tryz.underlying157 (by unfold maxLen; omega) name (Ho2.out _ (List.mem_of_getElem? Hf.out)) (.agg #[.string name,.int .i64 prio,.int .i64 need,.int .i64 tries,.string tag])
              simp [go_sem,Oper.wp,execOp,Act.eval,h1,h2,h3,hr]
              exact⟨⟨.int .i64 0,trivial⟩,fun h=>absurd h (by omega),fun _=>⟨wx,hp.1 (by omega),hg',hm'.congr (fun s=>HSt.out s)⟩⟩
          · intro γ a wx hd
            obtain⟨wm,hbm,hgm,hmm⟩:=hd.ph.2 (by decide)
            obtain⟨fv,rfl,-⟩:=hd.frame [55,56,57,58,59] rfl
            have HC:=hid ((HA1.out.kept hbm).turned hgm hmm)
            clear hd hbm hgm hmm
            simp only [foldl_cons,foldl_nil,setIfInBounds_toArray,set_cons_succ,set_cons_zero]
            go_wp2
            go_roundw
            case rel=>exact⟨kk+1,by omega,by go_num,HC.out⟩
            case measure=>simp [intOf]; omega
        · have HE:=hid (show kG w (.func (.func 49) #[] #[]) (k+kk) (fun s=>(eA aB.name rows gone set s).map (fun x:aB=>Value.agg (aH x).toArray)) wr from ⟨HA.out.below,HA.out.key,HA.out.size,HA.out.map.congr (fun s=>by rw [List.take_of_length_le (by rw [Lb.out]; omega)])⟩)
          have hB1:Below wr.heap.size wr (wr.alloc (.cells #[.map (some (w.heap.size+1))] 157)):=(Below.refl _ _).alloc (Nat.le_refl _) _
          have HE1:=HE.out.kept hB1
          have HC:=hid (vk.1 wr.heap.size (w.heap.size+1) (k+kk) w.heap.size (by omega) rows set gone _ (by simp [go_sem]) HE1.map HE1.key HR.out HS.out)
          have HB:=hid HE1.below
          have hmf:∀ (fn:Fn) (first cap:Array Value) (w:World),(Instr.makeFunc fn first cap).run Tryz.prog w = .ok (.func fn first cap) w:=fun _ _ _ _=>rfl
          clear HA HE hB1 HE1
          go_wp2_with fail
          refine Calls.mono (Fm _ _) ?_
          rintro e w1 ⟨rfl,rfl⟩
          go_wp2_with fail
          refine Calls.mono HC.out ?_
          rintro e w2 ⟨A2,c2,rfl,hown,hb2⟩
          have H2:=hid (HB.out.trans (hb2.mono HB.out.size))
          have H3:=hid (bV hown HB.out.size)
          clear hown hb2
          go_wp2
          go_ret2
          exact⟨H2.out,.inr ⟨Hmf.out,A2,c2,rfl,H3.out⟩⟩
theorem Cg (rows set:List av) (gone:List ByteArray) (A B G:Option Addr) (n cA m cB q cG:Nat) (w:World) (ha:aQ w w.heap.size 3 A n (au aI rows)) (la:rows.length=n) (hn:n≤40) (hb:aQ w w.heap.size 3 B m (au aI set)) (lb:set.length=m) (hm:m≤40)
 (hg:aQ w w.heap.size 1 G q (au mN gone)) (lg:gone.length=q) (hq:q≤1000) (hr:aT av.name rows) (hs:aT av.name set) (hgd:gone.Pairwise fun a b=>a≠b)
 (ho1:∀ x ∈ rows,(av.name x).size≤maxLen) (ho2:∀ x ∈ set,(av.name x).size≤maxLen) (ho3:∀ x ∈ gone,x.size≤maxLen) :
 Calls Tryz.prog 50 #[.slice A n cA,.slice B m cB,.slice G q cG,.func (.func 51) #[] #[]] w (tN av.name 61 3 aI rows set gone w):=by
 have HA0:=hid ha
 have HB0:=hid hb
 have HG0:=hid hg
 have La:=hid la
 have Lb:=hid lb
 have Lg:=hid lg
 have HR:=hid hr
 have HS:=hid hs
 have HGd:=hid hgd
 have Ho1:=hid ho1
 have Ho2:=hid ho2
 have Ho3:=hid ho3
 have H0:=hid (show kG w (.func (.func 51) #[] #[]) 0 (fun s=>(eA av.name (rows.take 0) [] [] s).map (fun x:av=>Value.agg (aI x).toArray)) ((w.alloc (.cells #[.func (.func 51) #[] #[]] 111)).alloc (.map #[] 0)) from
  ⟨((Below.refl _ _).alloc (Nat.le_refl _) _).alloc (by simp) _,by simp [go_sem],by simp,by
   have h:=bT.made (w.alloc (.cells #[.func (.func 51) #[] #[]] 111))
   rw [show (w.alloc (.cells #[.func (.func 51) #[] #[]] 111)).heap.size=w.heap.size+1 by simp] at h
   exact h.congr (fun s=>by simp [eA])⟩)
 have hmk:=fun t W=>run_makeMap (P:=Tryz.prog) t W
 clear ha hb hg la lb lg hr hs hgd ho1 ho2 ho3
 go_enter Tryz.func50,Tryz.ntmps50
 go_wp2
 clear hmk
 go_loopw [22] (fun i wr=>∃ k:Nat,k≤n∧i = .int .i64 k∧kG w (.func (.func 51) #[] #[]) k (fun s=>(eA av.name (rows.take k) [] [] s).map (fun x:av=>Value.agg (aI x).toArray)) wr) (fun i _=>n - (intOf i).toNat)
 case atStart=>exact⟨0,Nat.zero_le _,rfl,H0.out⟩
 case round=>
  clear H0
  obtain⟨k,hk,rfl,hat⟩:=hrel
  have HA:=hid hat
  have hsz:=hat.size
  have hbs:=hat.below.size
  clear hat
  by_cases hlt:k<n
  · obtain⟨x,hf⟩:∃ x,rows[k]? = some x:=⟨_,List.getElem?_eq_getElem (by rw [La.out]; exact hlt)⟩
    obtain⟨bb,off,hao,hbB,hc⟩:=(HA0.out.below HA.out.below).dF bF La.out hf
    subst hao
    have Hf:=hid hf
    obtain⟨name,room,zone⟩:=x
    obtain⟨e0,e1,e2⟩:=rc3 hc
    have hlb:bb<wr.heap.size:=by omega
    obtain⟨W1,hW1⟩:∃ W1,wr.alloc (.cells #[.string name,.int .i64 room,.string zone] 61)=W1:=⟨_,rfl⟩
    have hB1:Below wr.heap.size wr W1:=by rw [← hW1]; exact (Below.refl _ _).alloc (Nat.le_refl _) _
    have HY:=hid (show Blk W1 wr.heap.size 61 #[.string name,.int .i64 room,.string zone] from by rw [← hW1]; exact heap_alloc_new wr _)
    have HA1:=hid (HA.out.kept hB1)
    have hsz1:=hB1.size
    have hyl:=HY.out.lt
    have HW1:=hid hW1
    have HSt:=hid (mE (V:=(fun x:av=>Value.agg (aI x).toArray)) (yF (key:=av.name) (cO HR.out) Hf.out))
    have hml:w.heap.size+1<W1.heap.size:=HA1.out.size
    clear hc hB1 hW1 hf
    go_wp2_with fail
    rw [HW1.out]
    refine bO (n:=65) (Γ:=Unit) (by kernel_rfl) (fun _=>cgV (w.heap.size+1) (.func (.func 51) #[] #[]) (.agg #[.string name,.int .i64 room,.string zone]) name) [3,5] (fun p _=>IV W1 (w.heap.size+1) (k+1) (fun s=>(eA av.name (rows.take (k+1)) [] [] s).map (fun x:av=>Value.agg (aI x).toArray)) p) () (by decide +kernel) (by decide +kernel) rfl ⟨fun _=>(Below.refl _ W1).drew,fun h=>absurd h (by omega)⟩ ?_ ?_
    · refine⟨?_,?_,?_,?_,?_,?_,trivial⟩
      · refine okP 0 1 fun p γ a wx _ _ hp hk=>?_
        have h1:=hk.k 10 rfl
        simp [go_sem,Oper.wp,execOp,Act.eval,h1]
        exact⟨_,rfl,rfl,hp⟩
      · refine okP 0 0 fun p γ a wx _ hph hp hk=>?_
        have h1:=hk.k 7 rfl
        have hc:wx.cell? ⟨w.heap.size,0,none⟩=some (.func (.func 51) #[] #[]):=((hp.1 (by omega)).cell (p:=⟨w.heap.size,0,none⟩) (by show w.heap.size<_; omega)).trans HA1.out.key
        simp [go_sem,Oper.wp,execOp,Act.eval,h1,hc]
        exact⟨_,rfl,rfl,hp⟩
      · refine okP 0 0 fun p γ a wx _ hph hp hk=>?_
        have h1:=hk.k 12 rfl
        have hbx:=HY.out.below (hp.1 (by omega)) hyl
        have c0:wx.cell? ⟨wr.heap.size,0,none⟩=some (.string name):=hbx.cell 0
        have c1:wx.cell? ⟨wr.heap.size,1,none⟩=some (.int .i64 room):=hbx.cell 1
        have c2:wx.cell? ⟨wr.heap.size,2,none⟩=some (.string zone):=hbx.cell 2
        simp [go_sem,Oper.wp,execOp,Act.eval,h1,c0,c1,c2]
        exact⟨_,rfl,rfl,hp⟩
      · refine⟨rfl,.inl ⟨0,rfl,fun γ a wx hp hk=>?_⟩⟩
        obtain⟨u1,h1,rfl⟩:=hk.g 1 27 rfl rfl
        obtain⟨u2,h2,rfl⟩:=hk.g 2 28 rfl rfl
        simp [go_sem,Oper.wp,execOp,Act.eval,h1,h2]
        refine (iD _ _ _ wx).mono ?_
        rintro e w' ⟨rfl,hb⟩
        exact⟨_,rfl,rfl,fun _=>(hp.1 (by omega)).trans (hb.mono (hp.1 (by omega)).size),fun h=>absurd h (by omega)⟩
      · refine okP 0 1 fun p γ a wx _ hph hp hk=>?_
        have h1:=hk.k 12 rfl
        have hbx:=HY.out.below (hp.1 (by omega)) hyl
        have c0:wx.cell? ⟨wr.heap.size,0,none⟩=some (.string name):=hbx.cell 0
        have c1:wx.cell? ⟨wr.heap.size,1,none⟩=some (.int .i64 room):=hbx.cell 1
        have c2:wx.cell? ⟨wr.heap.size,2,none⟩=some (.string zone):=hbx.cell 2
        simp [go_sem,Oper.wp,execOp,Act.eval,h1,c0,c1,c2]
        exact⟨_,rfl,rfl,hp⟩
      · refine⟨rfl,.inl ⟨1,rfl,fun γ a wx hp hk=>?_⟩⟩
        obtain⟨u1,h1,rfl⟩:=hk.g 0 26 rfl rfl
        obtain⟨u2,h2,rfl⟩:=hk.g 3 29 rfl rfl
        obtain⟨u3,h3,rfl⟩:=hk.g 4 30 rfl rfl
        obtain⟨w',hr,hm',hg'⟩:=(HA1.out.map.below (hp.1 (by omega)) hml).put Tryz.underlying158 (by unfold maxLen; omega) name (Ho1.out _ (List.mem_of_getElem? Hf.out)) (.agg #[.string name,.int .i64 room,.string zone])
        simp [go_sem,Oper.wp,execOp,Act.eval,h1,h2,h3,hr]
        exact⟨⟨.int .i64 0,trivial⟩,fun h=>absurd h (by omega),fun _=>⟨wx,hp.1 (by omega),hg',hm'.congr (fun s=>HSt.out s)⟩⟩
    · intro γ a wx hd
      obtain⟨wm,hbm,hgm,hmm⟩:=hd.ph.2 (by decide)
      obtain⟨fv,rfl,-⟩:=hd.frame [26,27,28,29,30] rfl
      have HC:=hid ((HA1.out.kept hbm).turned hgm hmm)
      clear hd hbm hgm hmm
      simp only [foldl_cons,foldl_nil,setIfInBounds_toArray,set_cons_succ,set_cons_zero]
      go_wp2
      go_roundw
      case rel=>exact⟨k+1,by omega,by go_num,HC.out⟩
      case measure=>simp [intOf]; omega
  · have HE:=hid (show kG w (.func (.func 51) #[] #[]) k (fun s=>(eA av.name rows (gone.take 0) [] s).map (fun x:av=>Value.agg (aI x).toArray)) wr from ⟨HA.out.below,HA.out.key,HA.out.size,HA.out.map.congr (fun s=>by rw [List.take_of_length_le (by rw [La.out]; omega)]; rfl)⟩)
    have hk40:k≤40:=by omega
    clear HA HA0 hsz hbs
    go_wp2
    clear hlt
    go_loopw [34] (fun i wr=>∃ kk:Nat,kk≤q∧i = .int .i64 kk∧aW av.name rows (gone.take kk)=false∧kG w (.func (.func 51) #[] #[]) k (fun s=>(eA av.name rows (gone.take kk) [] s).map (fun x:av=>Value.agg (aI x).toArray)) wr) (fun i _=>q - (intOf i).toNat)
    case atStart=>exact⟨0,Nat.zero_le _,rfl,rfl,HE.out⟩
    case round=>
     clear HE
     obtain⟨kk,hkk,rfl,Dr,hat⟩:=hrel
     have HA:=hid hat
     have HM:=hid Dr
     have hsz:=hat.size
     have hbs:=hat.below.size
     clear hat Dr
     by_cases hlt:kk<q
     · obtain⟨s,hf⟩:∃ x,gone[kk]? = some x:=⟨_,List.getElem?_eq_getElem (by rw [Lg.out]; exact hlt)⟩
       obtain⟨bb,off,hao,hbB,hc⟩:=(HG0.out.below HA.out.below).dF jQ Lg.out hf
       subst hao
       have Hf:=hid hf
       have e0:wr.cell? ⟨bb,off+kk*1,none⟩=some (.string s):=hc 0 _ rfl
       rw [Nat.mul_one] at e0
       have hlb:bb<wr.heap.size:=by omega
       have hss:=hid (Ho3.out s (List.mem_of_getElem? hf))
       have hlk:=HA.out.map.look_ok Tryz.underlying158 (Tryz.zeroValue61 wr) s hss.out
       have His:=hid (Cf (key:=av.name) (rows:=rows) HGd.out hf)
       clear hc hf
       cases ht:eA av.name rows (gone.take kk) [] s with
       | none=>
        rw [ht] at hlk
        simp only [Option.map_none,Option.getD_none,Option.isSome_none] at hlk
        have fin:=hid (qE (key:=av.name) Hf.out (by rw [← His.out,ht]; rfl))
        have Hb:=hid (HA.out.below.alloc hbs (.cells #[.string ⟨#[]⟩,.int .i64 0,.string ⟨#[]⟩] 61))
        clear ht
        go_wp2
        go_ret2
        exact⟨Hb.out,.inl ⟨fin.out,rfl⟩⟩
       | some r=>
        rw [ht] at hlk
        simp only [Option.map_some,Option.getD_some,Option.isSome_some] at hlk
        have hany:(rows.any fun r=>decide (av.name r=s))=true:=by rw [← His.out,ht]; rfl
        have fin:=hid (pG (key:=av.name) Hf.out HM.out hany)
        have HSt:=hid (vo (V:=(fun x:av=>Value.agg (aI x).toArray)) (vv (key:=av.name) (rows:=rows) Hf.out))
        obtain⟨name,room,zone⟩:=r
        replace hlk:(Instr.lookup 158 (.map (some (w.heap.size+1))) (.string s) true).run Tryz.prog wr = .ok (.tuple #[.agg #[.string name,.int .i64 room,.string zone],.bool true]) wr:=hlk
        have HA1:=hid (HA.out.kept ((Below.refl wr.heap.size wr).alloc (Nat.le_refl _) (.cells #[.string name,.int .i64 room,.string zone] 61)))
        obtain⟨wd,hdr,hdm,hdg⟩:=HA1.out.map.del Tryz.underlying158 s hss.out 0
        have HC:=hid (HA1.out.turned hdg (hdm.congr (fun s=>HSt.out s)))
        clear ht hany hdm hdg
        go_wp2
        go_roundw
        case rel=>exact⟨kk+1,by omega,by go_num,fin.out,HC.out⟩
        case measure=>simp [intOf]; omega
     · have Hmf:=hid (qF (key:=av.name) HM.out (by rw [Lg.out]; omega))
       have HE:=hid (show kG w (.func (.func 51) #[] #[]) (k+0) (fun s=>(eA av.name rows gone (set.take 0) s).map (fun x:av=>Value.agg (aI x).toArray)) wr from ⟨HA.out.below,HA.out.key,HA.out.size,HA.out.map.congr (fun s=>by rw [List.take_of_length_le (by rw [Lg.out]; omega)]; rfl)⟩)
       clear HA HM HG0 hsz hbs
       go_wp2
       clear hlt
       go_loopw [51] (fun i wr=>∃ kk:Nat,kk≤m∧i = .int .i64 kk∧kG w (.func (.func 51) #[] #[]) (k+kk) (fun s=>(eA av.name rows gone (set.take kk) s).map (fun x:av=>Value.agg (aI x).toArray)) wr) (fun i _=>m - (intOf i).toNat)
       case atStart=>exact⟨0,Nat.zero_le _,rfl,HE.out⟩
       case round=>
        clear HE
        obtain⟨kk,hkk,rfl,hat⟩:=hrel
        have HA:=hid hat
        have hsz:=hat.size
        have hbs:=hat.below.size
        clear hat
        by_cases hlt:kk<m
        · obtain⟨x,hf⟩:∃ x,set[kk]? = some x:=⟨_,List.getElem?_eq_getElem (by rw [Lb.out]; exact hlt)⟩
          obtain⟨bb,off,hao,hbB,hc⟩:=(HB0.out.below HA.out.below).dF bF Lb.out hf
          subst hao
          have Hf:=hid hf
          obtain⟨name,room,zone⟩:=x
          obtain⟨e0,e1,e2⟩:=rc3 hc
          have hlb:bb<wr.heap.size:=by omega
          obtain⟨W1,hW1⟩:∃ W1,wr.alloc (.cells #[.string name,.int .i64 room,.string zone] 61)=W1:=⟨_,rfl⟩
          have hB1:Below wr.heap.size wr W1:=by rw [← hW1]; exact (Below.refl _ _).alloc (Nat.le_refl _) _
          have HY:=hid (show Blk W1 wr.heap.size 61 #[.string name,.int .i64 room,.string zone] from by rw [← hW1]; exact heap_alloc_new wr _)
          have HA1:=hid (HA.out.kept hB1)
          have hsz1:=hB1.size
          have hyl:=HY.out.lt
          have HW1:=hid hW1
          have HSt:=hid (mE (V:=(fun x:av=>Value.agg (aI x).toArray)) (yG (key:=av.name) (rows:=rows) (gone:=gone) (cO HS.out) Hf.out))
          have hml:w.heap.size+1<W1.heap.size:=HA1.out.size
          clear hc hB1 hW1 hf
          go_wp2_with fail
          rw [HW1.out]
          refine bO (n:=65) (Γ:=Unit) (by kernel_rfl) (fun _=>cgV (w.heap.size+1) (.func (.func 51) #[] #[]) (.agg #[.string name,.int .i64 room,.string zone]) name) [3,5] (fun p _=>IV W1 (w.heap.size+1) ((k+kk)+1) (fun s=>(eA av.name rows gone (set.take (kk+1)) s).map (fun x:av=>Value.agg (aI x).toArray)) p) () (by decide +kernel) (by decide +kernel) rfl ⟨fun _=>(Below.refl _ W1).drew,fun h=>absurd h (by omega)⟩ ?_ ?_
          · refine⟨?_,?_,?_,?_,?_,?_,trivial⟩
            · refine okP 0 1 fun p γ a wx _ _ hp hk=>?_
              have h1:=hk.k 10 rfl
              simp [go_sem,Oper.wp,execOp,Act.eval,h1]
              exact⟨_,rfl,rfl,hp⟩
            · refine okP 0 0 fun p γ a wx _ hph hp hk=>?_
              have h1:=hk.k 7 rfl
              have hc:wx.cell? ⟨w.heap.size,0,none⟩=some (.func (.func 51) #[] #[]):=((hp.1 (by omega)).cell (p:=⟨w.heap.size,0,none⟩) (by show w.heap.size<_; omega)).trans HA1.out.key
              simp [go_sem,Oper.wp,execOp,Act.eval,h1,hc]
              exact⟨_,rfl,rfl,hp⟩
            · refine okP 0 0 fun p γ a wx _ hph hp hk=>?_
              have h1:=hk.k 18 rfl
              have hbx:=HY.out.below (hp.1 (by omega)) hyl
              have c0:wx.cell? ⟨wr.heap.size,0,none⟩=some (.string name):=hbx.cell 0
              have c1:wx.cell? ⟨wr.heap.size,1,none⟩=some (.int .i64 room):=hbx.cell 1
              have c2:wx.cell? ⟨wr.heap.size,2,none⟩=some (.string zone):=hbx.cell 2
              simp [go_sem,Oper.wp,execOp,Act.eval,h1,c0,c1,c2]
              exact⟨_,rfl,rfl,hp⟩
            · refine⟨rfl,.inl ⟨0,rfl,fun γ a wx hp hk=>?_⟩⟩
              obtain⟨u1,h1,rfl⟩:=hk.g 1 56 rfl rfl
              obtain⟨u2,h2,rfl⟩:=hk.g 2 57 rfl rfl
              simp [go_sem,Oper.wp,execOp,Act.eval,h1,h2]
              refine (iD _ _ _ wx).mono ?_
              rintro e w' ⟨rfl,hb⟩
              exact⟨_,rfl,rfl,fun _=>(hp.1 (by omega)).trans (hb.mono (hp.1 (by omega)).size),fun h=>absurd h (by omega)⟩
            · refine okP 0 1 fun p γ a wx _ hph hp hk=>?_
              have h1:=hk.k 18 rfl
              have hbx:=HY.out.below (hp.1 (by omega)) hyl
              have c0:wx.cell? ⟨wr.heap.size,0,none⟩=some (.string name):=hbx.cell 0
              have c1:wx.cell? ⟨wr.heap.size,1,none⟩=some (.int .i64 room):=hbx.cell 1
              have c2:wx.cell? ⟨wr.heap.size,2,none⟩=some (.string zone):=hbx.cell 2
              simp [go_sem,Oper.wp,execOp,Act.eval,h1,c0,c1,c2]
              exact⟨_,rfl,rfl,hp⟩
            · refine⟨rfl,.inl ⟨1,rfl,fun γ a wx hp hk=>?_⟩⟩
              obtain⟨u1,h1,rfl⟩:=hk.g 0 55 rfl rfl
              obtain⟨u2,h2,rfl⟩:=hk.g 3 58 rfl rfl
              obtain⟨u3,h3,rfl⟩:=hk.g 4 59 rfl rfl
              obtain⟨w',hr,hm',hg'⟩:=(HA1.out.map.below (hp.1 (by omega)) hml).put Tryz.underlying158 (by unfold maxLen; omega) name (Ho2.out _ (List.mem_of_getElem? Hf.out)) (.agg #[.string name,.int .i64 room,.string zone])
              simp [go_sem,Oper.wp,execOp,Act.eval,h1,h2,h3,hr]
              exact⟨⟨.int .i64 0,trivial⟩,fun h=>absurd h (by omega),fun _=>⟨wx,hp.1 (by omega),hg',hm'.congr (fun s=>HSt.out s)⟩⟩
          · intro γ a wx hd
            obtain⟨wm,hbm,hgm,hmm⟩:=hd.ph.2 (by decide)
            obtain⟨fv,rfl,-⟩:=hd.frame [55,56,57,58,59] rfl
            have HC:=hid ((HA1.out.kept hbm).turned hgm hmm)
            clear hd hbm hgm hmm
            simp only [foldl_cons,foldl_nil,setIfInBounds_toArray,set_cons_succ,set_cons_zero]
            go_wp2
            go_roundw
            case rel=>exact⟨kk+1,by omega,by go_num,HC.out⟩
            case measure=>simp [intOf]; omega
        · have HE:=hid (show kG w (.func (.func 51) #[] #[]) (k+kk) (fun s=>(eA av.name rows gone set s).map (fun x:av=>Value.agg (aI x).toArray)) wr from ⟨HA.out.below,HA.out.key,HA.out.size,HA.out.map.congr (fun s=>by rw [List.take_of_length_le (by rw [Lb.out]; omega)])⟩)
          have hB1:Below wr.heap.size wr (wr.alloc (.cells #[.map (some (w.heap.size+1))] 158)):=(Below.refl _ _).alloc (Nat.le_refl _) _
          have HE1:=HE.out.kept hB1
          have HC:=hid (vk.2.1 wr.heap.size (w.heap.size+1) (k+kk) w.heap.size (by omega) rows set gone _ (by simp [go_sem]) HE1.map HE1.key HR.out HS.out)
          have HB:=hid HE1.below
          have hmf:∀ (fn:Fn) (first cap:Array Value) (w:World),(Instr.makeFunc fn first cap).run Tryz.prog w = .ok (.func fn first cap) w:=fun _ _ _ _=>rfl
          clear HA HE hB1 HE1
          go_wp2_with fail
          refine Calls.mono (Ds _ _) ?_
          rintro e w1 ⟨rfl,rfl⟩
          go_wp2_with fail
          refine Calls.mono HC.out ?_
          rintro e w2 ⟨A2,c2,rfl,hown,hb2⟩
          have H2:=hid (HB.out.trans (hb2.mono HB.out.size))
          have H3:=hid (bV hown HB.out.size)
          clear hown hb2
          go_wp2
          go_ret2
          exact⟨H2.out,.inr ⟨Hmf.out,A2,c2,rfl,H3.out⟩⟩
theorem AU (rows set:List ak) (gone:List ByteArray) (A B G:Option Addr) (n cA m cB q cG:Nat) (w:World) (ha:aQ w w.heap.size 3 A n (au aE rows)) (la:rows.length=n) (hn:n≤40) (hb:aQ w w.heap.size 3 B m (au aE set)) (lb:set.length=m) (hm:m≤40)
 (hg:aQ w w.heap.size 1 G q (au mN gone)) (lg:gone.length=q) (hq:q≤1000) (hr:aT ak.job rows) (hs:aT ak.job set) (hgd:gone.Pairwise fun a b=>a≠b)
 (ho1:∀ x ∈ rows,(ak.job x).size≤maxLen) (ho2:∀ x ∈ set,(ak.job x).size≤maxLen) (ho3:∀ x ∈ gone,x.size≤maxLen) :
 Calls Tryz.prog 52 #[.slice A n cA,.slice B m cB,.slice G q cG,.func (.func 53) #[] #[]] w (tN ak.job 63 3 aE rows set gone w):=by
 have HA0:=hid ha
 have HB0:=hid hb
 have HG0:=hid hg
 have La:=hid la
 have Lb:=hid lb
 have Lg:=hid lg
 have HR:=hid hr
 have HS:=hid hs
 have HGd:=hid hgd
 have Ho1:=hid ho1
 have Ho2:=hid ho2
 have Ho3:=hid ho3
 have H0:=hid (show kG w (.func (.func 53) #[] #[]) 0 (fun s=>(eA ak.job (rows.take 0) [] [] s).map (fun x:ak=>Value.agg (aE x).toArray)) ((w.alloc (.cells #[.func (.func 53) #[] #[]] 114)).alloc (.map #[] 0)) from
  ⟨((Below.refl _ _).alloc (Nat.le_refl _) _).alloc (by simp) _,by simp [go_sem],by simp,by
   have h:=bT.made (w.alloc (.cells #[.func (.func 53) #[] #[]] 114))
   rw [show (w.alloc (.cells #[.func (.func 53) #[] #[]] 114)).heap.size=w.heap.size+1 by simp] at h
   exact h.congr (fun s=>by simp [eA])⟩)
 have hmk:=fun t W=>run_makeMap (P:=Tryz.prog) t W
 clear ha hb hg la lb lg hr hs hgd ho1 ho2 ho3
 go_enter Tryz.func52,Tryz.ntmps52
 go_wp2
 clear hmk
 go_loopw [22] (fun i wr=>∃ k:Nat,k≤n∧i = .int .i64 k∧kG w (.func (.func 53) #[] #[]) k (fun s=>(eA ak.job (rows.take k) [] [] s).map (fun x:ak=>Value.agg (aE x).toArray)) wr) (fun i _=>n - (intOf i).toNat)
 case atStart=>exact⟨0,Nat.zero_le _,rfl,H0.out⟩
 case round=>
  clear H0
  obtain⟨k,hk,rfl,hat⟩:=hrel
  have HA:=hid hat
  have hsz:=hat.size
  have hbs:=hat.below.size
  clear hat
  by_cases hlt:k<n
  · obtain⟨x,hf⟩:∃ x,rows[k]? = some x:=⟨_,List.getElem?_eq_getElem (by rw [La.out]; exact hlt)⟩
    obtain⟨bb,off,hao,hbB,hc⟩:=(HA0.out.below HA.out.below).dF bB La.out hf
    subst hao
    have Hf:=hid hf
    obtain⟨job,node,till⟩:=x
    obtain⟨e0,e1,e2⟩:=rc3 hc
    have hlb:bb<wr.heap.size:=by omega
    obtain⟨W1,hW1⟩:∃ W1,wr.alloc (.cells #[.string job,.string node,.int .i64 till] 63)=W1:=⟨_,rfl⟩
    have hB1:Below wr.heap.size wr W1:=by rw [← hW1]; exact (Below.refl _ _).alloc (Nat.le_refl _) _
    have HY:=hid (show Blk W1 wr.heap.size 63 #[.string job,.string node,.int .i64 till] from by rw [← hW1]; exact heap_alloc_new wr _)
    have HA1:=hid (HA.out.kept hB1)
    have hsz1:=hB1.size
    have hyl:=HY.out.lt
    have HW1:=hid hW1
    have HSt:=hid (mE (V:=(fun x:ak=>Value.agg (aE x).toArray)) (yF (key:=ak.job) (cO HR.out) Hf.out))
    have hml:w.heap.size+1<W1.heap.size:=HA1.out.size
    clear hc hB1 hW1 hf
    go_wp2_with fail
    rw [HW1.out]
    refine bO (n:=65) (Γ:=Unit) (by kernel_rfl) (fun _=>cgV (w.heap.size+1) (.func (.func 53) #[] #[]) (.agg #[.string job,.string node,.int .i64 till]) job) [3,5] (fun p _=>IV W1 (w.heap.size+1) (k+1) (fun s=>(eA ak.job (rows.take (k+1)) [] [] s).map (fun x:ak=>Value.agg (aE x).toArray)) p) () (by decide +kernel) (by decide +kernel) rfl ⟨fun _=>(Below.refl _ W1).drew,fun h=>absurd h (by omega)⟩ ?_ ?_
    · refine⟨?_,?_,?_,?_,?_,?_,trivial⟩
      · refine okP 0 1 fun p γ a wx _ _ hp hk=>?_
        have h1:=hk.k 10 rfl
        simp [go_sem,Oper.wp,execOp,Act.eval,h1]
        exact⟨_,rfl,rfl,hp⟩
      · refine okP 0 0 fun p γ a wx _ hph hp hk=>?_
        have h1:=hk.k 7 rfl
        have hc:wx.cell? ⟨w.heap.size,0,none⟩=some (.func (.func 53) #[] #[]):=((hp.1 (by omega)).cell (p:=⟨w.heap.size,0,none⟩) (by show w.heap.size<_; omega)).trans HA1.out.key
        simp [go_sem,Oper.wp,execOp,Act.eval,h1,hc]
        exact⟨_,rfl,rfl,hp⟩
      · refine okP 0 0 fun p γ a wx _ hph hp hk=>?_
        have h1:=hk.k 12 rfl
        have hbx:=HY.out.below (hp.1 (by omega)) hyl
        have c0:wx.cell? ⟨wr.heap.size,0,none⟩=some (.string job):=hbx.cell 0
        have c1:wx.cell? ⟨wr.heap.size,1,none⟩=some (.string node):=hbx.cell 1
        have c2:wx.cell? ⟨wr.heap.size,2,none⟩=some (.int .i64 till):=hbx.cell 2
        simp [go_sem,Oper.wp,execOp,Act.eval,h1,c0,c1,c2]
        exact⟨_,rfl,rfl,hp⟩
      · refine⟨rfl,.inl ⟨0,rfl,fun γ a wx hp hk=>?_⟩⟩
        obtain⟨u1,h1,rfl⟩:=hk.g 1 27 rfl rfl
        obtain⟨u2,h2,rfl⟩:=hk.g 2 28 rfl rfl
        simp [go_sem,Oper.wp,execOp,Act.eval,h1,h2]
        refine (eP _ _ _ wx).mono ?_
        rintro e w' ⟨rfl,hb⟩
        exact⟨_,rfl,rfl,fun _=>(hp.1 (by omega)).trans (hb.mono (hp.1 (by omega)).size),fun h=>absurd h (by omega)⟩
      · refine okP 0 1 fun p γ a wx _ hph hp hk=>?_
        have h1:=hk.k 12 rfl
        have hbx:=HY.out.below (hp.1 (by omega)) hyl
        have c0:wx.cell? ⟨wr.heap.size,0,none⟩=some (.string job):=hbx.cell 0
        have c1:wx.cell? ⟨wr.heap.size,1,none⟩=some (.string node):=hbx.cell 1
        have c2:wx.cell? ⟨wr.heap.size,2,none⟩=some (.int .i64 till):=hbx.cell 2
        simp [go_sem,Oper.wp,execOp,Act.eval,h1,c0,c1,c2]
        exact⟨_,rfl,rfl,hp⟩
      · refine⟨rfl,.inl ⟨1,rfl,fun γ a wx hp hk=>?_⟩⟩
        obtain⟨u1,h1,rfl⟩:=hk.g 0 26 rfl rfl
        obtain⟨u2,h2,rfl⟩:=hk.g 3 29 rfl rfl
        obtain⟨u3,h3,rfl⟩:=hk.g 4 30 rfl rfl
        obtain⟨w',hr,hm',hg'⟩:=(HA1.out.map.below (hp.1 (by omega)) hml).put Tryz.underlying206 (by unfold maxLen; omega) job (Ho1.out _ (List.mem_of_getElem? Hf.out)) (.agg #[.string job,.string node,.int .i64 till])
        simp [go_sem,Oper.wp,execOp,Act.eval,h1,h2,h3,hr]
        exact⟨⟨.int .i64 0,trivial⟩,fun h=>absurd h (by omega),fun _=>⟨wx,hp.1 (by omega),hg',hm'.congr (fun s=>HSt.out s)⟩⟩
    · intro γ a wx hd
      obtain⟨wm,hbm,hgm,hmm⟩:=hd.ph.2 (by decide)
      obtain⟨fv,rfl,-⟩:=hd.frame [26,27,28,29,30] rfl
      have HC:=hid ((HA1.out.kept hbm).turned hgm hmm)
      clear hd hbm hgm hmm
      simp only [foldl_cons,foldl_nil,setIfInBounds_toArray,set_cons_succ,set_cons_zero]
      go_wp2
      go_roundw
      case rel=>exact⟨k+1,by omega,by go_num,HC.out⟩
      case measure=>simp [intOf]; omega
  · have HE:=hid (show kG w (.func (.func 53) #[] #[]) k (fun s=>(eA ak.job rows (gone.take 0) [] s).map (fun x:ak=>Value.agg (aE x).toArray)) wr from ⟨HA.out.below,HA.out.key,HA.out.size,HA.out.map.congr (fun s=>by rw [List.take_of_length_le (by rw [La.out]; omega)]; rfl)⟩)
    have hk40:k≤40:=by omega
    clear HA HA0 hsz hbs
    go_wp2
    clear hlt
    go_loopw [34] (fun i wr=>∃ kk:Nat,kk≤q∧i = .int .i64 kk∧aW ak.job rows (gone.take kk)=false∧kG w (.func (.func 53) #[] #[]) k (fun s=>(eA ak.job rows (gone.take kk) [] s).map (fun x:ak=>Value.agg (aE x).toArray)) wr) (fun i _=>q - (intOf i).toNat)
    case atStart=>exact⟨0,Nat.zero_le _,rfl,rfl,HE.out⟩
    case round=>
     clear HE
     obtain⟨kk,hkk,rfl,Dr,hat⟩:=hrel
     have HA:=hid hat
     have HM:=hid Dr
     have hsz:=hat.size
     have hbs:=hat.below.size
     clear hat Dr
     by_cases hlt:kk<q
     · obtain⟨s,hf⟩:∃ x,gone[kk]? = some x:=⟨_,List.getElem?_eq_getElem (by rw [Lg.out]; exact hlt)⟩
       obtain⟨bb,off,hao,hbB,hc⟩:=(HG0.out.below HA.out.below).dF jQ Lg.out hf
       subst hao
       have Hf:=hid hf
       have e0:wr.cell? ⟨bb,off+kk*1,none⟩=some (.string s):=hc 0 _ rfl
       rw [Nat.mul_one] at e0
       have hlb:bb<wr.heap.size:=by omega
       have hss:=hid (Ho3.out s (List.mem_of_getElem? hf))
       have hlk:=HA.out.map.look_ok Tryz.underlying206 (Tryz.zeroValue63 wr) s hss.out
       have His:=hid (Cf (key:=ak.job) (rows:=rows) HGd.out hf)
       clear hc hf
       cases ht:eA ak.job rows (gone.take kk) [] s with
       | none=>
        rw [ht] at hlk
        simp only [Option.map_none,Option.getD_none,Option.isSome_none] at hlk
        have fin:=hid (qE (key:=ak.job) Hf.out (by rw [← His.out,ht]; rfl))
        have Hb:=hid (HA.out.below.alloc hbs (.cells #[.string ⟨#[]⟩,.string ⟨#[]⟩,.int .i64 0] 63))
        clear ht
        go_wp2
        go_ret2
        exact⟨Hb.out,.inl ⟨fin.out,rfl⟩⟩
       | some r=>
        rw [ht] at hlk
        simp only [Option.map_some,Option.getD_some,Option.isSome_some] at hlk
        have hany:(rows.any fun r=>decide (ak.job r=s))=true:=by rw [← His.out,ht]; rfl
        have fin:=hid (pG (key:=ak.job) Hf.out HM.out hany)
        have HSt:=hid (vo (V:=(fun x:ak=>Value.agg (aE x).toArray)) (vv (key:=ak.job) (rows:=rows) Hf.out))
        obtain⟨job,node,till⟩:=r
        replace hlk:(Instr.lookup 206 (.map (some (w.heap.size+1))) (.string s) true).run Tryz.prog wr = .ok (.tuple #[.agg #[.string job,.string node,.int .i64 till],.bool true]) wr:=hlk
        have HA1:=hid (HA.out.kept ((Below.refl wr.heap.size wr).alloc (Nat.le_refl _) (.cells #[.string job,.string node,.int .i64 till] 63)))
        obtain⟨wd,hdr,hdm,hdg⟩:=HA1.out.map.del Tryz.underlying206 s hss.out 0
        have HC:=hid (HA1.out.turned hdg (hdm.congr (fun s=>HSt.out s)))
        clear ht hany hdm hdg
        go_wp2
        go_roundw
        case rel=>exact⟨kk+1,by omega,by go_num,fin.out,HC.out⟩
        case measure=>simp [intOf]; omega
     · have Hmf:=hid (qF (key:=ak.job) HM.out (by rw [Lg.out]; omega))
       have HE:=hid (show kG w (.func (.func 53) #[] #[]) (k+0) (fun s=>(eA ak.job rows gone (set.take 0) s).map (fun x:ak=>Value.agg (aE x).toArray)) wr from ⟨HA.out.below,HA.out.key,HA.out.size,HA.out.map.congr (fun s=>by rw [List.take_of_length_le (by rw [Lg.out]; omega)]; rfl)⟩)
       clear HA HM HG0 hsz hbs
       go_wp2
       clear hlt
       go_loopw [51] (fun i wr=>∃ kk:Nat,kk≤m∧i = .int .i64 kk∧kG w (.func (.func 53) #[] #[]) (k+kk) (fun s=>(eA ak.job rows gone (set.take kk) s).map (fun x:ak=>Value.agg (aE x).toArray)) wr) (fun i _=>m - (intOf i).toNat)
       case atStart=>exact⟨0,Nat.zero_le _,rfl,HE.out⟩
       case round=>
        clear HE
        obtain⟨kk,hkk,rfl,hat⟩:=hrel
        have HA:=hid hat
        have hsz:=hat.size
        have hbs:=hat.below.size
        clear hat
        by_cases hlt:kk<m
        · obtain⟨x,hf⟩:∃ x,set[kk]? = some x:=⟨_,List.getElem?_eq_getElem (by rw [Lb.out]; exact hlt)⟩
          obtain⟨bb,off,hao,hbB,hc⟩:=(HB0.out.below HA.out.below).dF bB Lb.out hf
          subst hao
          have Hf:=hid hf
          obtain⟨job,node,till⟩:=x
          obtain⟨e0,e1,e2⟩:=rc3 hc
          have hlb:bb<wr.heap.size:=by omega
          obtain⟨W1,hW1⟩:∃ W1,wr.alloc (.cells #[.string job,.string node,.int .i64 till] 63)=W1:=⟨_,rfl⟩
          have hB1:Below wr.heap.size wr W1:=by rw [← hW1]; exact (Below.refl _ _).alloc (Nat.le_refl _) _
          have HY:=hid (show Blk W1 wr.heap.size 63 #[.string job,.string node,.int .i64 till] from by rw [← hW1]; exact heap_alloc_new wr _)
          have HA1:=hid (HA.out.kept hB1)
          have hsz1:=hB1.size
          have hyl:=HY.out.lt
          have HW1:=hid hW1
          have HSt:=hid (mE (V:=(fun x:ak=>Value.agg (aE x).toArray)) (yG (key:=ak.job) (rows:=rows) (gone:=gone) (cO HS.out) Hf.out))
          have hml:w.heap.size+1<W1.heap.size:=HA1.out.size
          clear hc hB1 hW1 hf
          go_wp2_with fail
          rw [HW1.out]
          refine bO (n:=65) (Γ:=Unit) (by kernel_rfl) (fun _=>cgV (w.heap.size+1) (.func (.func 53) #[] #[]) (.agg #[.string job,.string node,.int .i64 till]) job) [3,5] (fun p _=>IV W1 (w.heap.size+1) ((k+kk)+1) (fun s=>(eA ak.job rows gone (set.take (kk+1)) s).map (fun x:ak=>Value.agg (aE x).toArray)) p) () (by decide +kernel) (by decide +kernel) rfl ⟨fun _=>(Below.refl _ W1).drew,fun h=>absurd h (by omega)⟩ ?_ ?_
          · refine⟨?_,?_,?_,?_,?_,?_,trivial⟩
            · refine okP 0 1 fun p γ a wx _ _ hp hk=>?_
              have h1:=hk.k 10 rfl
              simp [go_sem,Oper.wp,execOp,Act.eval,h1]
              exact⟨_,rfl,rfl,hp⟩
            · refine okP 0 0 fun p γ a wx _ hph hp hk=>?_
              have h1:=hk.k 7 rfl
              have hc:wx.cell? ⟨w.heap.size,0,none⟩=some (.func (.func 53) #[] #[]):=((hp.1 (by omega)).cell (p:=⟨w.heap.size,0,none⟩) (by show w.heap.size<_; omega)).trans HA1.out.key
              simp [go_sem,Oper.wp,execOp,Act.eval,h1,hc]
              exact⟨_,rfl,rfl,hp⟩
            · refine okP 0 0 fun p γ a wx _ hph hp hk=>?_
              have h1:=hk.k 18 rfl
              have hbx:=HY.out.below (hp.1 (by omega)) hyl
              have c0:wx.cell? ⟨wr.heap.size,0,none⟩=some (.string job):=hbx.cell 0
              have c1:wx.cell? ⟨wr.heap.size,1,none⟩=some (.string node):=hbx.cell 1
              have c2:wx.cell? ⟨wr.heap.size,2,none⟩=some (.int .i64 till):=hbx.cell 2
              simp [go_sem,Oper.wp,execOp,Act.eval,h1,c0,c1,c2]
              exact⟨_,rfl,rfl,hp⟩
            · refine⟨rfl,.inl ⟨0,rfl,fun γ a wx hp hk=>?_⟩⟩
              obtain⟨u1,h1,rfl⟩:=hk.g 1 56 rfl rfl
              obtain⟨u2,h2,rfl⟩:=hk.g 2 57 rfl rfl
              simp [go_sem,Oper.wp,execOp,Act.eval,h1,h2]
              refine (eP _ _ _ wx).mono ?_
              rintro e w' ⟨rfl,hb⟩
              exact⟨_,rfl,rfl,fun _=>(hp.1 (by omega)).trans (hb.mono (hp.1 (by omega)).size),fun h=>absurd h (by omega)⟩
            · refine okP 0 1 fun p γ a wx _ hph hp hk=>?_
              have h1:=hk.k 18 rfl
              have hbx:=HY.out.below (hp.1 (by omega)) hyl
              have c0:wx.cell? ⟨wr.heap.size,0,none⟩=some (.string job):=hbx.cell 0
              have c1:wx.cell? ⟨wr.heap.size,1,none⟩=some (.string node):=hbx.cell 1
              have c2:wx.cell? ⟨wr.heap.size,2,none⟩=some (.int .i64 till):=hbx.cell 2
              simp [go_sem,Oper.wp,execOp,Act.eval,h1,c0,c1,c2]
              exact⟨_,rfl,rfl,hp⟩
            · refine⟨rfl,.inl ⟨1,rfl,fun γ a wx hp hk=>?_⟩⟩
              obtain⟨u1,h1,rfl⟩:=hk.g 0 55 rfl rfl
              obtain⟨u2,h2,rfl⟩:=hk.g 3 58 rfl rfl
              obtain⟨u3,h3,rfl⟩:=hk.g 4 59 rfl rfl
              obtain⟨w',hr,hm',hg'⟩:=(HA1.out.map.below (hp.1 (by omega)) hml).put Tryz.underlying206 (by unfold maxLen; omega) job (Ho2.out _ (List.mem_of_getElem? Hf.out)) (.agg #[.string job,.string node,.int .i64 till])
              simp [go_sem,Oper.wp,execOp,Act.eval,h1,h2,h3,hr]
              exact⟨⟨.int .i64 0,trivial⟩,fun h=>absurd h (by omega),fun _=>⟨wx,hp.1 (by omega),hg',hm'.congr (fun s=>HSt.out s)⟩⟩
          · intro γ a wx hd
            obtain⟨wm,hbm,hgm,hmm⟩:=hd.ph.2 (by decide)
            obtain⟨fv,rfl,-⟩:=hd.frame [55,56,57,58,59] rfl
            have HC:=hid ((HA1.out.kept hbm).turned hgm hmm)
            clear hd hbm hgm hmm
            simp only [foldl_cons,foldl_nil,setIfInBounds_toArray,set_cons_succ,set_cons_zero]
            go_wp2
            go_roundw
            case rel=>exact⟨kk+1,by omega,by go_num,HC.out⟩
            case measure=>simp [intOf]; omega
        · have HE:=hid (show kG w (.func (.func 53) #[] #[]) (k+kk) (fun s=>(eA ak.job rows gone set s).map (fun x:ak=>Value.agg (aE x).toArray)) wr from ⟨HA.out.below,HA.out.key,HA.out.size,HA.out.map.congr (fun s=>by rw [List.take_of_length_le (by rw [Lb.out]; omega)])⟩)
          have hB1:Below wr.heap.size wr (wr.alloc (.cells #[.map (some (w.heap.size+1))] 206)):=(Below.refl _ _).alloc (Nat.le_refl _) _
          have HE1:=HE.out.kept hB1
          have HC:=hid (vk.2.2 wr.heap.size (w.heap.size+1) (k+kk) w.heap.size (by omega) rows set gone _ (by simp [go_sem]) HE1.map HE1.key HR.out HS.out)
          have HB:=hid HE1.below
          have hmf:∀ (fn:Fn) (first cap:Array Value) (w:World),(Instr.makeFunc fn first cap).run Tryz.prog w = .ok (.func fn first cap) w:=fun _ _ _ _=>rfl
          clear HA HE hB1 HE1
          go_wp2_with fail
          refine Calls.mono (Ch _ _) ?_
          rintro e w1 ⟨rfl,rfl⟩
          go_wp2_with fail
          refine Calls.mono HC.out ?_
          rintro e w2 ⟨A2,c2,rfl,hown,hb2⟩
          have H2:=hid (HB.out.trans (hb2.mono HB.out.size))
          have H3:=hid (bV hown HB.out.size)
          clear hown hb2
          go_wp2
          go_ret2
          exact⟨H2.out,.inr ⟨Hmf.out,A2,c2,rfl,H3.out⟩⟩
end Go.Proofs.YtcpgnjmaampglaaGreatDoor
