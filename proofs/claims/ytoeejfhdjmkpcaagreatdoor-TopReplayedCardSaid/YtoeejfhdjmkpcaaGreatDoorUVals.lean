/- Of the proof of a statement: Vals. -/
import Derived.RangeFuncNested
import Derived.RangeFuncBound
import Derived.RangeFuncCalls
import Derived.RangeFuncLeaves
import Derived.RangeFuncMany
import Derived.RangeFuncFrom
import Derived.RangeFuncBox
import Derived.Sort.MapsRangeIn
import Derived.Sort.KeysCollected
import Derived.Shelf.Abstract
import Derived.Shelf.RegionOpen
import Derived.WalkKit
import Derived.OwnWalkIn
import Derived.TacticsInMore
import Derived.RegionIn
import Derived.LoopNIn
import Derived.LoopIn
import Derived.Maps.OwnIn
import Derived.Maps.AppendAt
import Derived.Test.YtoeejfhdjmkpcaaGreatDoorULaySort
set_option linter.unusedVariables false
set_option linter.unusedSimpArgs false
set_option maxRecDepth 100000
set_option maxHeartbeats 8000000
/- maps.Values of a table that the call itself has made; slices.AppendSeq and Collect over it: jobs, nodes, leases. -/
namespace Go.Proofs.YtoeejfhdjmkpcaaGreatDoor
open Go.Lib (hid)
open Go.RowKit Go.Maps Go.Sort Go.Shelf
section
attribute [local go_sem] Oper.semAt_some
def Jw {α:Type} (V:α→Value) (G:ByteArray→Option α) (D:DataW Value):Prop:=∀ (s:ByteArray) (z:DataW Value),D.atKey (.string s.data.toList) z=match (G s).map V with
 | none=>z
 | some v=>.held v
theorem wu (x:List UInt8):(ByteArray.mk x.toArray).data.toList=x:=rfl
theorem vB {α:Type} {V:α→Value} {G:ByteArray→Option α} {D:DataW Value} (hD:Jw V G D) {x:List UInt8} {c:Value} {yd:DataW Value} {yp:List MemPlace} (hv:jH c=some (yd,yp)) (hat:∀ z,D.atKey (.string x) z=yd) :
 ∃ r,G ⟨x.toArray⟩=some r∧c=V r:=by
 have e1:yd = .held c:=by
  have:=congrArg (fun o=>o.map Prod.fst) hv
  simpa [jH] using this.symm
 subst e1
 have h1:=hD ⟨x.toArray⟩
 cases hg:G ⟨x.toArray⟩ with
 | none=>
  have h2:=h1 (.lit (.int .i64 0))
  rw [wu,hat,hg] at h2
  simp at h2
 | some r=>
  have h2:=h1 (.lit (.int .i64 0))
  rw [wu,hat,hg] at h2
  refine⟨r,rfl,?_⟩
  simpa using h2
theorem AZ {α:Type} {key:α→ByteArray} {V:α→Value} {G:ByteArray→Option α} {D:DataW Value} {left:Lit→Bool} {ps:List (List UInt8 × α)} (hG:∀ s x,G s=some x→key x=s) (hD:Jw V G D)
 (hC:Collected D left (ps.map (·.1))) (hl:∀ kl,left kl=false) (hV:∀ p ∈ ps,G ⟨p.1.toArray⟩=some p.2):ku key G (ps.map (·.2)):=by
 have hk:∀ p ∈ ps,key p.2=⟨p.1.toArray⟩:=fun p hp=>hG _ _ (hV p hp)
 constructor
 · have h1:=hC.1
   rw [List.Nodup,List.pairwise_map] at h1
   rw [List.pairwise_map]
   refine List.Pairwise.imp_of_mem (fun {a b} ha hb hne e=>?_) h1
   rw [hk a ha,hk b hb] at e
   injection e with e
   exact hne (List.toArray_inj e)
 · intro z
   constructor
   · intro hz
     obtain⟨p,hp,rfl⟩:=List.mem_map.1 hz
     rw [hk p hp]; exact hV p hp
   · intro hz
     have hh:has D (.string (key z).data.toList)=true:=by
      have h1:=hD (key z)
      rw [hz] at h1
      exact Maps.has_true_of_atKey (y:=.held (V z)) h1
     obtain⟨p,hp,hpe⟩:=List.mem_map.1 ((hC.2 _).2 ⟨hh,hl _⟩)
     have h2:=hV p hp
     have e3:(ByteArray.mk p.1.toArray)=key z:=by rw [hpe]
     rw [e3,hz] at h2
     injection h2 with h2
     exact List.mem_map.2 ⟨p,hp,h2.symm⟩
theorem vC (w:World) (xs:List Value) (t:TypeId):∀ (j:Nat) u,xs[j]? = some u→(w.alloc (.cells xs.toArray t)).cell? ((⟨w.heap.size,0,none⟩:Addr).add j)=some u:=by
 intro j u hj
 rw [show (⟨w.heap.size,0,none⟩:Addr).add j=(⟨w.heap.size,0+j,none⟩:Addr) from by simp [Addr.add]; omega]
 rw [cell_of_row _ _ (0+j) xs.toArray t (0,0) (heap_alloc_new w _),Nat.zero_add]
 simpa using hj
theorem sw {X Y:World} {Bx:Nat} {T:TypeId} {cs:Array Value} {row:Option Nat} (h:Blk X Bx T cs) (hg:X.grownBy Y row) (hr:∀ r,row=some r→∃ o:Obj,X.heap[r]? = some o∧o.isCells=false):Blk Y Bx T cs:=
 (hg.block Bx h.lt (fun e=>by obtain⟨o,ho,hc⟩:=hr Bx e.symm; rw [show X.heap[Bx]? = _ from h] at ho; cases ho; cases hc)).trans h
theorem yN {w:World} {base:Nat} {e:TypeId} {sz n:Nat} {v:Value} {xs:List Value} (h:w.ownsRow base e sz v n xs):∃ A c,v = .slice A n c:=by
 rcases h.2 with ⟨rfl,rfl⟩ | ⟨g,cap,cur,rfl,_⟩
 · exact⟨_,_,rfl⟩
 · exact⟨_,_,rfl⟩
theorem Jy (n:Nat) (hn:1≤n) (l Bm b nn:Nat) (D0:DataW Value) (G:ByteArray→Option aA) (hG:∀ s x,G s=some x→aA.name x=s) (J Jx:List aA→World→Prop)
 (hY:∀ pre x W,J pre W→pre.length<nn→YieldAt Fence.wide (n - 1) Tryz.prog l #[.agg (aJ x).toArray] W fun e W'=>
  (e = .returned (.bool true)∧J (pre ++ [x]) W'∧KeepsWalks W W')∨(e = .returned (.bool false)∧Jx (pre ++ [x]) W'))
 (W:World) (hJ:AbidesFrom W.heap.size J) (hm:W.cell? ⟨Bm,0,none⟩=some (.map (some b))) (hown:W.ownsMap Tryz.prog 9 jH b nn D0) (hD:Jw (fun x:aA=>Value.agg (aJ x).toArray) G D0) (h0:J [] W) :
 CallsIn Fence.wide n Tryz.prog 266 #[.func (.yield l) #[] #[],.pointer (some ⟨Bm,0,none⟩)] W fun e W'=>(∃ v,e = .returned v) ∧
  ((∃ xs,ku aA.name G xs∧J xs W')∨(∃ pre,True∧Jx pre W')):=by
 have hsl:=hown.size_le
 refine callsIn_of_wp Tryz.func266 rfl trivial ?_ rfl
 simp only [Tryz.ntmps266,List.size_toArray,List.length_cons,List.length_nil,Nat.reduceAdd,Nat.reduceSub,Array.replicate_succ,Array.replicate_zero,List.push_toArray,List.append_toArray,List.nil_append,List.cons_append]
 gi_wp2_with (first
  | (gi_at_range; refine wpListIn_range_own _ rfl _ 260 rfl 9 34 yR Tryz.underlying260 _ b nn _ rfl hown ?_; intro w0 hrg0 hg0 hs0)
  | gi_in)
 go_frame
 gi_loopw [4] (fun _ wr=>∃ (left:Lit→Bool) (cnt:Nat) (ps:List (List UInt8 × aA)),wr.ranges Tryz.prog 9 jH b W.heap.size nn D0 left cnt∧ps.length+cnt≤Maps.size D0∧Collected D0 left (ps.map (·.1))∧(∀ p ∈ ps,G ⟨p.1.toArray⟩=some p.2)∧J (ps.map (·.2)) wr)
  (fun _ wr=>wr.rangeLeft b W.heap.size)
 case atStart=>
  exact⟨_,_,[],hrg0,by simp,Collected.start D0,by simp,hJ [] W w0 none h0 hg0 (fun r e=>by cases e)⟩
 case round=>
  obtain⟨left,cnt,ps,hrg,hcs,hC,hV,hJs⟩:=hrel
  gi_wp2_with (first
   | (gi_at_next; refine wpListIn_next_ranges _ rfl _ rfl 9 yR jH encStr id (fun key kl hk=>by obtain⟨x,hx,_⟩:=Maps.keyOf_str Tryz.underlying9 hk; exact⟨x,hx⟩) (fun v _ _=>⟨v,rfl⟩) b W.heap.size nn _ _ _ rfl hrg ?_ ?_)
   | gi_in)
  · intro hc0 hl0
    gi_wp2
    go_end0
    exact⟨⟨_,rfl⟩,.inl ⟨_,AZ hG hD hC hl0 hV,hJs⟩⟩
  · intro x c kl yd yp w2 cnt2 hkey hlk hv hat hrg2 hlt hg2 hs2 hen
    obtain⟨x',ex,rfl,_⟩:=Maps.keyOf_str Tryz.underlying9 hkey
    obtain rfl:x=x':=encStr_inj ex
    obtain⟨r,hr,hc⟩:=vB hD hv hat
    have hJ2:J (ps.map (·.2)) w2:=hJ _ wr w2 (some W.heap.size) hJs hg2 (fun r e=>by cases e; exact⟨Nat.le_refl _,hrg.iter_walk⟩)
    have hC2:Collected D0 (fun z=>left z && !z.sameKey (.string x)) ((ps ++ [(x,r)]).map (·.1)):=by simpa using hC.step hlk hat
    have hV2:∀ p ∈ ps ++ [(x,r)],G ⟨p.1.toArray⟩=some p.2:=fun p hp=>(List.mem_append.1 hp).elim (hV p) (fun e=>by simp at e; subst e; exact hr)
    have HX:=hid (And.intro hC2 hV2)
    have hJ3:∀ o:Obj,J (ps.map (·.2)) (w2.alloc o):=fun o=>hJ _ w2 _ none hJ2 (World.grownBy_alloc w2 _ none) (fun r e=>by cases e)
    have Cz:∀ o:Obj,(w2.alloc o).ranges Tryz.prog 9 jH b W.heap.size nn D0 (fun z=>left z && !z.sameKey (.string x)) cnt2:=fun o=>hrg2.of_walks (KeepsWalks.alloc _ _)
    obtain⟨fn,tmps,assign,body,hy,hR⟩:=hY (ps.map (·.2)) r (w2.alloc (.cells (aJ r).toArray 34)) (hJ3 _) (by simp; omega)
    obtain⟨name,prio,need,tries,tag⟩:=r
    replace hc:c = .agg #[.string name,.int .i64 prio,.int .i64 need,.int .i64 tries,.string tag]:=hc
    subst hc
    replace hy:(Instr.yield l #[.agg #[.string name,.int .i64 prio,.int .i64 need,.int .i64 tries,.string tag]]).run Tryz.prog (w2.alloc (.cells #[.string name,.int .i64 prio,.int .i64 need,.int .i64 tries,.string tag] 34))=_:=hy
    have HR:=hid hR
    have HRG:=hid (Cz (.cells #[.string name,.int .i64 prio,.int .i64 need,.int .i64 tries,.string tag] 34))
    clear hs2 hD hG hC hV hC2 hV2 hr hat hv hJ2 hJ3 Cz hR
    gi_wp2
    refine HR.out.mono ?_
    rintro e W3 (⟨rfl,hJ3,hk3⟩ | ⟨rfl,hJx3⟩)
    · gi_wp2
      have hrg3:=HRG.out.of_walks hk3
      go_roundw
      case rel=>exact⟨_,cnt2,_,hrg3,by simp; omega,HX.out.1,HX.out.2,by simpa using hJ3⟩
      case measure=>rw [hrg3.left_eq,hrg.left_eq]; exact hlt
    · gi_wp2
      refine bodyPost_ret (results_none rfl _ _ _) rfl ?_
      exact⟨⟨_,rfl⟩,.inr ⟨_,trivial,hJx3⟩⟩
theorem CM (m:Option Nat) (w:World):Calls Tryz.prog 172 #[.map m] w fun e w'=>e = .returned (.func (.func 266) #[] #[.pointer (some ⟨w.heap.size,0,none⟩)])∧w'=w.alloc (.cells #[.map m] 260):=by
 go_enter Tryz.func172,Tryz.ntmps172
 go_wp2
 go_ret
 exact⟨rfl,rfl⟩
theorem D7 (Bm b nn:Nat) (hnn:nn≤1000) (G:ByteArray→Option aA) (hG:∀ s x,G s=some x→aA.name x=s) (w:World) (hm:w.cell? ⟨Bm,0,none⟩=some (.map (some b))) (hM:bX w b nn (fun s=>(G s).map (fun x:aA=>Value.agg (aJ x).toArray))) :
 Calls Tryz.prog 353 #[.slice none 0 0,.func (.func 266) #[] #[.pointer (some ⟨Bm,0,none⟩)]] w fun e w'=>∃ A c xs,e = .returned (.slice A xs.length c)∧ku aA.name G xs∧xs.length≤nn ∧
  w'.ownsRow w.heap.size 34 5 (.slice A xs.length c) xs.length (au aJ xs)∧Below w.heap.size w w':=by
 refine (callsIn_wide (n:=3)).1 ?_
 obtain⟨D0,hown,hD⟩:=hM
 have hBm:=block_lt_of_cell hm
 have hseq:SeqStopsK Fence.wide (3 - 1) Tryz.prog 266 #[.pointer (some ⟨Bm,0,none⟩)] (fun x:aA=>#[.agg (aJ x).toArray]) KeepsWalks (ku aA.name G) (fun _=>True) nn w:=fun l J Jx W hW hJ _ hY h0=>by
  have hown':W.ownsMap Tryz.prog 9 jH b nn D0:=by
   have hbl:=hown.lt
   obtain⟨es,clock,hb,Ft,hs,hD⟩:=hown
   exact⟨es,clock,(hW.block b hbl).trans hb,Ft,hs,hD⟩
  exact Jy (3 - 1) (by decide) l Bm b nn D0 G hG J Jx hY W hJ ((hW.cell (p:=⟨Bm,0,none⟩) hBm).trans hm) hown' hD h0
 have Jz:=hid hseq
 clear hseq hD hG hown hm
 obtain⟨i0,hi,hz0,hz1,hz2⟩:=info_parts sU
 refine callsIn_of_wp_marks Tryz.func353 rfl trivial ?_ rfl
 simp only [Tryz.ntmps353,List.size_toArray,List.length_cons,List.length_nil,Nat.reduceAdd,Nat.reduceSub,Array.replicate_succ,Array.replicate_zero,List.push_toArray,List.append_toArray,List.nil_append,List.cons_append]
 gi_wp2
 refine wpIn_rangeFunc_ownH rfl (by decide) (gf:=266) (lb:=#[.pointer (some ⟨Bm,0,none⟩)]) rfl trivial (Go.Proofs.enters_of Tryz.func266 (by kernel_rfl) rfl)
  Jz.out walksK_t walksK_b ((Below.refl _ w).alloc (Nat.le_refl _) _) (fun _=>rfl)
  (fun pre W=>((∃ v,Boxed W w.heap.size 22 v∧W.ownsRow w.heap.size 34 5 v pre.length (au aJ pre)∧True)∧Below w.heap.size w W)∧pre.length≤nn)
  (fun _ _ _=>False)
  (OwnFrom.and (OwnFrom.and (Own.from (holdsRow_own w.heap.size w.heap.size 22 34 5 (fun pre:List aA=>pre.length) (fun pre=>au aJ pre) (fun _ _=>True)) _) (ownFrom_below (Nat.le_refl _) (by simp))) (ownFrom_pure _ _))
  (fun _=>ownFrom_pure _ _)
  ⟨⟨⟨_,Boxed.new w 22 _,World.ownsRow_nil _ _ _ _,trivial⟩,(Below.refl _ w).alloc (Nat.le_refl _) _⟩,Nat.zero_le _⟩
  (fun x a' W=>∃ Bx,w.heap.size<Bx∧Blk W Bx 34 (aJ x).toArray∧a' = { tmps:=#[.slice none 0 0,.func (.func 266) #[] #[.pointer (some ⟨Bm,0,none⟩)],.pointer (some ⟨w.heap.size,0,none⟩),undef,.slice none 0 0,.pointer (some ⟨Bx,0,none⟩),.func (.func 266) #[] #[.pointer (some ⟨Bm,0,none⟩)],.agg (aJ x).toArray,undef,undef,undef,undef,undef],defers:=[] })
  (fun x a' _ X Y row hs hg hr=>by obtain⟨Bx,h1,h2,h3⟩:=hs; exact⟨Bx,h1,sw h2 hg (fun r e=>(hr r e).2),h3⟩)
  ?assign ?body ?done ?stop
 case assign=>
  rintro l pre x W K ⟨⟨⟨v,hv,hrow,_⟩,hB⟩,hle⟩ hK
  have hvl:=hv.lt
  have HK:=hid (hK _ _ ((KeepsOthers.alloc W (.cells (aJ x).toArray 34)).from _) (KeepsWalks.alloc W _) ⟨⟨⟨v,hv.alloc _,hrow.alloc _,trivial⟩,hB.alloc hB.size _⟩,hle⟩ ⟨W.heap.size,hvl,heap_alloc_new W _,rfl⟩)
  clear hv hrow hB hK
  obtain⟨name,prio,need,tries,tag⟩:=x
  simp only [show (Value.agg (aJ ⟨name,prio,need,tries,tag⟩).toArray) = .agg #[.string name,.int .i64 prio,.int .i64 need,.int .i64 tries,.string tag] from rfl]
  gi_wp2
  exact HK.out
 case body=>
  rintro l pre x a' W hl _ ⟨⟨⟨v,hv,hrow,_⟩,hB⟩,hle⟩ ⟨Bx,hBx,hbx,rfl⟩ hlt
  have hcl:(aJ x).length=1*5:=by rw [aP]
  have hone:=ny x
  have hc0:=hv.cell
  have hf0:=hv.frozen
  have hbs:=hB.size
  have CA:=hid hrow
  have HV:=hid hv
  have HB:=hid hB
  have HE:=hid (show au aJ pre ++ aJ x=au aJ (pre ++ [x]) by rw [bS,nL])
  clear hrow hv hB
  have hbxl:=hbx.lt
  obtain⟨name,prio,need,tries,tag⟩:=x
  rw [show (Value.agg (aJ ⟨name,prio,need,tries,tag⟩).toArray) = .agg #[.string name,.int .i64 prio,.int .i64 need,.int .i64 tries,.string tag] from rfl]
  have d0:W.cell? ⟨Bx,0,none⟩=some (.string name):=hbx.cell 0
  have d1:W.cell? ⟨Bx,1,none⟩=some (.int .i64 prio):=hbx.cell 1
  have d2:W.cell? ⟨Bx,2,none⟩=some (.int .i64 need):=hbx.cell 2
  have d3:W.cell? ⟨Bx,3,none⟩=some (.int .i64 tries):=hbx.cell 3
  have d4:W.cell? ⟨Bx,4,none⟩=some (.string tag):=hbx.cell 4
  clear hbx
  gi_wp2_with (gi_at_builtin; refine wpListIn_append_own_at _ rfl _ _ 22 rfl w.heap.size 34 i0 (.agg #[.string ⟨#[]⟩,.int .i64 0,.int .i64 0,.int .i64 0,.string ⟨#[]⟩]) 5 56 Tryz.underlying22 hi hz0 hz1 hz2 rfl (by decide) _ _ _ rfl (CA.out.alloc _) ⟨W.heap.size,0,none⟩ 1 1 (aJ ⟨name,prio,need,tries,tag⟩) rfl hcl (vC _ _ _) hone (by unfold maxLen; omega) (by omega) (by simp; omega) ?_; intro v' w1 hown' hgrow _ _; obtain⟨g',cap',rfl⟩:=ownsRow_succ hown'; obtain⟨hv1,hv2,hr2,hk2,hb2⟩:=HV.out.appended (by decide) CA.out hbs (Nat.le_refl _) hown' hgrow; have hc1:=hv1.cell; have hf1:=hv1.frozen; have HZ:=hid (And.intro hv2 (And.intro hr2 (And.intro hk2 hb2))); clear hv1 hv2 hr2 hk2 hb2 hown' hgrow)
  obtain⟨hv2,hr2,hk2,hb2⟩:=HZ.out
  rw [HE.out] at hr2
  exact⟨hk2.from _,hk2.walks,⟨⟨_,hv2,by simpa using hr2,trivial⟩,HB.out.trans hb2⟩,by simp; omega⟩
 case done=>
  rintro D xs W hDl hS ⟨⟨⟨v,hv,hrow,_⟩,hB⟩,hle⟩ hK
  have hc0:=hv.cell
  obtain⟨A,c,rfl⟩:=yN hrow
  have HR:=hid (ownsRow_putObj hrow (.deferred none) hK rfl)
  have HB:=hid (hB.trans (belowK_b (w:=w) (Nat.le_refl _) W D _ (.deferred none) (by simp at hDl; omega) hK rfl rfl))
  have HS:=hid hS
  clear hrow hB hS
  gi_wp2
  refine⟨by simp,.inl ⟨_,_,rfl,run_takeDeferred hK,?_⟩⟩
  exact⟨_,results_tmp rfl _ _ _,A,c,xs,rfl,HS.out,hle,HR.out,HB.out⟩
 case stop=>
  rintro D c pre W _ _ h _
  exact h.elim
theorem Ba (Bm b nn:Nat) (hnn:nn≤1000) (G:ByteArray→Option aA) (hG:∀ s x,G s=some x→aA.name x=s) (w:World) (hm:w.cell? ⟨Bm,0,none⟩=some (.map (some b))) (hM:bX w b nn (fun s=>(G s).map (fun x:aA=>Value.agg (aJ x).toArray))) :
 Calls Tryz.prog 264 #[.func (.func 266) #[] #[.pointer (some ⟨Bm,0,none⟩)]] w fun e w'=>∃ A c xs,e = .returned (.slice A xs.length c)∧ku aA.name G xs∧xs.length≤nn ∧
  w'.ownsRow w.heap.size 34 5 (.slice A xs.length c) xs.length (au aJ xs)∧Below w.heap.size w w':=by
 have HC:=hid (D7 Bm b nn hnn G hG w hm hM)
 clear hm hM hG
 go_enter Tryz.func264,Tryz.ntmps264
 go_wp2_with fail
 refine Calls.mono HC.out ?_
 rintro e w' ⟨A,c,xs,rfl,h1,h2,h3,h4⟩
 have H:=hid (And.intro h1 (And.intro h2 (And.intro h3 h4)))
 clear h1 h2 h3 h4
 go_wp2
 go_ret
 exact⟨A,c,xs,rfl,H.out⟩
theorem Gc (n:Nat) (hn:1≤n) (l Bm b nn:Nat) (D0:DataW Value) (G:ByteArray→Option av) (hG:∀ s x,G s=some x→av.name x=s) (J Jx:List av→World→Prop)
 (hY:∀ pre x W,J pre W→pre.length<nn→YieldAt Fence.wide (n - 1) Tryz.prog l #[.agg (aB x).toArray] W fun e W'=>
  (e = .returned (.bool true)∧J (pre ++ [x]) W'∧KeepsWalks W W')∨(e = .returned (.bool false)∧Jx (pre ++ [x]) W'))
 (W:World) (hJ:AbidesFrom W.heap.size J) (hm:W.cell? ⟨Bm,0,none⟩=some (.map (some b))) (hown:W.ownsMap Tryz.prog 9 jH b nn D0) (hD:Jw (fun x:av=>Value.agg (aB x).toArray) G D0) (h0:J [] W) :
 CallsIn Fence.wide n Tryz.prog 270 #[.func (.yield l) #[] #[],.pointer (some ⟨Bm,0,none⟩)] W fun e W'=>(∃ v,e = .returned v) ∧
  ((∃ xs,ku av.name G xs∧J xs W')∨(∃ pre,True∧Jx pre W')):=by
 have hsl:=hown.size_le
 refine callsIn_of_wp Tryz.func270 rfl trivial ?_ rfl
 simp only [Tryz.ntmps270,List.size_toArray,List.length_cons,List.length_nil,Nat.reduceAdd,Nat.reduceSub,Array.replicate_succ,Array.replicate_zero,List.push_toArray,List.append_toArray,List.nil_append,List.cons_append]
 gi_wp2_with (first
  | (gi_at_range; refine wpListIn_range_own _ rfl _ 268 rfl 9 36 yR Tryz.underlying268 _ b nn _ rfl hown ?_; intro w0 hrg0 hg0 hs0)
  | gi_in)
 go_frame
 gi_loopw [4] (fun _ wr=>∃ (left:Lit→Bool) (cnt:Nat) (ps:List (List UInt8 × av)),wr.ranges Tryz.prog 9 jH b W.heap.size nn D0 left cnt∧ps.length+cnt≤Maps.size D0∧Collected D0 left (ps.map (·.1))∧(∀ p ∈ ps,G ⟨p.1.toArray⟩=some p.2)∧J (ps.map (·.2)) wr)
  (fun _ wr=>wr.rangeLeft b W.heap.size)
 case atStart=>
  exact⟨_,_,[],hrg0,by simp,Collected.start D0,by simp,hJ [] W w0 none h0 hg0 (fun r e=>by cases e)⟩
 case round=>
  obtain⟨left,cnt,ps,hrg,hcs,hC,hV,hJs⟩:=hrel
  gi_wp2_with (first
   | (gi_at_next; refine wpListIn_next_ranges _ rfl _ rfl 9 yR jH encStr id (fun key kl hk=>by obtain⟨x,hx,_⟩:=Maps.keyOf_str Tryz.underlying9 hk; exact⟨x,hx⟩) (fun v _ _=>⟨v,rfl⟩) b W.heap.size nn _ _ _ rfl hrg ?_ ?_)
   | gi_in)
  · intro hc0 hl0
    gi_wp2
    go_end0
    exact⟨⟨_,rfl⟩,.inl ⟨_,AZ hG hD hC hl0 hV,hJs⟩⟩
  · intro x c kl yd yp w2 cnt2 hkey hlk hv hat hrg2 hlt hg2 hs2 hen
    obtain⟨x',ex,rfl,_⟩:=Maps.keyOf_str Tryz.underlying9 hkey
    obtain rfl:x=x':=encStr_inj ex
    obtain⟨r,hr,hc⟩:=vB hD hv hat
    have hJ2:J (ps.map (·.2)) w2:=hJ _ wr w2 (some W.heap.size) hJs hg2 (fun r e=>by cases e; exact⟨Nat.le_refl _,hrg.iter_walk⟩)
    have hC2:Collected D0 (fun z=>left z && !z.sameKey (.string x)) ((ps ++ [(x,r)]).map (·.1)):=by simpa using hC.step hlk hat
    have hV2:∀ p ∈ ps ++ [(x,r)],G ⟨p.1.toArray⟩=some p.2:=fun p hp=>(List.mem_append.1 hp).elim (hV p) (fun e=>by simp at e; subst e; exact hr)
    have HX:=hid (And.intro hC2 hV2)
    have hJ3:∀ o:Obj,J (ps.map (·.2)) (w2.alloc o):=fun o=>hJ _ w2 _ none hJ2 (World.grownBy_alloc w2 _ none) (fun r e=>by cases e)
    have Cz:∀ o:Obj,(w2.alloc o).ranges Tryz.prog 9 jH b W.heap.size nn D0 (fun z=>left z && !z.sameKey (.string x)) cnt2:=fun o=>hrg2.of_walks (KeepsWalks.alloc _ _)
    obtain⟨fn,tmps,assign,body,hy,hR⟩:=hY (ps.map (·.2)) r (w2.alloc (.cells (aB r).toArray 36)) (hJ3 _) (by simp; omega)
    obtain⟨name,room,zone⟩:=r
    replace hc:c = .agg #[.string name,.int .i64 room,.string zone]:=hc
    subst hc
    replace hy:(Instr.yield l #[.agg #[.string name,.int .i64 room,.string zone]]).run Tryz.prog (w2.alloc (.cells #[.string name,.int .i64 room,.string zone] 36))=_:=hy
    have HR:=hid hR
    have HRG:=hid (Cz (.cells #[.string name,.int .i64 room,.string zone] 36))
    clear hs2 hD hG hC hV hC2 hV2 hr hat hv hJ2 hJ3 Cz hR
    gi_wp2
    refine HR.out.mono ?_
    rintro e W3 (⟨rfl,hJ3,hk3⟩ | ⟨rfl,hJx3⟩)
    · gi_wp2
      have hrg3:=HRG.out.of_walks hk3
      go_roundw
      case rel=>exact⟨_,cnt2,_,hrg3,by simp; omega,HX.out.1,HX.out.2,by simpa using hJ3⟩
      case measure=>rw [hrg3.left_eq,hrg.left_eq]; exact hlt
    · gi_wp2
      refine bodyPost_ret (results_none rfl _ _ _) rfl ?_
      exact⟨⟨_,rfl⟩,.inr ⟨_,trivial,hJx3⟩⟩
theorem Bf (m:Option Nat) (w:World):Calls Tryz.prog 176 #[.map m] w fun e w'=>e = .returned (.func (.func 270) #[] #[.pointer (some ⟨w.heap.size,0,none⟩)])∧w'=w.alloc (.cells #[.map m] 268):=by
 go_enter Tryz.func176,Tryz.ntmps176
 go_wp2
 go_ret
 exact⟨rfl,rfl⟩
theorem CB (Bm b nn:Nat) (hnn:nn≤1000) (G:ByteArray→Option av) (hG:∀ s x,G s=some x→av.name x=s) (w:World) (hm:w.cell? ⟨Bm,0,none⟩=some (.map (some b))) (hM:bX w b nn (fun s=>(G s).map (fun x:av=>Value.agg (aB x).toArray))) :
 Calls Tryz.prog 356 #[.slice none 0 0,.func (.func 270) #[] #[.pointer (some ⟨Bm,0,none⟩)]] w fun e w'=>∃ A c xs,e = .returned (.slice A xs.length c)∧ku av.name G xs∧xs.length≤nn ∧
  w'.ownsRow w.heap.size 36 3 (.slice A xs.length c) xs.length (au aB xs)∧Below w.heap.size w w':=by
 refine (callsIn_wide (n:=3)).1 ?_
 obtain⟨D0,hown,hD⟩:=hM
 have hBm:=block_lt_of_cell hm
 have hseq:SeqStopsK Fence.wide (3 - 1) Tryz.prog 270 #[.pointer (some ⟨Bm,0,none⟩)] (fun x:av=>#[.agg (aB x).toArray]) KeepsWalks (ku av.name G) (fun _=>True) nn w:=fun l J Jx W hW hJ _ hY h0=>by
  have hown':W.ownsMap Tryz.prog 9 jH b nn D0:=by
   have hbl:=hown.lt
   obtain⟨es,clock,hb,Ft,hs,hD⟩:=hown
   exact⟨es,clock,(hW.block b hbl).trans hb,Ft,hs,hD⟩
  exact Gc (3 - 1) (by decide) l Bm b nn D0 G hG J Jx hY W hJ ((hW.cell (p:=⟨Bm,0,none⟩) hBm).trans hm) hown' hD h0
 have Jz:=hid hseq
 clear hseq hD hG hown hm
 obtain⟨i0,hi,hz0,hz1,hz2⟩:=info_parts qx
 refine callsIn_of_wp_marks Tryz.func356 rfl trivial ?_ rfl
 simp only [Tryz.ntmps356,List.size_toArray,List.length_cons,List.length_nil,Nat.reduceAdd,Nat.reduceSub,Array.replicate_succ,Array.replicate_zero,List.push_toArray,List.append_toArray,List.nil_append,List.cons_append]
 gi_wp2
 refine wpIn_rangeFunc_ownH rfl (by decide) (gf:=270) (lb:=#[.pointer (some ⟨Bm,0,none⟩)]) rfl trivial (Go.Proofs.enters_of Tryz.func270 (by kernel_rfl) rfl)
  Jz.out walksK_t walksK_b ((Below.refl _ w).alloc (Nat.le_refl _) _) (fun _=>rfl)
  (fun pre W=>((∃ v,Boxed W w.heap.size 23 v∧W.ownsRow w.heap.size 36 3 v pre.length (au aB pre)∧True)∧Below w.heap.size w W)∧pre.length≤nn)
  (fun _ _ _=>False)
  (OwnFrom.and (OwnFrom.and (Own.from (holdsRow_own w.heap.size w.heap.size 23 36 3 (fun pre:List av=>pre.length) (fun pre=>au aB pre) (fun _ _=>True)) _) (ownFrom_below (Nat.le_refl _) (by simp))) (ownFrom_pure _ _))
  (fun _=>ownFrom_pure _ _)
  ⟨⟨⟨_,Boxed.new w 23 _,World.ownsRow_nil _ _ _ _,trivial⟩,(Below.refl _ w).alloc (Nat.le_refl _) _⟩,Nat.zero_le _⟩
  (fun x a' W=>∃ Bx,w.heap.size<Bx∧Blk W Bx 36 (aB x).toArray∧a' = { tmps:=#[.slice none 0 0,.func (.func 270) #[] #[.pointer (some ⟨Bm,0,none⟩)],.pointer (some ⟨w.heap.size,0,none⟩),undef,.slice none 0 0,.pointer (some ⟨Bx,0,none⟩),.func (.func 270) #[] #[.pointer (some ⟨Bm,0,none⟩)],.agg (aB x).toArray,undef,undef,undef,undef,undef],defers:=[] })
  (fun x a' _ X Y row hs hg hr=>by obtain⟨Bx,h1,h2,h3⟩:=hs; exact⟨Bx,h1,sw h2 hg (fun r e=>(hr r e).2),h3⟩)
  ?assign ?body ?done ?stop
 case assign=>
  rintro l pre x W K ⟨⟨⟨v,hv,hrow,_⟩,hB⟩,hle⟩ hK
  have hvl:=hv.lt
  have HK:=hid (hK _ _ ((KeepsOthers.alloc W (.cells (aB x).toArray 36)).from _) (KeepsWalks.alloc W _) ⟨⟨⟨v,hv.alloc _,hrow.alloc _,trivial⟩,hB.alloc hB.size _⟩,hle⟩ ⟨W.heap.size,hvl,heap_alloc_new W _,rfl⟩)
  clear hv hrow hB hK
  obtain⟨name,room,zone⟩:=x
  simp only [show (Value.agg (aB ⟨name,room,zone⟩).toArray) = .agg #[.string name,.int .i64 room,.string zone] from rfl]
  gi_wp2
  exact HK.out
 case body=>
  rintro l pre x a' W hl _ ⟨⟨⟨v,hv,hrow,_⟩,hB⟩,hle⟩ ⟨Bx,hBx,hbx,rfl⟩ hlt
  have hcl:(aB x).length=1*3:=by rw [aL]
  have hone:=lW x
  have hc0:=hv.cell
  have hf0:=hv.frozen
  have hbs:=hB.size
  have CA:=hid hrow
  have HV:=hid hv
  have HB:=hid hB
  have HE:=hid (show au aB pre ++ aB x=au aB (pre ++ [x]) by rw [bS,nL])
  clear hrow hv hB
  have hbxl:=hbx.lt
  obtain⟨name,room,zone⟩:=x
  rw [show (Value.agg (aB ⟨name,room,zone⟩).toArray) = .agg #[.string name,.int .i64 room,.string zone] from rfl]
  have d0:W.cell? ⟨Bx,0,none⟩=some (.string name):=hbx.cell 0
  have d1:W.cell? ⟨Bx,1,none⟩=some (.int .i64 room):=hbx.cell 1
  have d2:W.cell? ⟨Bx,2,none⟩=some (.string zone):=hbx.cell 2
  clear hbx
  gi_wp2_with (gi_at_builtin; refine wpListIn_append_own_at _ rfl _ _ 23 rfl w.heap.size 36 i0 (.agg #[.string ⟨#[]⟩,.int .i64 0,.string ⟨#[]⟩]) 3 40 Tryz.underlying23 hi hz0 hz1 hz2 rfl (by decide) _ _ _ rfl (CA.out.alloc _) ⟨W.heap.size,0,none⟩ 1 1 (aB ⟨name,room,zone⟩) rfl hcl (vC _ _ _) hone (by unfold maxLen; omega) (by omega) (by simp; omega) ?_; intro v' w1 hown' hgrow _ _; obtain⟨g',cap',rfl⟩:=ownsRow_succ hown'; obtain⟨hv1,hv2,hr2,hk2,hb2⟩:=HV.out.appended (by decide) CA.out hbs (Nat.le_refl _) hown' hgrow; have hc1:=hv1.cell; have hf1:=hv1.frozen; have HZ:=hid (And.intro hv2 (And.intro hr2 (And.intro hk2 hb2))); clear hv1 hv2 hr2 hk2 hb2 hown' hgrow)
  obtain⟨hv2,hr2,hk2,hb2⟩:=HZ.out
  rw [HE.out] at hr2
  exact⟨hk2.from _,hk2.walks,⟨⟨_,hv2,by simpa using hr2,trivial⟩,HB.out.trans hb2⟩,by simp; omega⟩
 case done=>
  rintro D xs W hDl hS ⟨⟨⟨v,hv,hrow,_⟩,hB⟩,hle⟩ hK
  have hc0:=hv.cell
  obtain⟨A,c,rfl⟩:=yN hrow
  have HR:=hid (ownsRow_putObj hrow (.deferred none) hK rfl)
  have HB:=hid (hB.trans (belowK_b (w:=w) (Nat.le_refl _) W D _ (.deferred none) (by simp at hDl; omega) hK rfl rfl))
  have HS:=hid hS
  clear hrow hB hS
  gi_wp2
  refine⟨by simp,.inl ⟨_,_,rfl,run_takeDeferred hK,?_⟩⟩
  exact⟨_,results_tmp rfl _ _ _,A,c,xs,rfl,HS.out,hle,HR.out,HB.out⟩
 case stop=>
  rintro D c pre W _ _ h _
  exact h.elim
theorem Ad (Bm b nn:Nat) (hnn:nn≤1000) (G:ByteArray→Option av) (hG:∀ s x,G s=some x→av.name x=s) (w:World) (hm:w.cell? ⟨Bm,0,none⟩=some (.map (some b))) (hM:bX w b nn (fun s=>(G s).map (fun x:av=>Value.agg (aB x).toArray))) :
 Calls Tryz.prog 268 #[.func (.func 270) #[] #[.pointer (some ⟨Bm,0,none⟩)]] w fun e w'=>∃ A c xs,e = .returned (.slice A xs.length c)∧ku av.name G xs∧xs.length≤nn ∧
  w'.ownsRow w.heap.size 36 3 (.slice A xs.length c) xs.length (au aB xs)∧Below w.heap.size w w':=by
 have HC:=hid (CB Bm b nn hnn G hG w hm hM)
 clear hm hM hG
 go_enter Tryz.func268,Tryz.ntmps268
 go_wp2_with fail
 refine Calls.mono HC.out ?_
 rintro e w' ⟨A,c,xs,rfl,h1,h2,h3,h4⟩
 have H:=hid (And.intro h1 (And.intro h2 (And.intro h3 h4)))
 clear h1 h2 h3 h4
 go_wp2
 go_ret
 exact⟨A,c,xs,rfl,H.out⟩
theorem D8 (n:Nat) (hn:1≤n) (l Bm b nn:Nat) (D0:DataW Value) (G:ByteArray→Option ah) (hG:∀ s x,G s=some x→ah.job x=s) (J Jx:List ah→World→Prop)
 (hY:∀ pre x W,J pre W→pre.length<nn→YieldAt Fence.wide (n - 1) Tryz.prog l #[.agg (ay x).toArray] W fun e W'=>
  (e = .returned (.bool true)∧J (pre ++ [x]) W'∧KeepsWalks W W')∨(e = .returned (.bool false)∧Jx (pre ++ [x]) W'))
 (W:World) (hJ:AbidesFrom W.heap.size J) (hm:W.cell? ⟨Bm,0,none⟩=some (.map (some b))) (hown:W.ownsMap Tryz.prog 9 jH b nn D0) (hD:Jw (fun x:ah=>Value.agg (ay x).toArray) G D0) (h0:J [] W) :
 CallsIn Fence.wide n Tryz.prog 273 #[.func (.yield l) #[] #[],.pointer (some ⟨Bm,0,none⟩)] W fun e W'=>(∃ v,e = .returned v) ∧
  ((∃ xs,ku ah.job G xs∧J xs W')∨(∃ pre,True∧Jx pre W')):=by
 have hsl:=hown.size_le
 refine callsIn_of_wp Tryz.func273 rfl trivial ?_ rfl
 simp only [Tryz.ntmps273,List.size_toArray,List.length_cons,List.length_nil,Nat.reduceAdd,Nat.reduceSub,Array.replicate_succ,Array.replicate_zero,List.push_toArray,List.append_toArray,List.nil_append,List.cons_append]
 gi_wp2_with (first
  | (gi_at_range; refine wpListIn_range_own _ rfl _ 275 rfl 9 38 yR Tryz.underlying275 _ b nn _ rfl hown ?_; intro w0 hrg0 hg0 hs0)
  | gi_in)
 go_frame
 gi_loopw [4] (fun _ wr=>∃ (left:Lit→Bool) (cnt:Nat) (ps:List (List UInt8 × ah)),wr.ranges Tryz.prog 9 jH b W.heap.size nn D0 left cnt∧ps.length+cnt≤Maps.size D0∧Collected D0 left (ps.map (·.1))∧(∀ p ∈ ps,G ⟨p.1.toArray⟩=some p.2)∧J (ps.map (·.2)) wr)
  (fun _ wr=>wr.rangeLeft b W.heap.size)
 case atStart=>
  exact⟨_,_,[],hrg0,by simp,Collected.start D0,by simp,hJ [] W w0 none h0 hg0 (fun r e=>by cases e)⟩
 case round=>
  obtain⟨left,cnt,ps,hrg,hcs,hC,hV,hJs⟩:=hrel
  gi_wp2_with (first
   | (gi_at_next; refine wpListIn_next_ranges _ rfl _ rfl 9 yR jH encStr id (fun key kl hk=>by obtain⟨x,hx,_⟩:=Maps.keyOf_str Tryz.underlying9 hk; exact⟨x,hx⟩) (fun v _ _=>⟨v,rfl⟩) b W.heap.size nn _ _ _ rfl hrg ?_ ?_)
   | gi_in)
  · intro hc0 hl0
    gi_wp2
    go_end0
    exact⟨⟨_,rfl⟩,.inl ⟨_,AZ hG hD hC hl0 hV,hJs⟩⟩
  · intro x c kl yd yp w2 cnt2 hkey hlk hv hat hrg2 hlt hg2 hs2 hen
    obtain⟨x',ex,rfl,_⟩:=Maps.keyOf_str Tryz.underlying9 hkey
    obtain rfl:x=x':=encStr_inj ex
    obtain⟨r,hr,hc⟩:=vB hD hv hat
    have hJ2:J (ps.map (·.2)) w2:=hJ _ wr w2 (some W.heap.size) hJs hg2 (fun r e=>by cases e; exact⟨Nat.le_refl _,hrg.iter_walk⟩)
    have hC2:Collected D0 (fun z=>left z && !z.sameKey (.string x)) ((ps ++ [(x,r)]).map (·.1)):=by simpa using hC.step hlk hat
    have hV2:∀ p ∈ ps ++ [(x,r)],G ⟨p.1.toArray⟩=some p.2:=fun p hp=>(List.mem_append.1 hp).elim (hV p) (fun e=>by simp at e; subst e; exact hr)
    have HX:=hid (And.intro hC2 hV2)
    have hJ3:∀ o:Obj,J (ps.map (·.2)) (w2.alloc o):=fun o=>hJ _ w2 _ none hJ2 (World.grownBy_alloc w2 _ none) (fun r e=>by cases e)
    have Cz:∀ o:Obj,(w2.alloc o).ranges Tryz.prog 9 jH b W.heap.size nn D0 (fun z=>left z && !z.sameKey (.string x)) cnt2:=fun o=>hrg2.of_walks (KeepsWalks.alloc _ _)
    obtain⟨fn,tmps,assign,body,hy,hR⟩:=hY (ps.map (·.2)) r (w2.alloc (.cells (ay r).toArray 38)) (hJ3 _) (by simp; omega)
    obtain⟨job,node,till⟩:=r
    replace hc:c = .agg #[.string job,.string node,.int .i64 till]:=hc
    subst hc
    replace hy:(Instr.yield l #[.agg #[.string job,.string node,.int .i64 till]]).run Tryz.prog (w2.alloc (.cells #[.string job,.string node,.int .i64 till] 38))=_:=hy
    have HR:=hid hR
    have HRG:=hid (Cz (.cells #[.string job,.string node,.int .i64 till] 38))
    clear hs2 hD hG hC hV hC2 hV2 hr hat hv hJ2 hJ3 Cz hR
    gi_wp2
    refine HR.out.mono ?_
    rintro e W3 (⟨rfl,hJ3,hk3⟩ | ⟨rfl,hJx3⟩)
    · gi_wp2
      have hrg3:=HRG.out.of_walks hk3
      go_roundw
      case rel=>exact⟨_,cnt2,_,hrg3,by simp; omega,HX.out.1,HX.out.2,by simpa using hJ3⟩
      case measure=>rw [hrg3.left_eq,hrg.left_eq]; exact hlt
    · gi_wp2
      refine bodyPost_ret (results_none rfl _ _ _) rfl ?_
      exact⟨⟨_,rfl⟩,.inr ⟨_,trivial,hJx3⟩⟩
theorem Ah (m:Option Nat) (w:World):Calls Tryz.prog 179 #[.map m] w fun e w'=>e = .returned (.func (.func 273) #[] #[.pointer (some ⟨w.heap.size,0,none⟩)])∧w'=w.alloc (.cells #[.map m] 275):=by
 go_enter Tryz.func179,Tryz.ntmps179
 go_wp2
 go_ret
 exact⟨rfl,rfl⟩
theorem A0 (Bm b nn:Nat) (hnn:nn≤1000) (G:ByteArray→Option ah) (hG:∀ s x,G s=some x→ah.job x=s) (w:World) (hm:w.cell? ⟨Bm,0,none⟩=some (.map (some b))) (hM:bX w b nn (fun s=>(G s).map (fun x:ah=>Value.agg (ay x).toArray))) :
 Calls Tryz.prog 358 #[.slice none 0 0,.func (.func 273) #[] #[.pointer (some ⟨Bm,0,none⟩)]] w fun e w'=>∃ A c xs,e = .returned (.slice A xs.length c)∧ku ah.job G xs∧xs.length≤nn ∧
  w'.ownsRow w.heap.size 38 3 (.slice A xs.length c) xs.length (au ay xs)∧Below w.heap.size w w':=by
 refine (callsIn_wide (n:=3)).1 ?_
 obtain⟨D0,hown,hD⟩:=hM
 have hBm:=block_lt_of_cell hm
 have hseq:SeqStopsK Fence.wide (3 - 1) Tryz.prog 273 #[.pointer (some ⟨Bm,0,none⟩)] (fun x:ah=>#[.agg (ay x).toArray]) KeepsWalks (ku ah.job G) (fun _=>True) nn w:=fun l J Jx W hW hJ _ hY h0=>by
  have hown':W.ownsMap Tryz.prog 9 jH b nn D0:=by
   have hbl:=hown.lt
   obtain⟨es,clock,hb,Ft,hs,hD⟩:=hown
   exact⟨es,clock,(hW.block b hbl).trans hb,Ft,hs,hD⟩
  exact D8 (3 - 1) (by decide) l Bm b nn D0 G hG J Jx hY W hJ ((hW.cell (p:=⟨Bm,0,none⟩) hBm).trans hm) hown' hD h0
 have Jz:=hid hseq
 clear hseq hD hG hown hm
 obtain⟨i0,hi,hz0,hz1,hz2⟩:=info_parts om
 refine callsIn_of_wp_marks Tryz.func358 rfl trivial ?_ rfl
 simp only [Tryz.ntmps358,List.size_toArray,List.length_cons,List.length_nil,Nat.reduceAdd,Nat.reduceSub,Array.replicate_succ,Array.replicate_zero,List.push_toArray,List.append_toArray,List.nil_append,List.cons_append]
 gi_wp2
 refine wpIn_rangeFunc_ownH rfl (by decide) (gf:=273) (lb:=#[.pointer (some ⟨Bm,0,none⟩)]) rfl trivial (Go.Proofs.enters_of Tryz.func273 (by kernel_rfl) rfl)
  Jz.out walksK_t walksK_b ((Below.refl _ w).alloc (Nat.le_refl _) _) (fun _=>rfl)
  (fun pre W=>((∃ v,Boxed W w.heap.size 24 v∧W.ownsRow w.heap.size 38 3 v pre.length (au ay pre)∧True)∧Below w.heap.size w W)∧pre.length≤nn)
  (fun _ _ _=>False)
  (OwnFrom.and (OwnFrom.and (Own.from (holdsRow_own w.heap.size w.heap.size 24 38 3 (fun pre:List ah=>pre.length) (fun pre=>au ay pre) (fun _ _=>True)) _) (ownFrom_below (Nat.le_refl _) (by simp))) (ownFrom_pure _ _))
  (fun _=>ownFrom_pure _ _)
  ⟨⟨⟨_,Boxed.new w 24 _,World.ownsRow_nil _ _ _ _,trivial⟩,(Below.refl _ w).alloc (Nat.le_refl _) _⟩,Nat.zero_le _⟩
  (fun x a' W=>∃ Bx,w.heap.size<Bx∧Blk W Bx 38 (ay x).toArray∧a' = { tmps:=#[.slice none 0 0,.func (.func 273) #[] #[.pointer (some ⟨Bm,0,none⟩)],.pointer (some ⟨w.heap.size,0,none⟩),undef,.slice none 0 0,.pointer (some ⟨Bx,0,none⟩),.func (.func 273) #[] #[.pointer (some ⟨Bm,0,none⟩)],.agg (ay x).toArray,undef,undef,undef,undef,undef],defers:=[] })
  (fun x a' _ X Y row hs hg hr=>by obtain⟨Bx,h1,h2,h3⟩:=hs; exact⟨Bx,h1,sw h2 hg (fun r e=>(hr r e).2),h3⟩)
  ?assign ?body ?done ?stop
 case assign=>
  rintro l pre x W K ⟨⟨⟨v,hv,hrow,_⟩,hB⟩,hle⟩ hK
  have hvl:=hv.lt
  have HK:=hid (hK _ _ ((KeepsOthers.alloc W (.cells (ay x).toArray 38)).from _) (KeepsWalks.alloc W _) ⟨⟨⟨v,hv.alloc _,hrow.alloc _,trivial⟩,hB.alloc hB.size _⟩,hle⟩ ⟨W.heap.size,hvl,heap_alloc_new W _,rfl⟩)
  clear hv hrow hB hK
  obtain⟨job,node,till⟩:=x
  simp only [show (Value.agg (ay ⟨job,node,till⟩).toArray) = .agg #[.string job,.string node,.int .i64 till] from rfl]
  gi_wp2
  exact HK.out
 case body=>
  rintro l pre x a' W hl _ ⟨⟨⟨v,hv,hrow,_⟩,hB⟩,hle⟩ ⟨Bx,hBx,hbx,rfl⟩ hlt
  have hcl:(ay x).length=1*3:=by rw [aH]
  have hone:=kF x
  have hc0:=hv.cell
  have hf0:=hv.frozen
  have hbs:=hB.size
  have CA:=hid hrow
  have HV:=hid hv
  have HB:=hid hB
  have HE:=hid (show au ay pre ++ ay x=au ay (pre ++ [x]) by rw [bS,nL])
  clear hrow hv hB
  have hbxl:=hbx.lt
  obtain⟨job,node,till⟩:=x
  rw [show (Value.agg (ay ⟨job,node,till⟩).toArray) = .agg #[.string job,.string node,.int .i64 till] from rfl]
  have d0:W.cell? ⟨Bx,0,none⟩=some (.string job):=hbx.cell 0
  have d1:W.cell? ⟨Bx,1,none⟩=some (.string node):=hbx.cell 1
  have d2:W.cell? ⟨Bx,2,none⟩=some (.int .i64 till):=hbx.cell 2
  clear hbx
  gi_wp2_with (gi_at_builtin; refine wpListIn_append_own_at _ rfl _ _ 24 rfl w.heap.size 38 i0 (.agg #[.string ⟨#[]⟩,.string ⟨#[]⟩,.int .i64 0]) 3 40 Tryz.underlying24 hi hz0 hz1 hz2 rfl (by decide) _ _ _ rfl (CA.out.alloc _) ⟨W.heap.size,0,none⟩ 1 1 (ay ⟨job,node,till⟩) rfl hcl (vC _ _ _) hone (by unfold maxLen; omega) (by omega) (by simp; omega) ?_; intro v' w1 hown' hgrow _ _; obtain⟨g',cap',rfl⟩:=ownsRow_succ hown'; obtain⟨hv1,hv2,hr2,hk2,hb2⟩:=HV.out.appended (by decide) CA.out hbs (Nat.le_refl _) hown' hgrow; have hc1:=hv1.cell; have hf1:=hv1.frozen; have HZ:=hid (And.intro hv2 (And.intro hr2 (And.intro hk2 hb2))); clear hv1 hv2 hr2 hk2 hb2 hown' hgrow)
  obtain⟨hv2,hr2,hk2,hb2⟩:=HZ.out
  rw [HE.out] at hr2
  exact⟨hk2.from _,hk2.walks,⟨⟨_,hv2,by simpa using hr2,trivial⟩,HB.out.trans hb2⟩,by simp; omega⟩
 case done=>
  rintro D xs W hDl hS ⟨⟨⟨v,hv,hrow,_⟩,hB⟩,hle⟩ hK
  have hc0:=hv.cell
  obtain⟨A,c,rfl⟩:=yN hrow
  have HR:=hid (ownsRow_putObj hrow (.deferred none) hK rfl)
  have HB:=hid (hB.trans (belowK_b (w:=w) (Nat.le_refl _) W D _ (.deferred none) (by simp at hDl; omega) hK rfl rfl))
  have HS:=hid hS
  clear hrow hB hS
  gi_wp2
  refine⟨by simp,.inl ⟨_,_,rfl,run_takeDeferred hK,?_⟩⟩
  exact⟨_,results_tmp rfl _ _ _,A,c,xs,rfl,HS.out,hle,HR.out,HB.out⟩
 case stop=>
  rintro D c pre W _ _ h _
  exact h.elim
theorem yQ (Bm b nn:Nat) (hnn:nn≤1000) (G:ByteArray→Option ah) (hG:∀ s x,G s=some x→ah.job x=s) (w:World) (hm:w.cell? ⟨Bm,0,none⟩=some (.map (some b))) (hM:bX w b nn (fun s=>(G s).map (fun x:ah=>Value.agg (ay x).toArray))) :
 Calls Tryz.prog 271 #[.func (.func 273) #[] #[.pointer (some ⟨Bm,0,none⟩)]] w fun e w'=>∃ A c xs,e = .returned (.slice A xs.length c)∧ku ah.job G xs∧xs.length≤nn ∧
  w'.ownsRow w.heap.size 38 3 (.slice A xs.length c) xs.length (au ay xs)∧Below w.heap.size w w':=by
 have HC:=hid (A0 Bm b nn hnn G hG w hm hM)
 clear hm hM hG
 go_enter Tryz.func271,Tryz.ntmps271
 go_wp2_with fail
 refine Calls.mono HC.out ?_
 rintro e w' ⟨A,c,xs,rfl,h1,h2,h3,h4⟩
 have H:=hid (And.intro h1 (And.intro h2 (And.intro h3 h4)))
 clear h1 h2 h3 h4
 go_wp2
 go_ret
 exact⟨A,c,xs,rfl,H.out⟩
end
end Go.Proofs.YtoeejfhdjmkpcaaGreatDoor
