/- Of the proof of a statement: Vals. -/
import Derived.RangeFuncNested
import Derived.RangeFuncBound
import Derived.RangeFuncCalls
import Derived.RangeFuncLeaves
import Derived.RangeFuncMany
import Derived.RangeFuncFrom
import Derived.RangeFuncBox
import Derived.Sort.MapsRangeIn
import Derived.Sort.KeysCollected
import Derived.Shelf.Abstract
import Derived.Shelf.RegionOpen
import Derived.WalkKit
import Derived.OwnWalkIn
import Derived.TacticsInMore
import Derived.RegionIn
import Derived.LoopNIn
import Derived.LoopIn
import Derived.Maps.OwnIn
import Derived.Maps.AppendAt
import Derived.Test.YtcpgnjmaampglaaGreatDoorWHasF
import Derived.Test.YtcpgnjmaampglaaGreatDoorWTake
set_option linter.unusedVariables false
set_option linter.unusedSimpArgs false
set_option maxRecDepth 100000
set_option maxHeartbeats 8000000
/- maps.Values of a table that the call itself has made; slices.AppendSeq and Collect over it: jobs, nodes, leases. -/
namespace Go.Proofs.YtcpgnjmaampglaaGreatDoor
open Go.Lib (hid)
open Go.RowKit Go.Maps Go.Sort Go.Shelf
section
attribute [local go_sem] Oper.semAt_some
def MJ {α:Type} (V:α→Value) (G:ByteArray→Option α) (D:DataW Value):Prop:=∀ (s:ByteArray) (z:DataW Value),D.atKey (.string s.data.toList) z=match (G s).map V with
 | none=>z
 | some v=>.held v
theorem xL (x:List UInt8):(ByteArray.mk x.toArray).data.toList=x:=rfl
theorem wN {α:Type} {V:α→Value} {G:ByteArray→Option α} {D:DataW Value} (hD:MJ V G D) {x:List UInt8} {c:Value} {yd:DataW Value} {yp:List MemPlace} (hv:jM c=some (yd,yp)) (hat:∀ z,D.atKey (.string x) z=yd) :
 ∃ r,G ⟨x.toArray⟩=some r∧c=V r:=by
 have e1:yd = .held c:=by
  have:=congrArg (fun o=>o.map Prod.fst) hv
  simpa [jM] using this.symm
 subst e1
 have h1:=hD ⟨x.toArray⟩
 cases hg:G ⟨x.toArray⟩ with
 | none=>
  have h2:=h1 (.lit (.int .i64 0))
  rw [xL,hat,hg] at h2
  simp at h2
 | some r=>
  have h2:=h1 (.lit (.int .i64 0))
  rw [xL,hat,hg] at h2
  refine⟨r,rfl,?_⟩
  simpa using h2
theorem Df {α:Type} {key:α→ByteArray} {V:α→Value} {G:ByteArray→Option α} {D:DataW Value} {left:Lit→Bool} {ps:List (List UInt8 × α)} (hG:∀ s x,G s=some x→key x=s) (hD:MJ V G D)
 (hC:Collected D left (ps.map (·.1))) (hl:∀ kl,left kl=false) (hV:∀ p ∈ ps,G ⟨p.1.toArray⟩=some p.2):kN key G (ps.map (·.2)):=by
 have hk:∀ p ∈ ps,key p.2=⟨p.1.toArray⟩:=fun p hp=>hG _ _ (hV p hp)
 constructor
 · have h1:=hC.1
   rw [List.Nodup,List.pairwise_map] at h1
   rw [List.pairwise_map]
   refine List.Pairwise.imp_of_mem (fun {a b} ha hb hne e=>?_) h1
   rw [hk a ha,hk b hb] at e
   injection e with e
   exact hne (List.toArray_inj e)
 · intro z
   constructor
   · intro hz
     obtain⟨p,hp,rfl⟩:=List.mem_map.1 hz
     rw [hk p hp]; exact hV p hp
   · intro hz
     have hh:has D (.string (key z).data.toList)=true:=by
      have h1:=hD (key z)
      rw [hz] at h1
      exact Maps.has_true_of_atKey (y:=.held (V z)) h1
     obtain⟨p,hp,hpe⟩:=List.mem_map.1 ((hC.2 _).2 ⟨hh,hl _⟩)
     have h2:=hV p hp
     have e3:(ByteArray.mk p.1.toArray)=key z:=by rw [hpe]
     rw [e3,hz] at h2
     injection h2 with h2
     exact List.mem_map.2 ⟨p,hp,h2.symm⟩
theorem wO (w:World) (xs:List Value) (t:TypeId):∀ (j:Nat) u,xs[j]? = some u→(w.alloc (.cells xs.toArray t)).cell? ((⟨w.heap.size,0,none⟩:Addr).add j)=some u:=by
 intro j u hj
 rw [show (⟨w.heap.size,0,none⟩:Addr).add j=(⟨w.heap.size,0+j,none⟩:Addr) from by simp [Addr.add]; omega]
 rw [cell_of_row _ _ (0+j) xs.toArray t (0,0) (heap_alloc_new w _),Nat.zero_add]
 simpa using hj
theorem tI {X Y:World} {Bx:Nat} {T:TypeId} {cs:Array Value} {row:Option Nat} (h:Blk X Bx T cs) (hg:X.grownBy Y row) (hr:∀ r,row=some r→∃ o:Obj,X.heap[r]? = some o∧o.isCells=false):Blk Y Bx T cs:=
 (hg.block Bx h.lt (fun e=>by obtain⟨o,ho,hc⟩:=hr Bx e.symm; rw [show X.heap[Bx]? = _ from h] at ho; cases ho; cases hc)).trans h
theorem AI {w:World} {base:Nat} {e:TypeId} {sz n:Nat} {v:Value} {xs:List Value} (h:w.ownsRow base e sz v n xs):∃ A c,v = .slice A n c:=by
 rcases h.2 with ⟨rfl,rfl⟩ | ⟨g,cap,cur,rfl,_⟩
 · exact⟨_,_,rfl⟩
 · exact⟨_,_,rfl⟩
theorem MK (n:Nat) (hn:1≤n) (l Bm b nn:Nat) (D0:DataW Value) (G:ByteArray→Option aB) (hG:∀ s x,G s=some x→aB.name x=s) (J Jx:List aB→World→Prop)
 (hY:∀ pre x W,J pre W→pre.length<nn→YieldAt Fence.wide (n - 1) Tryz.prog l #[.agg (aH x).toArray] W fun e W'=>
  (e = .returned (.bool true)∧J (pre ++ [x]) W'∧KeepsWalks W W')∨(e = .returned (.bool false)∧Jx (pre ++ [x]) W'))
 (W:World) (hJ:AbidesFrom W.heap.size J) (hm:W.cell? ⟨Bm,0,none⟩=some (.map (some b))) (hown:W.ownsMap Tryz.prog 9 jM b nn D0) (hD:MJ (fun x:aB=>Value.agg (aH x).toArray) G D0) (h0:J [] W) :
 CallsIn Fence.wide n Tryz.prog 152 #[.func (.yield l) #[] #[],.pointer (some ⟨Bm,0,none⟩)] W fun e W'=>(∃ v,e = .returned v) ∧
  ((∃ xs,kN aB.name G xs∧J xs W')∨(∃ pre,True∧Jx pre W')):=by
 have hsl:=hown.size_le
 refine callsIn_of_wp Tryz.func152 rfl trivial ?_ rfl
 simp only [Tryz.ntmps152,List.size_toArray,List.length_cons,List.length_nil,Nat.reduceAdd,Nat.reduceSub,Array.replicate_succ,Array.replicate_zero,List.push_toArray,List.append_toArray,List.nil_append,List.cons_append]
 gi_wp2_with (first
  | (gi_at_range; refine wpListIn_range_own _ rfl _ 157 rfl 9 59 AT Tryz.underlying157 _ b nn _ rfl hown ?_; intro w0 hrg0 hg0 hs0)
  | gi_in)
 go_frame
 gi_loopw [4] (fun _ wr=>∃ (left:Lit→Bool) (cnt:Nat) (ps:List (List UInt8 × aB)),wr.ranges Tryz.prog 9 jM b W.heap.size nn D0 left cnt∧ps.length+cnt≤Maps.size D0∧Collected D0 left (ps.map (·.1))∧(∀ p ∈ ps,G ⟨p.1.toArray⟩=some p.2)∧J (ps.map (·.2)) wr)
  (fun _ wr=>wr.rangeLeft b W.heap.size)
 case atStart=>
  exact⟨_,_,[],hrg0,by simp,Collected.start D0,by simp,hJ [] W w0 none h0 hg0 (fun r e=>by cases e)⟩
 case round=>
  obtain⟨left,cnt,ps,hrg,hcs,hC,hV,hJs⟩:=hrel
  gi_wp2_with (first
   | (gi_at_next; refine wpListIn_next_ranges _ rfl _ rfl 9 AT jM encStr id (fun key kl hk=>by obtain⟨x,hx,_⟩:=Maps.keyOf_str Tryz.underlying9 hk; exact⟨x,hx⟩) (fun v _ _=>⟨v,rfl⟩) b W.heap.size nn _ _ _ rfl hrg ?_ ?_)
   | gi_in)
  · intro hc0 hl0
    gi_wp2
    go_end0
    exact⟨⟨_,rfl⟩,.inl ⟨_,Df hG hD hC hl0 hV,hJs⟩⟩
  · intro x c kl yd yp w2 cnt2 hkey hlk hv hat hrg2 hlt hg2 hs2 hen
    obtain⟨x',ex,rfl,_⟩:=Maps.keyOf_str Tryz.underlying9 hkey
    obtain rfl:x=x':=encStr_inj ex
    obtain⟨r,hr,hc⟩:=wN hD hv hat
    have hJ2:J (ps.map (·.2)) w2:=hJ _ wr w2 (some W.heap.size) hJs hg2 (fun r e=>by cases e; exact⟨Nat.le_refl _,hrg.iter_walk⟩)
    have hC2:Collected D0 (fun z=>left z && !z.sameKey (.string x)) ((ps ++ [(x,r)]).map (·.1)):=by simpa using hC.step hlk hat
    have hV2:∀ p ∈ ps ++ [(x,r)],G ⟨p.1.toArray⟩=some p.2:=fun p hp=>(List.mem_append.1 hp).elim (hV p) (fun e=>by simp at e; subst e; exact hr)
    have HX:=hid (And.intro hC2 hV2)
    have hJ3:∀ o:Obj,J (ps.map (·.2)) (w2.alloc o):=fun o=>hJ _ w2 _ none hJ2 (World.grownBy_alloc w2 _ none) (fun r e=>by cases e)
    have Fc:∀ o:Obj,(w2.alloc o).ranges Tryz.prog 9 jM b W.heap.size nn D0 (fun z=>left z && !z.sameKey (.string x)) cnt2:=fun o=>hrg2.of_walks (KeepsWalks.alloc _ _)
    obtain⟨fn,tmps,assign,body,hy,hR⟩:=hY (ps.map (·.2)) r (w2.alloc (.cells (aH r).toArray 59)) (hJ3 _) (by simp; omega)
    obtain⟨name,prio,need,tries,tag⟩:=r
    replace hc:c = .agg #[.string name,.int .i64 prio,.int .i64 need,.int .i64 tries,.string tag]:=hc
    subst hc
    replace hy:(Instr.yield l #[.agg #[.string name,.int .i64 prio,.int .i64 need,.int .i64 tries,.string tag]]).run Tryz.prog (w2.alloc (.cells #[.string name,.int .i64 prio,.int .i64 need,.int .i64 tries,.string tag] 59))=_:=hy
    have HR:=hid hR
    have HRG:=hid (Fc (.cells #[.string name,.int .i64 prio,.int .i64 need,.int .i64 tries,.string tag] 59))
    clear hs2 hD hG hC hV hC2 hV2 hr hat hv hJ2 hJ3 Fc hR
    gi_wp2
    refine HR.out.mono ?_
    rintro e W3 (⟨rfl,hJ3,hk3⟩ | ⟨rfl,hJx3⟩)
    · gi_wp2
      have hrg3:=HRG.out.of_walks hk3
      go_roundw
      case rel=>exact⟨_,cnt2,_,hrg3,by simp; omega,HX.out.1,HX.out.2,by simpa using hJ3⟩
      case measure=>rw [hrg3.left_eq,hrg.left_eq]; exact hlt
    · gi_wp2
      refine bodyPost_ret (results_none rfl _ _ _) rfl ?_
      exact⟨⟨_,rfl⟩,.inr ⟨_,trivial,hJx3⟩⟩
theorem Fm (m:Option Nat) (w:World):Calls Tryz.prog 105 #[.map m] w fun e w'=>e = .returned (.func (.func 152) #[] #[.pointer (some ⟨w.heap.size,0,none⟩)])∧w'=w.alloc (.cells #[.map m] 157):=by
 go_enter Tryz.func105,Tryz.ntmps105
 go_wp2
 go_ret
 exact⟨rfl,rfl⟩
theorem GZ (Bm b nn:Nat) (hnn:nn≤1000) (G:ByteArray→Option aB) (hG:∀ s x,G s=some x→aB.name x=s) (w:World) (hm:w.cell? ⟨Bm,0,none⟩=some (.map (some b))) (hM:bT w b nn (fun s=>(G s).map (fun x:aB=>Value.agg (aH x).toArray))) :
 Calls Tryz.prog 187 #[.slice none 0 0,.func (.func 152) #[] #[.pointer (some ⟨Bm,0,none⟩)]] w fun e w'=>∃ A c xs,e = .returned (.slice A xs.length c)∧kN aB.name G xs∧xs.length≤nn ∧
  w'.ownsRow w.heap.size 59 5 (.slice A xs.length c) xs.length (au aH xs)∧Below w.heap.size w w':=by
 refine (callsIn_wide (n:=3)).1 ?_
 obtain⟨D0,hown,hD⟩:=hM
 have hBm:=block_lt_of_cell hm
 have hseq:SeqStopsK Fence.wide (3 - 1) Tryz.prog 152 #[.pointer (some ⟨Bm,0,none⟩)] (fun x:aB=>#[.agg (aH x).toArray]) KeepsWalks (kN aB.name G) (fun _=>True) nn w:=fun l J Jx W hW hJ _ hY h0=>by
  have hown':W.ownsMap Tryz.prog 9 jM b nn D0:=by
   have hbl:=hown.lt
   obtain⟨es,clock,hb,Ft,hs,hD⟩:=hown
   exact⟨es,clock,(hW.block b hbl).trans hb,Ft,hs,hD⟩
  exact MK (3 - 1) (by decide) l Bm b nn D0 G hG J Jx hY W hJ ((hW.cell (p:=⟨Bm,0,none⟩) hBm).trans hm) hown' hD h0
 have ML:=hid hseq
 clear hseq hD hG hown hm
 obtain⟨i0,hi,hz0,hz1,hz2⟩:=info_parts oo
 refine callsIn_of_wp_marks Tryz.func187 rfl trivial ?_ rfl
 simp only [Tryz.ntmps187,List.size_toArray,List.length_cons,List.length_nil,Nat.reduceAdd,Nat.reduceSub,Array.replicate_succ,Array.replicate_zero,List.push_toArray,List.append_toArray,List.nil_append,List.cons_append]
 gi_wp2
 refine wpIn_rangeFunc_ownH rfl (by decide) (gf:=152) (lb:=#[.pointer (some ⟨Bm,0,none⟩)]) rfl trivial (Go.Proofs.enters_of Tryz.func152 (by kernel_rfl) rfl)
  ML.out walksK_t walksK_b ((Below.refl _ w).alloc (Nat.le_refl _) _) (fun _=>rfl)
  (fun pre W=>((∃ v,Boxed W w.heap.size 22 v∧W.ownsRow w.heap.size 59 5 v pre.length (au aH pre)∧True)∧Below w.heap.size w W)∧pre.length≤nn)
  (fun _ _ _=>False)
  (OwnFrom.and (OwnFrom.and (Own.from (holdsRow_own w.heap.size w.heap.size 22 59 5 (fun pre:List aB=>pre.length) (fun pre=>au aH pre) (fun _ _=>True)) _) (ownFrom_below (Nat.le_refl _) (by simp))) (ownFrom_pure _ _))
  (fun _=>ownFrom_pure _ _)
  ⟨⟨⟨_,Boxed.new w 22 _,World.ownsRow_nil _ _ _ _,trivial⟩,(Below.refl _ w).alloc (Nat.le_refl _) _⟩,Nat.zero_le _⟩
  (fun x a' W=>∃ Bx,w.heap.size<Bx∧Blk W Bx 59 (aH x).toArray∧a' = { tmps:=#[.slice none 0 0,.func (.func 152) #[] #[.pointer (some ⟨Bm,0,none⟩)],.pointer (some ⟨w.heap.size,0,none⟩),undef,.slice none 0 0,.pointer (some ⟨Bx,0,none⟩),.func (.func 152) #[] #[.pointer (some ⟨Bm,0,none⟩)],.agg (aH x).toArray,undef,undef,undef,undef,undef],defers:=[] })
  (fun x a' _ X Y row hs hg hr=>by obtain⟨Bx,h1,h2,h3⟩:=hs; exact⟨Bx,h1,tI h2 hg (fun r e=>(hr r e).2),h3⟩)
  ?assign ?body ?done ?stop
 case assign=>
  rintro l pre x W K ⟨⟨⟨v,hv,hrow,_⟩,hB⟩,hle⟩ hK
  have hvl:=hv.lt
  have HK:=hid (hK _ _ ((KeepsOthers.alloc W (.cells (aH x).toArray 59)).from _) (KeepsWalks.alloc W _) ⟨⟨⟨v,hv.alloc _,hrow.alloc _,trivial⟩,hB.alloc hB.size _⟩,hle⟩ ⟨W.heap.size,hvl,heap_alloc_new W _,rfl⟩)
  clear hv hrow hB hK
  obtain⟨name,prio,need,tries,tag⟩:=x
  simp only [show (Value.agg (aH ⟨name,prio,need,tries,tag⟩).toArray) = .agg #[.string name,.int .i64 prio,.int .i64 need,.int .i64 tries,.string tag] from rfl]
  gi_wp2
  exact HK.out
 case body=>
  rintro l pre x a' W hl _ ⟨⟨⟨v,hv,hrow,_⟩,hB⟩,hle⟩ ⟨Bx,hBx,hbx,rfl⟩ hlt
  have hcl:(aH x).length=1*5:=by rw [aN]
  have hone:=kE x
  have hc0:=hv.cell
  have hf0:=hv.frozen
  have hbs:=hB.size
  have Fd:=hid hrow
  have HV:=hid hv
  have HB:=hid hB
  have HE:=hid (show au aH pre ++ aH x=au aH (pre ++ [x]) by rw [dK,kO])
  clear hrow hv hB
  have hbxl:=hbx.lt
  obtain⟨name,prio,need,tries,tag⟩:=x
  rw [show (Value.agg (aH ⟨name,prio,need,tries,tag⟩).toArray) = .agg #[.string name,.int .i64 prio,.int .i64 need,.int .i64 tries,.string tag] from rfl]
  have d0 : W.cell? ⟨Bx, 0, none⟩ = some (.string name) := hbx.cell 0
  have d1 : W.cell? ⟨Bx, 1, none⟩ = some (.int .i64 prio) := hbx.cell 1
  have d2 : W.cell? ⟨Bx, 2, none⟩ = some (.int .i64 need) := hbx.cell 2
  have d3 : W.cell? ⟨Bx, 3, none⟩ = some (.int .i64 tries) := hbx.cell 3
  have d4 : W.cell? ⟨Bx, 4, none⟩ = some (.string tag) := hbx.cell 4
  clear hbx
  gi_wp2_with (gi_at_builtin; refine wpListIn_append_own_at _ rfl _ _ 22 rfl w.heap.size 59 i0 (.agg #[.string ⟨#[]⟩,.int .i64 0,.int .i64 0,.int .i64 0,.string ⟨#[]⟩]) 5 56 Tryz.underlying22 hi hz0 hz1 hz2 rfl (by decide) _ _ _ rfl (Fd.out.alloc _) ⟨W.heap.size,0,none⟩ 1 1 (aH ⟨name,prio,need,tries,tag⟩) rfl hcl (wO _ _ _) hone (by unfold maxLen; omega) (by omega) (by simp; omega) ?_; intro v' w1 hown' hgrow _ _; obtain⟨g',cap',rfl⟩:=ownsRow_succ hown'; obtain⟨hv1,hv2,hr2,hk2,hb2⟩:=HV.out.appended (by decide) Fd.out hbs (Nat.le_refl _) hown' hgrow; have hc1:=hv1.cell; have hf1:=hv1.frozen; have HZ:=hid (And.intro hv2 (And.intro hr2 (And.intro hk2 hb2))); clear hv1 hv2 hr2 hk2 hb2 hown' hgrow)
  obtain⟨hv2,hr2,hk2,hb2⟩:=HZ.out
  rw [HE.out] at hr2
  exact⟨hk2.from _,hk2.walks,⟨⟨_,hv2,by simpa using hr2,trivial⟩,HB.out.trans hb2⟩,by simp; omega⟩
 case done=>
  rintro D xs W hDl hS ⟨⟨⟨v,hv,hrow,_⟩,hB⟩,hle⟩ hK
  have hc0:=hv.cell
  obtain⟨A,c,rfl⟩:=AI hrow
  have HR:=hid (ownsRow_putObj hrow (.deferred none) hK rfl)
  have HB:=hid (hB.trans (belowK_b (w:=w) (Nat.le_refl _) W D _ (.deferred none) (by simp at hDl; omega) hK rfl rfl))
  have HS:=hid hS
  clear hrow hB hS
  gi_wp2
  refine⟨by simp,.inl ⟨_,_,rfl,run_takeDeferred hK,?_⟩⟩
  exact⟨_,results_tmp rfl _ _ _,A,c,xs,rfl,HS.out,hle,HR.out,HB.out⟩
 case stop=>
  rintro D c pre W _ _ h _
  exact h.elim
theorem Dp (Bm b nn:Nat) (hnn:nn≤1000) (G:ByteArray→Option aB) (hG:∀ s x,G s=some x→aB.name x=s) (w:World) (hm:w.cell? ⟨Bm,0,none⟩=some (.map (some b))) (hM:bT w b nn (fun s=>(G s).map (fun x:aB=>Value.agg (aH x).toArray))) :
 Calls Tryz.prog 150 #[.func (.func 152) #[] #[.pointer (some ⟨Bm,0,none⟩)]] w fun e w'=>∃ A c xs,e = .returned (.slice A xs.length c)∧kN aB.name G xs∧xs.length≤nn ∧
  w'.ownsRow w.heap.size 59 5 (.slice A xs.length c) xs.length (au aH xs)∧Below w.heap.size w w':=by
 have HC:=hid (GZ Bm b nn hnn G hG w hm hM)
 clear hm hM hG
 go_enter Tryz.func150,Tryz.ntmps150
 go_wp2_with fail
 refine Calls.mono HC.out ?_
 rintro e w' ⟨A,c,xs,rfl,h1,h2,h3,h4⟩
 have H:=hid (And.intro h1 (And.intro h2 (And.intro h3 h4)))
 clear h1 h2 h3 h4
 go_wp2
 go_ret
 exact⟨A,c,xs,rfl,H.out⟩
theorem Kq (n:Nat) (hn:1≤n) (l Bm b nn:Nat) (D0:DataW Value) (G:ByteArray→Option av) (hG:∀ s x,G s=some x→av.name x=s) (J Jx:List av→World→Prop)
 (hY:∀ pre x W,J pre W→pre.length<nn→YieldAt Fence.wide (n - 1) Tryz.prog l #[.agg (aI x).toArray] W fun e W'=>
  (e = .returned (.bool true)∧J (pre ++ [x]) W'∧KeepsWalks W W')∨(e = .returned (.bool false)∧Jx (pre ++ [x]) W'))
 (W:World) (hJ:AbidesFrom W.heap.size J) (hm:W.cell? ⟨Bm,0,none⟩=some (.map (some b))) (hown:W.ownsMap Tryz.prog 9 jM b nn D0) (hD:MJ (fun x:av=>Value.agg (aI x).toArray) G D0) (h0:J [] W) :
 CallsIn Fence.wide n Tryz.prog 156 #[.func (.yield l) #[] #[],.pointer (some ⟨Bm,0,none⟩)] W fun e W'=>(∃ v,e = .returned v) ∧
  ((∃ xs,kN av.name G xs∧J xs W')∨(∃ pre,True∧Jx pre W')):=by
 have hsl:=hown.size_le
 refine callsIn_of_wp Tryz.func156 rfl trivial ?_ rfl
 simp only [Tryz.ntmps156,List.size_toArray,List.length_cons,List.length_nil,Nat.reduceAdd,Nat.reduceSub,Array.replicate_succ,Array.replicate_zero,List.push_toArray,List.append_toArray,List.nil_append,List.cons_append]
 gi_wp2_with (first
  | (gi_at_range; refine wpListIn_range_own _ rfl _ 158 rfl 9 61 AT Tryz.underlying158 _ b nn _ rfl hown ?_; intro w0 hrg0 hg0 hs0)
  | gi_in)
 go_frame
 gi_loopw [4] (fun _ wr=>∃ (left:Lit→Bool) (cnt:Nat) (ps:List (List UInt8 × av)),wr.ranges Tryz.prog 9 jM b W.heap.size nn D0 left cnt∧ps.length+cnt≤Maps.size D0∧Collected D0 left (ps.map (·.1))∧(∀ p ∈ ps,G ⟨p.1.toArray⟩=some p.2)∧J (ps.map (·.2)) wr)
  (fun _ wr=>wr.rangeLeft b W.heap.size)
 case atStart=>
  exact⟨_,_,[],hrg0,by simp,Collected.start D0,by simp,hJ [] W w0 none h0 hg0 (fun r e=>by cases e)⟩
 case round=>
  obtain⟨left,cnt,ps,hrg,hcs,hC,hV,hJs⟩:=hrel
  gi_wp2_with (first
   | (gi_at_next; refine wpListIn_next_ranges _ rfl _ rfl 9 AT jM encStr id (fun key kl hk=>by obtain⟨x,hx,_⟩:=Maps.keyOf_str Tryz.underlying9 hk; exact⟨x,hx⟩) (fun v _ _=>⟨v,rfl⟩) b W.heap.size nn _ _ _ rfl hrg ?_ ?_)
   | gi_in)
  · intro hc0 hl0
    gi_wp2
    go_end0
    exact⟨⟨_,rfl⟩,.inl ⟨_,Df hG hD hC hl0 hV,hJs⟩⟩
  · intro x c kl yd yp w2 cnt2 hkey hlk hv hat hrg2 hlt hg2 hs2 hen
    obtain⟨x',ex,rfl,_⟩:=Maps.keyOf_str Tryz.underlying9 hkey
    obtain rfl:x=x':=encStr_inj ex
    obtain⟨r,hr,hc⟩:=wN hD hv hat
    have hJ2:J (ps.map (·.2)) w2:=hJ _ wr w2 (some W.heap.size) hJs hg2 (fun r e=>by cases e; exact⟨Nat.le_refl _,hrg.iter_walk⟩)
    have hC2:Collected D0 (fun z=>left z && !z.sameKey (.string x)) ((ps ++ [(x,r)]).map (·.1)):=by simpa using hC.step hlk hat
    have hV2:∀ p ∈ ps ++ [(x,r)],G ⟨p.1.toArray⟩=some p.2:=fun p hp=>(List.mem_append.1 hp).elim (hV p) (fun e=>by simp at e; subst e; exact hr)
    have HX:=hid (And.intro hC2 hV2)
    have hJ3:∀ o:Obj,J (ps.map (·.2)) (w2.alloc o):=fun o=>hJ _ w2 _ none hJ2 (World.grownBy_alloc w2 _ none) (fun r e=>by cases e)
    have Fc:∀ o:Obj,(w2.alloc o).ranges Tryz.prog 9 jM b W.heap.size nn D0 (fun z=>left z && !z.sameKey (.string x)) cnt2:=fun o=>hrg2.of_walks (KeepsWalks.alloc _ _)
    obtain⟨fn,tmps,assign,body,hy,hR⟩:=hY (ps.map (·.2)) r (w2.alloc (.cells (aI r).toArray 61)) (hJ3 _) (by simp; omega)
    obtain⟨name,room,zone⟩:=r
    replace hc:c = .agg #[.string name,.int .i64 room,.string zone]:=hc
    subst hc
    replace hy:(Instr.yield l #[.agg #[.string name,.int .i64 room,.string zone]]).run Tryz.prog (w2.alloc (.cells #[.string name,.int .i64 room,.string zone] 61))=_:=hy
    have HR:=hid hR
    have HRG:=hid (Fc (.cells #[.string name,.int .i64 room,.string zone] 61))
    clear hs2 hD hG hC hV hC2 hV2 hr hat hv hJ2 hJ3 Fc hR
    gi_wp2
    refine HR.out.mono ?_
    rintro e W3 (⟨rfl,hJ3,hk3⟩ | ⟨rfl,hJx3⟩)
    · gi_wp2
      have hrg3:=HRG.out.of_walks hk3
      go_roundw
      case rel=>exact⟨_,cnt2,_,hrg3,by simp; omega,HX.out.1,HX.out.2,by simpa using hJ3⟩
      case measure=>rw [hrg3.left_eq,hrg.left_eq]; exact hlt
    · gi_wp2
      refine bodyPost_ret (results_none rfl _ _ _) rfl ?_
      exact⟨⟨_,rfl⟩,.inr ⟨_,trivial,hJx3⟩⟩
theorem Ds (m:Option Nat) (w:World):Calls Tryz.prog 109 #[.map m] w fun e w'=>e = .returned (.func (.func 156) #[] #[.pointer (some ⟨w.heap.size,0,none⟩)])∧w'=w.alloc (.cells #[.map m] 158):=by
 go_enter Tryz.func109,Tryz.ntmps109
 go_wp2
 go_ret
 exact⟨rfl,rfl⟩
theorem Fe (Bm b nn:Nat) (hnn:nn≤1000) (G:ByteArray→Option av) (hG:∀ s x,G s=some x→av.name x=s) (w:World) (hm:w.cell? ⟨Bm,0,none⟩=some (.map (some b))) (hM:bT w b nn (fun s=>(G s).map (fun x:av=>Value.agg (aI x).toArray))) :
 Calls Tryz.prog 190 #[.slice none 0 0,.func (.func 156) #[] #[.pointer (some ⟨Bm,0,none⟩)]] w fun e w'=>∃ A c xs,e = .returned (.slice A xs.length c)∧kN av.name G xs∧xs.length≤nn ∧
  w'.ownsRow w.heap.size 61 3 (.slice A xs.length c) xs.length (au aI xs)∧Below w.heap.size w w':=by
 refine (callsIn_wide (n:=3)).1 ?_
 obtain⟨D0,hown,hD⟩:=hM
 have hBm:=block_lt_of_cell hm
 have hseq:SeqStopsK Fence.wide (3 - 1) Tryz.prog 156 #[.pointer (some ⟨Bm,0,none⟩)] (fun x:av=>#[.agg (aI x).toArray]) KeepsWalks (kN av.name G) (fun _=>True) nn w:=fun l J Jx W hW hJ _ hY h0=>by
  have hown':W.ownsMap Tryz.prog 9 jM b nn D0:=by
   have hbl:=hown.lt
   obtain⟨es,clock,hb,Ft,hs,hD⟩:=hown
   exact⟨es,clock,(hW.block b hbl).trans hb,Ft,hs,hD⟩
  exact Kq (3 - 1) (by decide) l Bm b nn D0 G hG J Jx hY W hJ ((hW.cell (p:=⟨Bm,0,none⟩) hBm).trans hm) hown' hD h0
 have ML:=hid hseq
 clear hseq hD hG hown hm
 obtain⟨i0,hi,hz0,hz1,hz2⟩:=info_parts mD
 refine callsIn_of_wp_marks Tryz.func190 rfl trivial ?_ rfl
 simp only [Tryz.ntmps190,List.size_toArray,List.length_cons,List.length_nil,Nat.reduceAdd,Nat.reduceSub,Array.replicate_succ,Array.replicate_zero,List.push_toArray,List.append_toArray,List.nil_append,List.cons_append]
 gi_wp2
 refine wpIn_rangeFunc_ownH rfl (by decide) (gf:=156) (lb:=#[.pointer (some ⟨Bm,0,none⟩)]) rfl trivial (Go.Proofs.enters_of Tryz.func156 (by kernel_rfl) rfl)
  ML.out walksK_t walksK_b ((Below.refl _ w).alloc (Nat.le_refl _) _) (fun _=>rfl)
  (fun pre W=>((∃ v,Boxed W w.heap.size 23 v∧W.ownsRow w.heap.size 61 3 v pre.length (au aI pre)∧True)∧Below w.heap.size w W)∧pre.length≤nn)
  (fun _ _ _=>False)
  (OwnFrom.and (OwnFrom.and (Own.from (holdsRow_own w.heap.size w.heap.size 23 61 3 (fun pre:List av=>pre.length) (fun pre=>au aI pre) (fun _ _=>True)) _) (ownFrom_below (Nat.le_refl _) (by simp))) (ownFrom_pure _ _))
  (fun _=>ownFrom_pure _ _)
  ⟨⟨⟨_,Boxed.new w 23 _,World.ownsRow_nil _ _ _ _,trivial⟩,(Below.refl _ w).alloc (Nat.le_refl _) _⟩,Nat.zero_le _⟩
  (fun x a' W=>∃ Bx,w.heap.size<Bx∧Blk W Bx 61 (aI x).toArray∧a' = { tmps:=#[.slice none 0 0,.func (.func 156) #[] #[.pointer (some ⟨Bm,0,none⟩)],.pointer (some ⟨w.heap.size,0,none⟩),undef,.slice none 0 0,.pointer (some ⟨Bx,0,none⟩),.func (.func 156) #[] #[.pointer (some ⟨Bm,0,none⟩)],.agg (aI x).toArray,undef,undef,undef,undef,undef],defers:=[] })
  (fun x a' _ X Y row hs hg hr=>by obtain⟨Bx,h1,h2,h3⟩:=hs; exact⟨Bx,h1,tI h2 hg (fun r e=>(hr r e).2),h3⟩)
  ?assign ?body ?done ?stop
 case assign=>
  rintro l pre x W K ⟨⟨⟨v,hv,hrow,_⟩,hB⟩,hle⟩ hK
  have hvl:=hv.lt
  have HK:=hid (hK _ _ ((KeepsOthers.alloc W (.cells (aI x).toArray 61)).from _) (KeepsWalks.alloc W _) ⟨⟨⟨v,hv.alloc _,hrow.alloc _,trivial⟩,hB.alloc hB.size _⟩,hle⟩ ⟨W.heap.size,hvl,heap_alloc_new W _,rfl⟩)
  clear hv hrow hB hK
  obtain⟨name,room,zone⟩:=x
  simp only [show (Value.agg (aI ⟨name,room,zone⟩).toArray) = .agg #[.string name,.int .i64 room,.string zone] from rfl]
  gi_wp2
  exact HK.out
 case body=>
  rintro l pre x a' W hl _ ⟨⟨⟨v,hv,hrow,_⟩,hB⟩,hle⟩ ⟨Bx,hBx,hbx,rfl⟩ hlt
  have hcl:(aI x).length=1*3:=by rw [bF]
  have hone:=jv x
  have hc0:=hv.cell
  have hf0:=hv.frozen
  have hbs:=hB.size
  have Fd:=hid hrow
  have HV:=hid hv
  have HB:=hid hB
  have HE:=hid (show au aI pre ++ aI x=au aI (pre ++ [x]) by rw [dK,kO])
  clear hrow hv hB
  have hbxl:=hbx.lt
  obtain⟨name,room,zone⟩:=x
  rw [show (Value.agg (aI ⟨name,room,zone⟩).toArray) = .agg #[.string name,.int .i64 room,.string zone] from rfl]
  have d0:W.cell? ⟨Bx,0,none⟩=some (.string name):=hbx.cell 0
  have d1:W.cell? ⟨Bx,1,none⟩=some (.int .i64 room):=hbx.cell 1
  have d2:W.cell? ⟨Bx,2,none⟩=some (.string zone):=hbx.cell 2
  clear hbx
  gi_wp2_with (gi_at_builtin; refine wpListIn_append_own_at _ rfl _ _ 23 rfl w.heap.size 61 i0 (.agg #[.string ⟨#[]⟩,.int .i64 0,.string ⟨#[]⟩]) 3 40 Tryz.underlying23 hi hz0 hz1 hz2 rfl (by decide) _ _ _ rfl (Fd.out.alloc _) ⟨W.heap.size,0,none⟩ 1 1 (aI ⟨name,room,zone⟩) rfl hcl (wO _ _ _) hone (by unfold maxLen; omega) (by omega) (by simp; omega) ?_; intro v' w1 hown' hgrow _ _; obtain⟨g',cap',rfl⟩:=ownsRow_succ hown'; obtain⟨hv1,hv2,hr2,hk2,hb2⟩:=HV.out.appended (by decide) Fd.out hbs (Nat.le_refl _) hown' hgrow; have hc1:=hv1.cell; have hf1:=hv1.frozen; have HZ:=hid (And.intro hv2 (And.intro hr2 (And.intro hk2 hb2))); clear hv1 hv2 hr2 hk2 hb2 hown' hgrow)
  obtain⟨hv2,hr2,hk2,hb2⟩:=HZ.out
  rw [HE.out] at hr2
  exact⟨hk2.from _,hk2.walks,⟨⟨_,hv2,by simpa using hr2,trivial⟩,HB.out.trans hb2⟩,by simp; omega⟩
 case done=>
  rintro D xs W hDl hS ⟨⟨⟨v,hv,hrow,_⟩,hB⟩,hle⟩ hK
  have hc0:=hv.cell
  obtain⟨A,c,rfl⟩:=AI hrow
  have HR:=hid (ownsRow_putObj hrow (.deferred none) hK rfl)
  have HB:=hid (hB.trans (belowK_b (w:=w) (Nat.le_refl _) W D _ (.deferred none) (by simp at hDl; omega) hK rfl rfl))
  have HS:=hid hS
  clear hrow hB hS
  gi_wp2
  refine⟨by simp,.inl ⟨_,_,rfl,run_takeDeferred hK,?_⟩⟩
  exact⟨_,results_tmp rfl _ _ _,A,c,xs,rfl,HS.out,hle,HR.out,HB.out⟩
 case stop=>
  rintro D c pre W _ _ h _
  exact h.elim
theorem Ce (Bm b nn:Nat) (hnn:nn≤1000) (G:ByteArray→Option av) (hG:∀ s x,G s=some x→av.name x=s) (w:World) (hm:w.cell? ⟨Bm,0,none⟩=some (.map (some b))) (hM:bT w b nn (fun s=>(G s).map (fun x:av=>Value.agg (aI x).toArray))) :
 Calls Tryz.prog 154 #[.func (.func 156) #[] #[.pointer (some ⟨Bm,0,none⟩)]] w fun e w'=>∃ A c xs,e = .returned (.slice A xs.length c)∧kN av.name G xs∧xs.length≤nn ∧
  w'.ownsRow w.heap.size 61 3 (.slice A xs.length c) xs.length (au aI xs)∧Below w.heap.size w w':=by
 have HC:=hid (Fe Bm b nn hnn G hG w hm hM)
 clear hm hM hG
 go_enter Tryz.func154,Tryz.ntmps154
 go_wp2_with fail
 refine Calls.mono HC.out ?_
 rintro e w' ⟨A,c,xs,rfl,h1,h2,h3,h4⟩
 have H:=hid (And.intro h1 (And.intro h2 (And.intro h3 h4)))
 clear h1 h2 h3 h4
 go_wp2
 go_ret
 exact⟨A,c,xs,rfl,H.out⟩
theorem G3 (n:Nat) (hn:1≤n) (l Bm b nn:Nat) (D0:DataW Value) (G:ByteArray→Option ak) (hG:∀ s x,G s=some x→ak.job x=s) (J Jx:List ak→World→Prop)
 (hY:∀ pre x W,J pre W→pre.length<nn→YieldAt Fence.wide (n - 1) Tryz.prog l #[.agg (aE x).toArray] W fun e W'=>
  (e = .returned (.bool true)∧J (pre ++ [x]) W'∧KeepsWalks W W')∨(e = .returned (.bool false)∧Jx (pre ++ [x]) W'))
 (W:World) (hJ:AbidesFrom W.heap.size J) (hm:W.cell? ⟨Bm,0,none⟩=some (.map (some b))) (hown:W.ownsMap Tryz.prog 9 jM b nn D0) (hD:MJ (fun x:ak=>Value.agg (aE x).toArray) G D0) (h0:J [] W) :
 CallsIn Fence.wide n Tryz.prog 159 #[.func (.yield l) #[] #[],.pointer (some ⟨Bm,0,none⟩)] W fun e W'=>(∃ v,e = .returned v) ∧
  ((∃ xs,kN ak.job G xs∧J xs W')∨(∃ pre,True∧Jx pre W')):=by
 have hsl:=hown.size_le
 refine callsIn_of_wp Tryz.func159 rfl trivial ?_ rfl
 simp only [Tryz.ntmps159,List.size_toArray,List.length_cons,List.length_nil,Nat.reduceAdd,Nat.reduceSub,Array.replicate_succ,Array.replicate_zero,List.push_toArray,List.append_toArray,List.nil_append,List.cons_append]
 gi_wp2_with (first
  | (gi_at_range; refine wpListIn_range_own _ rfl _ 206 rfl 9 63 AT Tryz.underlying206 _ b nn _ rfl hown ?_; intro w0 hrg0 hg0 hs0)
  | gi_in)
 go_frame
 gi_loopw [4] (fun _ wr=>∃ (left:Lit→Bool) (cnt:Nat) (ps:List (List UInt8 × ak)),wr.ranges Tryz.prog 9 jM b W.heap.size nn D0 left cnt∧ps.length+cnt≤Maps.size D0∧Collected D0 left (ps.map (·.1))∧(∀ p ∈ ps,G ⟨p.1.toArray⟩=some p.2)∧J (ps.map (·.2)) wr)
  (fun _ wr=>wr.rangeLeft b W.heap.size)
 case atStart=>
  exact⟨_,_,[],hrg0,by simp,Collected.start D0,by simp,hJ [] W w0 none h0 hg0 (fun r e=>by cases e)⟩
 case round=>
  obtain⟨left,cnt,ps,hrg,hcs,hC,hV,hJs⟩:=hrel
  gi_wp2_with (first
   | (gi_at_next; refine wpListIn_next_ranges _ rfl _ rfl 9 AT jM encStr id (fun key kl hk=>by obtain⟨x,hx,_⟩:=Maps.keyOf_str Tryz.underlying9 hk; exact⟨x,hx⟩) (fun v _ _=>⟨v,rfl⟩) b W.heap.size nn _ _ _ rfl hrg ?_ ?_)
   | gi_in)
  · intro hc0 hl0
    gi_wp2
    go_end0
    exact⟨⟨_,rfl⟩,.inl ⟨_,Df hG hD hC hl0 hV,hJs⟩⟩
  · intro x c kl yd yp w2 cnt2 hkey hlk hv hat hrg2 hlt hg2 hs2 hen
    obtain⟨x',ex,rfl,_⟩:=Maps.keyOf_str Tryz.underlying9 hkey
    obtain rfl:x=x':=encStr_inj ex
    obtain⟨r,hr,hc⟩:=wN hD hv hat
    have hJ2:J (ps.map (·.2)) w2:=hJ _ wr w2 (some W.heap.size) hJs hg2 (fun r e=>by cases e; exact⟨Nat.le_refl _,hrg.iter_walk⟩)
    have hC2:Collected D0 (fun z=>left z && !z.sameKey (.string x)) ((ps ++ [(x,r)]).map (·.1)):=by simpa using hC.step hlk hat
    have hV2:∀ p ∈ ps ++ [(x,r)],G ⟨p.1.toArray⟩=some p.2:=fun p hp=>(List.mem_append.1 hp).elim (hV p) (fun e=>by simp at e; subst e; exact hr)
    have HX:=hid (And.intro hC2 hV2)
    have hJ3:∀ o:Obj,J (ps.map (·.2)) (w2.alloc o):=fun o=>hJ _ w2 _ none hJ2 (World.grownBy_alloc w2 _ none) (fun r e=>by cases e)
    have Fc:∀ o:Obj,(w2.alloc o).ranges Tryz.prog 9 jM b W.heap.size nn D0 (fun z=>left z && !z.sameKey (.string x)) cnt2:=fun o=>hrg2.of_walks (KeepsWalks.alloc _ _)
    obtain⟨fn,tmps,assign,body,hy,hR⟩:=hY (ps.map (·.2)) r (w2.alloc (.cells (aE r).toArray 63)) (hJ3 _) (by simp; omega)
    obtain⟨job,node,till⟩:=r
    replace hc:c = .agg #[.string job,.string node,.int .i64 till]:=hc
    subst hc
    replace hy:(Instr.yield l #[.agg #[.string job,.string node,.int .i64 till]]).run Tryz.prog (w2.alloc (.cells #[.string job,.string node,.int .i64 till] 63))=_:=hy
    have HR:=hid hR
    have HRG:=hid (Fc (.cells #[.string job,.string node,.int .i64 till] 63))
    clear hs2 hD hG hC hV hC2 hV2 hr hat hv hJ2 hJ3 Fc hR
    gi_wp2
    refine HR.out.mono ?_
    rintro e W3 (⟨rfl,hJ3,hk3⟩ | ⟨rfl,hJx3⟩)
    · gi_wp2
      have hrg3:=HRG.out.of_walks hk3
      go_roundw
      case rel=>exact⟨_,cnt2,_,hrg3,by simp; omega,HX.out.1,HX.out.2,by simpa using hJ3⟩
      case measure=>rw [hrg3.left_eq,hrg.left_eq]; exact hlt
    · gi_wp2
      refine bodyPost_ret (results_none rfl _ _ _) rfl ?_
      exact⟨⟨_,rfl⟩,.inr ⟨_,trivial,hJx3⟩⟩
theorem Ch (m:Option Nat) (w:World):Calls Tryz.prog 112 #[.map m] w fun e w'=>e = .returned (.func (.func 159) #[] #[.pointer (some ⟨w.heap.size,0,none⟩)])∧w'=w.alloc (.cells #[.map m] 206):=by
 go_enter Tryz.func112,Tryz.ntmps112
 go_wp2
 go_ret
 exact⟨rfl,rfl⟩
theorem Dg (Bm b nn:Nat) (hnn:nn≤1000) (G:ByteArray→Option ak) (hG:∀ s x,G s=some x→ak.job x=s) (w:World) (hm:w.cell? ⟨Bm,0,none⟩=some (.map (some b))) (hM:bT w b nn (fun s=>(G s).map (fun x:ak=>Value.agg (aE x).toArray))) :
 Calls Tryz.prog 192 #[.slice none 0 0,.func (.func 159) #[] #[.pointer (some ⟨Bm,0,none⟩)]] w fun e w'=>∃ A c xs,e = .returned (.slice A xs.length c)∧kN ak.job G xs∧xs.length≤nn ∧
  w'.ownsRow w.heap.size 63 3 (.slice A xs.length c) xs.length (au aE xs)∧Below w.heap.size w w':=by
 refine (callsIn_wide (n:=3)).1 ?_
 obtain⟨D0,hown,hD⟩:=hM
 have hBm:=block_lt_of_cell hm
 have hseq:SeqStopsK Fence.wide (3 - 1) Tryz.prog 159 #[.pointer (some ⟨Bm,0,none⟩)] (fun x:ak=>#[.agg (aE x).toArray]) KeepsWalks (kN ak.job G) (fun _=>True) nn w:=fun l J Jx W hW hJ _ hY h0=>by
  have hown':W.ownsMap Tryz.prog 9 jM b nn D0:=by
   have hbl:=hown.lt
   obtain⟨es,clock,hb,Ft,hs,hD⟩:=hown
   exact⟨es,clock,(hW.block b hbl).trans hb,Ft,hs,hD⟩
  exact G3 (3 - 1) (by decide) l Bm b nn D0 G hG J Jx hY W hJ ((hW.cell (p:=⟨Bm,0,none⟩) hBm).trans hm) hown' hD h0
 have ML:=hid hseq
 clear hseq hD hG hown hm
 obtain⟨i0,hi,hz0,hz1,hz2⟩:=info_parts kD
 refine callsIn_of_wp_marks Tryz.func192 rfl trivial ?_ rfl
 simp only [Tryz.ntmps192,List.size_toArray,List.length_cons,List.length_nil,Nat.reduceAdd,Nat.reduceSub,Array.replicate_succ,Array.replicate_zero,List.push_toArray,List.append_toArray,List.nil_append,List.cons_append]
 gi_wp2
 refine wpIn_rangeFunc_ownH rfl (by decide) (gf:=159) (lb:=#[.pointer (some ⟨Bm,0,none⟩)]) rfl trivial (Go.Proofs.enters_of Tryz.func159 (by kernel_rfl) rfl)
  ML.out walksK_t walksK_b ((Below.refl _ w).alloc (Nat.le_refl _) _) (fun _=>rfl)
  (fun pre W=>((∃ v,Boxed W w.heap.size 24 v∧W.ownsRow w.heap.size 63 3 v pre.length (au aE pre)∧True)∧Below w.heap.size w W)∧pre.length≤nn)
  (fun _ _ _=>False)
  (OwnFrom.and (OwnFrom.and (Own.from (holdsRow_own w.heap.size w.heap.size 24 63 3 (fun pre:List ak=>pre.length) (fun pre=>au aE pre) (fun _ _=>True)) _) (ownFrom_below (Nat.le_refl _) (by simp))) (ownFrom_pure _ _))
  (fun _=>ownFrom_pure _ _)
  ⟨⟨⟨_,Boxed.new w 24 _,World.ownsRow_nil _ _ _ _,trivial⟩,(Below.refl _ w).alloc (Nat.le_refl _) _⟩,Nat.zero_le _⟩
  (fun x a' W=>∃ Bx,w.heap.size<Bx∧Blk W Bx 63 (aE x).toArray∧a' = { tmps:=#[.slice none 0 0,.func (.func 159) #[] #[.pointer (some ⟨Bm,0,none⟩)],.pointer (some ⟨w.heap.size,0,none⟩),undef,.slice none 0 0,.pointer (some ⟨Bx,0,none⟩),.func (.func 159) #[] #[.pointer (some ⟨Bm,0,none⟩)],.agg (aE x).toArray,undef,undef,undef,undef,undef],defers:=[] })
  (fun x a' _ X Y row hs hg hr=>by obtain⟨Bx,h1,h2,h3⟩:=hs; exact⟨Bx,h1,tI h2 hg (fun r e=>(hr r e).2),h3⟩)
  ?assign ?body ?done ?stop
 case assign=>
  rintro l pre x W K ⟨⟨⟨v,hv,hrow,_⟩,hB⟩,hle⟩ hK
  have hvl:=hv.lt
  have HK:=hid (hK _ _ ((KeepsOthers.alloc W (.cells (aE x).toArray 63)).from _) (KeepsWalks.alloc W _) ⟨⟨⟨v,hv.alloc _,hrow.alloc _,trivial⟩,hB.alloc hB.size _⟩,hle⟩ ⟨W.heap.size,hvl,heap_alloc_new W _,rfl⟩)
  clear hv hrow hB hK
  obtain⟨job,node,till⟩:=x
  simp only [show (Value.agg (aE ⟨job,node,till⟩).toArray) = .agg #[.string job,.string node,.int .i64 till] from rfl]
  gi_wp2
  exact HK.out
 case body=>
  rintro l pre x a' W hl _ ⟨⟨⟨v,hv,hrow,_⟩,hB⟩,hle⟩ ⟨Bx,hBx,hbx,rfl⟩ hlt
  have hcl:(aE x).length=1*3:=by rw [bB]
  have hone:=iA x
  have hc0:=hv.cell
  have hf0:=hv.frozen
  have hbs:=hB.size
  have Fd:=hid hrow
  have HV:=hid hv
  have HB:=hid hB
  have HE:=hid (show au aE pre ++ aE x=au aE (pre ++ [x]) by rw [dK,kO])
  clear hrow hv hB
  have hbxl:=hbx.lt
  obtain⟨job,node,till⟩:=x
  rw [show (Value.agg (aE ⟨job,node,till⟩).toArray) = .agg #[.string job,.string node,.int .i64 till] from rfl]
  have d0:W.cell? ⟨Bx,0,none⟩=some (.string job):=hbx.cell 0
  have d1:W.cell? ⟨Bx,1,none⟩=some (.string node):=hbx.cell 1
  have d2:W.cell? ⟨Bx,2,none⟩=some (.int .i64 till):=hbx.cell 2
  clear hbx
  gi_wp2_with (gi_at_builtin; refine wpListIn_append_own_at _ rfl _ _ 24 rfl w.heap.size 63 i0 (.agg #[.string ⟨#[]⟩,.string ⟨#[]⟩,.int .i64 0]) 3 40 Tryz.underlying24 hi hz0 hz1 hz2 rfl (by decide) _ _ _ rfl (Fd.out.alloc _) ⟨W.heap.size,0,none⟩ 1 1 (aE ⟨job,node,till⟩) rfl hcl (wO _ _ _) hone (by unfold maxLen; omega) (by omega) (by simp; omega) ?_; intro v' w1 hown' hgrow _ _; obtain⟨g',cap',rfl⟩:=ownsRow_succ hown'; obtain⟨hv1,hv2,hr2,hk2,hb2⟩:=HV.out.appended (by decide) Fd.out hbs (Nat.le_refl _) hown' hgrow; have hc1:=hv1.cell; have hf1:=hv1.frozen; have HZ:=hid (And.intro hv2 (And.intro hr2 (And.intro hk2 hb2))); clear hv1 hv2 hr2 hk2 hb2 hown' hgrow)
  obtain⟨hv2,hr2,hk2,hb2⟩:=HZ.out
  rw [HE.out] at hr2
  exact⟨hk2.from _,hk2.walks,⟨⟨_,hv2,by simpa using hr2,trivial⟩,HB.out.trans hb2⟩,by simp; omega⟩
 case done=>
  rintro D xs W hDl hS ⟨⟨⟨v,hv,hrow,_⟩,hB⟩,hle⟩ hK
  have hc0:=hv.cell
  obtain⟨A,c,rfl⟩:=AI hrow
  have HR:=hid (ownsRow_putObj hrow (.deferred none) hK rfl)
  have HB:=hid (hB.trans (belowK_b (w:=w) (Nat.le_refl _) W D _ (.deferred none) (by simp at hDl; omega) hK rfl rfl))
  have HS:=hid hS
  clear hrow hB hS
  gi_wp2
  refine⟨by simp,.inl ⟨_,_,rfl,run_takeDeferred hK,?_⟩⟩
  exact⟨_,results_tmp rfl _ _ _,A,c,xs,rfl,HS.out,hle,HR.out,HB.out⟩
 case stop=>
  rintro D c pre W _ _ h _
  exact h.elim
theorem AS (Bm b nn:Nat) (hnn:nn≤1000) (G:ByteArray→Option ak) (hG:∀ s x,G s=some x→ak.job x=s) (w:World) (hm:w.cell? ⟨Bm,0,none⟩=some (.map (some b))) (hM:bT w b nn (fun s=>(G s).map (fun x:ak=>Value.agg (aE x).toArray))) :
 Calls Tryz.prog 157 #[.func (.func 159) #[] #[.pointer (some ⟨Bm,0,none⟩)]] w fun e w'=>∃ A c xs,e = .returned (.slice A xs.length c)∧kN ak.job G xs∧xs.length≤nn ∧
  w'.ownsRow w.heap.size 63 3 (.slice A xs.length c) xs.length (au aE xs)∧Below w.heap.size w w':=by
 have HC:=hid (Dg Bm b nn hnn G hG w hm hM)
 clear hm hM hG
 go_enter Tryz.func157,Tryz.ntmps157
 go_wp2_with fail
 refine Calls.mono HC.out ?_
 rintro e w' ⟨A,c,xs,rfl,h1,h2,h3,h4⟩
 have H:=hid (And.intro h1 (And.intro h2 (And.intro h3 h4)))
 clear h1 h2 h3 h4
 go_wp2
 go_ret
 exact⟨A,c,xs,rfl,H.out⟩
end
end Go.Proofs.YtcpgnjmaampglaaGreatDoor
