/- Of the proof of a statement: PlNext, Sum, Clone, SlEq, SortK. -/
import Derived.Shelf.SlSortCmp.WholeK
import Derived.Test.YtoeejfhdjmkpcaaGreatDoorUCopyK
import Derived.Test.YtoeejfhdjmkpcaaGreatDoorUEqRows
import Derived.Test.YtoeejfhdjmkpcaaGreatDoorURPhQ
set_option linter.unusedVariables false
set_option linter.unusedSimpArgs false
set_option maxRecDepth 100000
set_option maxHeartbeats 8000000
/- What a request does to a state: plain. -/
namespace Go.Proofs.YtoeejfhdjmkpcaaGreatDoor
open Go.Lib (hid)
structure aU where
 kind:Int
 job:aA
 node:av
 lease:ah
 name:ByteArray
 n:Int
def kS (st:ak) (x:aA):ak:=⟨st.rev,iN aA.name st.jobs x,st.nodes,st.leases⟩
def mh (st:ak) (x:av):ak:=⟨st.rev,st.jobs,iN av.name st.nodes x,st.leases⟩
def uL (st:ak) (s:ByteArray):ak:=⟨st.rev,st.jobs.filter fun a=>!decide (a.name=s),st.nodes,st.leases.filter fun l=>!decide (l.job=s)⟩
def uM (st:ak) (s:ByteArray):ak:=⟨st.rev,st.jobs,st.nodes.filter fun a=>!decide (a.name=s),st.leases.filter fun l=>!decide (l.node=s)⟩
def rJ (st:ak) (s:ByteArray):ak:=⟨st.rev,st.jobs,st.nodes,st.leases.filter fun l=>!decide (l.job=s)⟩
def uQ (st:ak) (t:Int):ak:=⟨st.rev,st.jobs,st.nodes,st.leases.filter fun l=>!decide (l.till≤t)⟩
def BT (j:aA):aA:=⟨j.name,j.prio,j.need,j.tries+1,j.tag⟩
def oq (st:ak) (j:aA) (l:ah):ak:=⟨st.rev,iN aA.name st.jobs (BT j),st.nodes,iN ah.job st.leases l⟩
def kT (st:ak) (now:Int) (l:ah):Int × ak × Int:=
 match dA st.jobs l.job with
 | none=>(6,st,now)
 | some j=>if (dh st.nodes l.node).isSome=false then (6,st,now)
  else if (dQ st.leases l.job).isSome=true then (7,st,now)
  else if l.till≤now then (1,st,now)
  else if j.tries=100 then (2,st,now)
  else (aG (oq st j l),oq st j l,now)
def doR (st:ak) (now:Int) (q:aU):Int × ak × Int:=
 if q.kind=1 then (aG (kS st q.job),kS st q.job,now)
 else if q.kind=2 then (aG (mh st q.node),mh st q.node,now)
 else if q.kind=3 then (if (dA st.jobs q.name).isSome=true then 0 else 6,uL st q.name,now)
 else if q.kind=4 then (if (dh st.nodes q.name).isSome=true then 0 else 6,uM st q.name,now)
 else if q.kind=5 then kT st now q.lease
 else if q.kind=6 then (if (dQ st.leases q.name).isSome=true then 0 else 6,rJ st q.name,now)
 else if q.kind=7 then (if 1099511627776 - now<q.n then (1,st,now) else (0,uQ st (now+q.n),now+q.n))
 else (0,st,now)
def eV (q:aU):Int:=
 if q.kind=1 then fE q.job else if q.kind=2 then eH q.node
 else if q.kind=3∨q.kind=4∨q.kind=6 then (if bR q.name then 0 else 4)
 else if q.kind=5 then lsE q.lease
 else if q.kind=7 then (if ranged q.n 0 1099511627776 then 0 else 1) else 0
def kO:aA:=⟨⟨#[]⟩,0,0,0,⟨#[]⟩⟩
def dZ:av:=⟨⟨#[]⟩,0,⟨#[]⟩⟩
def cV:ah:=⟨⟨#[]⟩,⟨#[]⟩,0⟩
def q8 (q:aU):aU:=
 ⟨q.kind,if q.kind=1 then q.job else kO,if q.kind=2 then q.node else dZ,if q.kind=5 then q.lease else cV,if q.kind=3∨q.kind=4∨q.kind=6 then q.name else ⟨#[]⟩,if q.kind=7 then q.n else 0⟩
open Classical in
noncomputable def eF (q:aU):Int:=if ranged q.kind 1 9=false then 1 else if q8 q≠q then 4 else eV q
theorem bI {α:Type} {E:α→Int} {key:α→ByteArray} {l:List α} (h:bZ E key l=0):aK key l:=(iG none l h).2
end Go.Proofs.YtoeejfhdjmkpcaaGreatDoor
/- The walks of Sum, in the program and in the reference. -/
namespace Go.Proofs.YtoeejfhdjmkpcaaGreatDoor
open Go.Lib (hid)
open Go.RowKit
def DZ:Array Value:=Array.replicate 256 (.int .u32 0)
theorem EE (w:World):(zeroValue 361).run Tryz.prog w = .ok (.agg DZ) w:=by kernel_rfl
def wo (cs:Array Value) (k:Nat):Prop:=cs.size=256∧(∀ j,j<k→cs[j]? = some (.int .u32 ((nk 8 j:Nat):Int)))∧cs.all (·.oneCell')=true
theorem wo.zero:wo DZ 0:=⟨by simp [DZ],fun j h=>absurd h (by omega),by decide +kernel⟩
theorem wo.step {cs:Array Value} {k:Nat} (h:wo cs k) (hk:k<256):wo (cs.setIfInBounds k (.int .u32 ((nk 8 k:Nat):Int))) (k+1):=by
 refine⟨by simpa using h.1,fun j hj=>?_,?_⟩
 · rw [Array.getElem?_setIfInBounds]
   have:=h.1
   by_cases e:k=j
   · subst e; rw [if_pos rfl,if_pos (by omega)]
   · rw [if_neg e]; exact h.2.1 j (by omega)
 · have:=h.2.2
   rw [Array.all_eq_true_iff_forall_mem] at this ⊢
   intro x hx
   rcases Array.mem_or_eq_of_mem_setIfInBounds hx with h' | h'
   · exact this x h'
   · subst h'; rfl
def KZ (w:World) (i:Value) (wr:World):Prop:=∃ (k:Nat) (cs:Array Value),k≤256∧i = .int .i64 k∧wo cs k∧wr=w.alloc (.cells cs 361)
theorem below_setRow (w:World) (g:Nat) (cs:Array Value):Below g w (w.setRow g cs):=by
 refine⟨rfl,rfl,rfl,by simp [World.setRow],fun k hk=>?_⟩
 simp only [World.setRow,Array.getElem?_modify]
 rw [if_neg (by omega)]
theorem Jk (w:World):Calls Tryz.prog 255 #[] w fun e w'=>∃ cs,wo cs 256∧e = .returned (.agg cs)∧Below w.heap.size w w':=by
 have hz:=EE
 go_enter Tryz.func255,Tryz.ntmps255
 go_wp2
 go_loopw [1,2,3,4,9] (fun _ _ _ i _ wr=>KZ w i wr) (fun _ _ _ i _ _=>256 - (intOf i).toNat)
 case atStart=>exact⟨0,DZ,by omega,rfl,wo.zero,rfl⟩
 case round=>
  obtain⟨k,cs,hk,rfl,ht,rfl⟩:=hrel
  have Ht:=hid ht
  clear ht
  by_cases hlt:k<256
  · go_wp2
    go_loop [2,3,9] (fun x _ i=>∃ (m:Nat),m≤8∧i = .int .i64 m∧x = .int .u32 ((nk m k:Nat):Int)) (fun _ _ i=>8 - (intOf i).toNat)
    case atStart=>exact⟨0,by omega,rfl,rfl⟩
    case round=>
     obtain⟨m,hm,rfl,rfl⟩:=hrel
     have hlt2:=wT (x:=k) (by omega) m
     have hst:=yZ (nk m k) hlt2
     have hb1:=hst.2.1
     have hb2:=hst.2.2
     have Hst:=hid hst.1
     clear hst
     by_cases hm8:m<8
     · go_wp2
       go_round
       case rel=>exact⟨m+1,by omega,by go_num,by rw [Hst.out]; rfl⟩
       case measure=>simp [intOf]; omega
     · obtain rfl:m=8:=by omega
       obtain⟨cv,hcv⟩:∃ v,cs[k]? = some v:=⟨_,Array.getElem?_eq_getElem (by rw [Ht.out.1]; exact hlt)⟩
       go_wp2
       go_roundw
       case rel=>exact⟨k+1,_,by omega,by go_num,Ht.out.step hlt,rfl⟩
       case measure=>simp [intOf]; omega
  · obtain rfl:k=256:=by omega
    have hg:=heap_alloc_new w (.cells cs 361)
    have hi:(Tryz.prog.info? 361).map (·.size)=some cs.size:=by rw [Ht.out.1]; kernel_rfl
    have HG:=hid hg
    have HI:=hid hi
    clear hg hi
    go_wp2_with (first | (refine wpList_load_row rfl _ _ rfl w.heap.size rfl 361 cs (0,0) _ HG.out Tryz.underlying361 rfl HI.out ?_) | (refine wpList_store_row rfl _ _ _ rfl w.heap.size cs rfl rfl 361 cs HG.out HI.out rfl Ht.out.2.2 ?_))
    have e1:((w.alloc (.cells cs 361)).setRow w.heap.size cs).heap[w.heap.size]? = some (.cells cs 361 (0,0)):=setRow_heap _ _ _ _ _ _ HG.out
    refine bodyPost_ret (results_cell_row rfl _ _ w.heap.size _ cs (0,0) _ rfl e1 Tryz.underlying361 rfl HI.out) rfl ⟨cs,Ht.out,rfl,?_⟩
    exact (Below.refl _ _).alloc (Nat.le_refl _) _ |>.trans (below_setRow _ _ _)
theorem D2 (w:World) (c c':Array Value) (t:TypeId):(w.alloc (.cells c t)).setRow w.heap.size c'=w.alloc (.cells c' t):=by
 have hm:∀ (a:Array Obj) (x:Obj) (f:Obj→Obj),(a.push x).modify a.size f=a.push (f x):=by
  intro a x f
  apply Array.ext
  · simp
  · intro i h1 h2
    simp only [Array.getElem_modify,Array.getElem_push]
    by_cases h:a.size=i
    · subst h
      simp
    · have hi:i<a.size:=by simp at h1; omega
      simp [h,hi]
 unfold World.setRow
 show ({ w.alloc (.cells c t) with heap:=(w.heap.push (.cells c t)).modify w.heap.size _ }:World)=_
 rw [hm]
 rfl
def Mt (s:ByteArray) (x i:Value):Prop:=∃ (k n:Nat),k≤s.size∧i = .int .i64 k∧x = .int .u32 n∧n=Cc (s.data.toList.take k)
theorem J6 (s:ByteArray) (w:World) (hs:s.size≤9223372036854775807):Calls Tryz.prog 152 #[.string s] w fun e w'=>e = .returned (.int .u32 ((jO s.data.toList:Nat):Int))∧Below w.heap.size w w':=by
 have hz:=EE
 go_enter Tryz.func152,Tryz.ntmps152
 go_wp2_with fail
 refine Calls.mono (Jk w) ?_
 rintro e w1 ⟨cs,ht,rfl,hb⟩
 have Ht:=hid ht
 have hg:=heap_alloc_new w1 (.cells DZ 361)
 have hi:(Tryz.prog.info? 361).map (·.size)=some cs.size:=by rw [Ht.out.1]; kernel_rfl
 have HG:=hid hg
 have HI:=hid hi
 have hb2:Below w.heap.size w (w1.alloc (.cells cs 361)):=hb.alloc hb.size _
 have Hb:=hid hb2
 clear hg hi ht hb2 hb
 go_wp2_with (refine wpList_store_row rfl _ _ _ rfl w1.heap.size cs rfl rfl 361 DZ HG.out HI.out (by rw [Ht.out.1]; simp [DZ]) Ht.out.2.2 ?_; rw [D2])
 go_loop [4,5,9] (fun x _ i=>Mt s x i) (fun _ _ i=>s.size - (intOf i).toNat)
 case atStart=>exact⟨0,_,by omega,rfl,rfl,rfl⟩
 case round=>
  obtain⟨k,x,hk,rfl,rfl,hx⟩:=hrel
  have hlt:x<4294967296:=by rw [hx]; exact KE _
  have Hx:=hid hx
  clear hx
  by_cases hsz:k<s.size
  · obtain⟨c,hc⟩:∃ c:Nat,s[k].toNat=c:=⟨_,rfl⟩
    have hc2:c<256:=by rw [← hc]; exact s[k].toNat_lt
    have Hi:=sX hsz hc
    have hix:=KF x c hc2
    have bO:=hid (show x / 256 ^^^ nk 8 (x % 256 ^^^ c)=Cc (s.data.toList.take (k+1)) from by rw [vA hsz,FT,← Hx.out,hc]; rfl)
    clear hc
    generalize hy:(x % 256) ^^^ c=y at hix bO
    clear hy
    have hcs:=Ht.out.2.1 y hix.2
    have hy2:=hix.2
    have hix1:=hix.1
    have hst:=AJ x y hlt hy2
    clear hix
    go_wp2
    go_round
    case rel=>exact⟨k+1,_,by omega,by go_num,rfl,bO.out⟩
    case measure=>simp [intOf]; omega
  · have hn:=hid (KG x hlt)
    have hfin:=hid (show 4294967295 - x=jO s.data.toList from by
     unfold jO; rw [Hx.out,List.take_of_length_le (by simp; omega)])
    go_wp2
    go_ret
    exact⟨bA (by rw [hn.out,hfin.out]),Hb.out⟩
end Go.Proofs.YtoeejfhdjmkpcaaGreatDoor
/- The walks of slices.Clone and of Copy at rows of records: a row of the call's own that reads the same. -/
namespace Go.Proofs.YtoeejfhdjmkpcaaGreatDoor
open Go.Lib (hid)
open Go.RowKit
def pW {α:Type} (T:TypeId) (sz:Nat) (enc:α→List Value) (xs:List α) (w:World) (e:Ending) (w':World):Prop:=
 ∃ A' c',e = .returned (.slice A' xs.length c')∧w'.ownsRow w.heap.size T sz (.slice A' xs.length c') xs.length (au enc xs)∧Below w.heap.size w w'
theorem pW.D3 {α:Type} {T:TypeId} {sz n:Nat} {enc:α→List Value} {xs:List α} {w w':World} {v:Value} (hl:xs.length=n) (ho:w'.ownsRow w.heap.size T sz v n (au enc xs)) (hb:Below w.heap.size w w'):pW T sz enc xs w (.returned v) w':=by
 subst hl
 rcases ho.2 with ⟨rfl,h0⟩ | ⟨g,cap,cur,rfl,_⟩
 · rw [h0] at ho
   exact⟨none,0,by rw [h0],by rw [h0]; exact ho,hb⟩
 · exact⟨some ⟨g,0,none⟩,cap,rfl,ho,hb⟩
theorem aQ.adds {w:World} {B sz n:Nat} {ad:Addr} {xs:List Value} (h:aQ w B sz (some ad) n xs):∀ j u,xs[j]? = some u→w.cell? (ad.add j)=some u:=by
 intro j u hu
 have hn:0<n:=by
  rcases Nat.eq_zero_or_pos n with h0 | h0
  · subst h0
    have:xs=[]:=List.eq_nil_of_length_eq_zero (by rw [h.len]; omega)
    subst this; cases hu
  · exact h0
 obtain⟨b,off,e,hB,hr⟩:=h.at_ hn
 injection e with e
 subst e
 have:=hr j u hu
 unfold Addr.add
 split
 · rename_i hj; subst hj; simpa using this
 · exact this
theorem rZ {w:World} {a:Addr} {v:Value} (o:Obj) (h:w.cell? a=some v):(w.alloc o).cell? a=some v:=by
 have hlt:a.block<w.heap.size:=by
  rcases Nat.lt_or_ge a.block w.heap.size with h' | h'
  · exact h'
  · simp [World.cell?,Array.getElem?_eq_none h'] at h
 rw [← h]
 have:=((Below.refl w.heap.size w).alloc (Nat.le_refl _) o).block a.block hlt
 unfold World.cell?
 rw [this]
theorem F8 (xs:List aA) (A:Option Addr) (n c:Nat) (w:World) (hx:aQ w w.heap.size 5 A n (au aJ xs)) (hl:xs.length=n) (hn:n≤1000) :
 Calls Tryz.prog 130 #[.slice A n c] w (pW 34 5 aJ xs w):=by
 have qe:∀ (w:World) (a:Option Addr) (n c n' c':Nat),(binOp .eql 22 (.slice a n c) (.slice none n' c')).run Tryz.prog w = .ok (.bool a.isNone) w:=fun w a n c n' c'=>Lib.run_eql_slice_nil w _ _ a n c n' c' Tryz.underlying22
 obtain⟨i0,hi,hz0,hz1,hz2⟩:=info_parts sU
 cases A with
 | none=>
  have h0:n=0:=by
   rcases Nat.eq_zero_or_pos n with h | h
   · exact h
   · obtain⟨_,_,e,_⟩:=hx.at_ h; cases e
  subst h0
  have hxs:xs=[]:=List.eq_nil_of_length_eq_zero hl
  subst hxs
  clear hx hl
  go_enter Tryz.func130,Tryz.ntmps130
  go_wp2
  go_ret
  exact⟨none,0,rfl,World.ownsRow_nil _ _ _ _,Below.refl _ _⟩
 | some ad=>
  have hadd:=hx.adds
  have hlen:(au aJ xs).length=n*5:=hx.len
  have H:=hid hadd
  clear hx hadd
  go_enter Tryz.func130,Tryz.ntmps130
  go_wp2_with (at_builtin; refine wpList_append_own_at _ rfl _ _ 22 rfl w.heap.size 34 i0 (.agg #[.string ⟨#[]⟩,.int .i64 0,.int .i64 0,.int .i64 0,.string ⟨#[]⟩]) 5 56 Tryz.underlying22 hi hz0 hz1 hz2 rfl (by decide) (.slice (some ⟨w.heap.size,0,none⟩) 0 0) 0 [] rfl (World.ownsRow_made w #[] 0 (Nat.le_refl _) (Nat.zero_le _) rfl) ad n c (au aJ xs) rfl hlen (fun j u hu=>by have hadd:=H.out; exact rZ _ (hadd j u hu)) (fun u hu=>by obtain⟨a,_,ha⟩:=List.mem_flatMap.1 hu; exact ny a u ha) (by unfold maxLen; omega) (by omega) (by simp) ?_; intro v' w1 hown hgrow hnil hblk)
  rw [Nat.zero_add,List.nil_append] at hown
  have hfin:=hid (pW.D3 hl hown (((Below.refl _ w).alloc (Nat.le_refl _) _).grown hgrow (by simp) (by intro k hk; simp [Value.ownBlock] at hk; omega)))
  clear hown hgrow hnil hblk
  go_wp2
  go_ret
  exact hfin.out
theorem D4 (xs:List av) (A:Option Addr) (n c:Nat) (w:World) (hx:aQ w w.heap.size 3 A n (au aB xs)) (hl:xs.length=n) (hn:n≤1000) :
 Calls Tryz.prog 131 #[.slice A n c] w (pW 36 3 aB xs w):=by
 have qe:∀ (w:World) (a:Option Addr) (n c n' c':Nat),(binOp .eql 23 (.slice a n c) (.slice none n' c')).run Tryz.prog w = .ok (.bool a.isNone) w:=fun w a n c n' c'=>Lib.run_eql_slice_nil w _ _ a n c n' c' Tryz.underlying23
 obtain⟨i0,hi,hz0,hz1,hz2⟩:=info_parts qx
 cases A with
 | none=>
  have h0:n=0:=by
   rcases Nat.eq_zero_or_pos n with h | h
   · exact h
   · obtain⟨_,_,e,_⟩:=hx.at_ h; cases e
  subst h0
  have hxs:xs=[]:=List.eq_nil_of_length_eq_zero hl
  subst hxs
  clear hx hl
  go_enter Tryz.func131,Tryz.ntmps131
  go_wp2
  go_ret
  exact⟨none,0,rfl,World.ownsRow_nil _ _ _ _,Below.refl _ _⟩
 | some ad=>
  have hadd:=hx.adds
  have hlen:(au aB xs).length=n*3:=hx.len
  have H:=hid hadd
  clear hx hadd
  go_enter Tryz.func131,Tryz.ntmps131
  go_wp2_with (at_builtin; refine wpList_append_own_at _ rfl _ _ 23 rfl w.heap.size 36 i0 (.agg #[.string ⟨#[]⟩,.int .i64 0,.string ⟨#[]⟩]) 3 40 Tryz.underlying23 hi hz0 hz1 hz2 rfl (by decide) (.slice (some ⟨w.heap.size,0,none⟩) 0 0) 0 [] rfl (World.ownsRow_made w #[] 0 (Nat.le_refl _) (Nat.zero_le _) rfl) ad n c (au aB xs) rfl hlen (fun j u hu=>by have hadd:=H.out; exact rZ _ (hadd j u hu)) (fun u hu=>by obtain⟨a,_,ha⟩:=List.mem_flatMap.1 hu; exact lW a u ha) (by unfold maxLen; omega) (by omega) (by simp) ?_; intro v' w1 hown hgrow hnil hblk)
  rw [Nat.zero_add,List.nil_append] at hown
  have hfin:=hid (pW.D3 hl hown (((Below.refl _ w).alloc (Nat.le_refl _) _).grown hgrow (by simp) (by intro k hk; simp [Value.ownBlock] at hk; omega)))
  clear hown hgrow hnil hblk
  go_wp2
  go_ret
  exact hfin.out
theorem Cx (xs:List ah) (A:Option Addr) (n c:Nat) (w:World) (hx:aQ w w.heap.size 3 A n (au ay xs)) (hl:xs.length=n) (hn:n≤1000) :
 Calls Tryz.prog 132 #[.slice A n c] w (pW 38 3 ay xs w):=by
 have qe:∀ (w:World) (a:Option Addr) (n c n' c':Nat),(binOp .eql 24 (.slice a n c) (.slice none n' c')).run Tryz.prog w = .ok (.bool a.isNone) w:=fun w a n c n' c'=>Lib.run_eql_slice_nil w _ _ a n c n' c' Tryz.underlying24
 obtain⟨i0,hi,hz0,hz1,hz2⟩:=info_parts om
 cases A with
 | none=>
  have h0:n=0:=by
   rcases Nat.eq_zero_or_pos n with h | h
   · exact h
   · obtain⟨_,_,e,_⟩:=hx.at_ h; cases e
  subst h0
  have hxs:xs=[]:=List.eq_nil_of_length_eq_zero hl
  subst hxs
  clear hx hl
  go_enter Tryz.func132,Tryz.ntmps132
  go_wp2
  go_ret
  exact⟨none,0,rfl,World.ownsRow_nil _ _ _ _,Below.refl _ _⟩
 | some ad=>
  have hadd:=hx.adds
  have hlen:(au ay xs).length=n*3:=hx.len
  have H:=hid hadd
  clear hx hadd
  go_enter Tryz.func132,Tryz.ntmps132
  go_wp2_with (at_builtin; refine wpList_append_own_at _ rfl _ _ 24 rfl w.heap.size 38 i0 (.agg #[.string ⟨#[]⟩,.string ⟨#[]⟩,.int .i64 0]) 3 40 Tryz.underlying24 hi hz0 hz1 hz2 rfl (by decide) (.slice (some ⟨w.heap.size,0,none⟩) 0 0) 0 [] rfl (World.ownsRow_made w #[] 0 (Nat.le_refl _) (Nat.zero_le _) rfl) ad n c (au ay xs) rfl hlen (fun j u hu=>by have hadd:=H.out; exact rZ _ (hadd j u hu)) (fun u hu=>by obtain⟨a,_,ha⟩:=List.mem_flatMap.1 hu; exact kF a u ha) (by unfold maxLen; omega) (by omega) (by simp) ?_; intro v' w1 hown hgrow hnil hblk)
  rw [Nat.zero_add,List.nil_append] at hown
  have hfin:=hid (pW.D3 hl hown (((Below.refl _ w).alloc (Nat.le_refl _) _).grown hgrow (by simp) (by intro k hk; simp [Value.ownBlock] at hk; omega)))
  clear hown hgrow hnil hblk
  go_wp2
  go_ret
  exact hfin.out
end Go.Proofs.YtoeejfhdjmkpcaaGreatDoor
/- slices.Equal at rows of records: true just where the lists are the same. -/
namespace Go.Proofs.YtoeejfhdjmkpcaaGreatDoor
open Go.Lib (hid)
open Go.RowKit
theorem Gx (xs ys:List aA) (A A':Option Addr) (n m c c':Nat) (w:World) (hx:aQ w w.heap.size 5 A n (au aJ xs)) (hy:aQ w w.heap.size 5 A' m (au aJ ys)) (lx:xs.length=n) (ly:ys.length=m) (hn:n≤9223372036854775807) (hm:m≤9223372036854775807) :
 Calls Tryz.prog 145 #[.slice A n c,.slice A' m c'] w (oO xs ys w):=by
 by_cases h:n=m
 · subst h
   have h0:((n:Int) != n)=false:=by simp
   have Lx:=hid lx
   have Ly:=hid ly
   clear lx ly
   go_enter Tryz.func145,Tryz.ntmps145
   go_wp2
   go_loopw [13] (fun i wr=>zi xs ys n w i wr) (fun i _=>n - (intOf i).toNat)
   case atStart=>exact⟨0,Nat.zero_le _,rfl,rfl,Below.refl _ _⟩
   case round=>
    obtain⟨k,hk,rfl,he,hb⟩:=hrel
    have He:=hid he
    clear he
    by_cases hlt:k<n
    · obtain⟨x,hxk⟩:∃ x,xs[k]? = some x:=⟨_,List.getElem?_eq_getElem (by rw [Lx.out]; exact hlt)⟩
      obtain⟨y,hyk⟩:∃ y,ys[k]? = some y:=⟨_,List.getElem?_eq_getElem (by rw [Ly.out]; exact hlt)⟩
      obtain⟨b,off,rfl,hbB,hc⟩:=(hx.below hb).cR aP Lx.out hxk
      obtain⟨b',off',rfl,qU,hc'⟩:=(hy.below hb).cR aP Ly.out hyk
      obtain⟨bU,fQ,fR,eB,jf⟩:=x
      obtain⟨bQ,eZ,fq,dL,iF⟩:=y
      have c0:wr.cell? ⟨b,off+k*5,none⟩=some (.string bU):=hc 0 _ rfl
      have d0:wr.cell? ⟨b',off'+k*5,none⟩=some (.string bQ):=hc' 0 _ rfl
      have c1:wr.cell? ⟨b,off+k*5+1,none⟩=some (.int .i64 fQ):=hc 1 _ rfl
      have d1:wr.cell? ⟨b',off'+k*5+1,none⟩=some (.int .i64 eZ):=hc' 1 _ rfl
      have c2:wr.cell? ⟨b,off+k*5+2,none⟩=some (.int .i64 fR):=hc 2 _ rfl
      have d2:wr.cell? ⟨b',off'+k*5+2,none⟩=some (.int .i64 fq):=hc' 2 _ rfl
      have c3:wr.cell? ⟨b,off+k*5+3,none⟩=some (.int .i64 eB):=hc 3 _ rfl
      have d3:wr.cell? ⟨b',off'+k*5+3,none⟩=some (.int .i64 dL):=hc' 3 _ rfl
      have c4:wr.cell? ⟨b,off+k*5+4,none⟩=some (.string jf):=hc 4 _ rfl
      have d4:wr.cell? ⟨b',off'+k*5+4,none⟩=some (.string iF):=hc' 4 _ rfl
      have hsz:=hb.size
      have hlt1:b<wr.heap.size:=by omega
      have hlt2:b'<wr.heap.size:=by omega
      have Hb:=hid hb
      have Hxk:=hid hxk
      have Hyk:=hid hyk
      have fin:=hid Hb.out.drew
      have step:=hid (fun (h:(⟨bU,fQ,fR,eB,jf⟩:aA)=⟨bQ,eZ,fq,dL,iF⟩)=>gO (hxk.trans (congrArg some h)) hyk He.out)
      have stop:=hid (fun (h:(⟨bU,fQ,fR,eB,jf⟩:aA)≠⟨bQ,eZ,fq,dL,iF⟩)=>lK hxk hyk h)
      clear hc hc' hx hy hxk hyk hb
      obtain⟨t,ht,hrun,-⟩:=xI bU bQ jf iF fQ eZ fR fq eB dL
      have HT:=hid ht
      cases t
      · have oP:=hid (stop.out (fun h=>absurd (HT.out.2 h) (by decide)))
        have hrun':∀ W,(binOp .neq 34 (.agg #[.string bU,.int .i64 fQ,.int .i64 fR,.int .i64 eB,.string jf]) (.agg #[.string bQ,.int .i64 eZ,.int .i64 fq,.int .i64 dL,.string iF])).run Tryz.prog W = .ok (.bool true) W:=hrun
        clear ht hrun step
        go_wp2
        go_region
        go_wp2
        go_ret
        exact⟨false,rfl,⟨fun h=>(by cases h),fun h=>absurd h oP.out⟩,fin.out⟩
      · have step2:=hid (step.out (HT.out.1 rfl))
        have hrun':∀ W,(binOp .neq 34 (.agg #[.string bU,.int .i64 fQ,.int .i64 fR,.int .i64 eB,.string jf]) (.agg #[.string bQ,.int .i64 eZ,.int .i64 fq,.int .i64 dL,.string iF])).run Tryz.prog W = .ok (.bool false) W:=hrun
        clear ht hrun stop
        go_wp2
        go_region
        go_wp2
        go_roundw
        case rel=>exact⟨k+1,by omega,by go_num,step2.out,fin.out⟩
        case measure=>simp [intOf]; omega
    · have fin:=hid hb
      have same:=hid (show xs=ys by
       have e:=He.out
       rwa [List.take_of_length_le (by rw [Lx.out]; omega),List.take_of_length_le (by rw [Ly.out]; omega)] at e)
      clear hb hx hy
      go_wp2
      go_ret
      exact⟨true,rfl,⟨fun _=>same.out,fun _=>rfl⟩,fin.out⟩
 · have h0:((n:Int) != m)=true:=by simp; omega
   have fin:=hid (show xs≠ys by rintro rfl; omega)
   clear lx ly hx hy
   go_enter Tryz.func145,Tryz.ntmps145
   go_wp2
   go_ret
   exact⟨false,rfl,⟨fun h=>(by cases h),fun h=>absurd h fin.out⟩,Below.refl _ _⟩
theorem EK (xs ys:List av) (A A':Option Addr) (n m c c':Nat) (w:World) (hx:aQ w w.heap.size 3 A n (au aB xs)) (hy:aQ w w.heap.size 3 A' m (au aB ys)) (lx:xs.length=n) (ly:ys.length=m) (hn:n≤9223372036854775807) (hm:m≤9223372036854775807) :
 Calls Tryz.prog 146 #[.slice A n c,.slice A' m c'] w (oO xs ys w):=by
 by_cases h:n=m
 · subst h
   have h0:((n:Int) != n)=false:=by simp
   have Lx:=hid lx
   have Ly:=hid ly
   clear lx ly
   go_enter Tryz.func146,Tryz.ntmps146
   go_wp2
   go_loopw [13] (fun i wr=>zi xs ys n w i wr) (fun i _=>n - (intOf i).toNat)
   case atStart=>exact⟨0,Nat.zero_le _,rfl,rfl,Below.refl _ _⟩
   case round=>
    obtain⟨k,hk,rfl,he,hb⟩:=hrel
    have He:=hid he
    clear he
    by_cases hlt:k<n
    · obtain⟨x,hxk⟩:∃ x,xs[k]? = some x:=⟨_,List.getElem?_eq_getElem (by rw [Lx.out]; exact hlt)⟩
      obtain⟨y,hyk⟩:∃ y,ys[k]? = some y:=⟨_,List.getElem?_eq_getElem (by rw [Ly.out]; exact hlt)⟩
      obtain⟨b,off,rfl,hbB,hc⟩:=(hx.below hb).cR aL Lx.out hxk
      obtain⟨b',off',rfl,qU,hc'⟩:=(hy.below hb).cR aL Ly.out hyk
      obtain⟨bU,fT,fS⟩:=x
      obtain⟨bQ,fA,fu⟩:=y
      have c0:wr.cell? ⟨b,off+k*3,none⟩=some (.string bU):=hc 0 _ rfl
      have d0:wr.cell? ⟨b',off'+k*3,none⟩=some (.string bQ):=hc' 0 _ rfl
      have c1:wr.cell? ⟨b,off+k*3+1,none⟩=some (.int .i64 fT):=hc 1 _ rfl
      have d1:wr.cell? ⟨b',off'+k*3+1,none⟩=some (.int .i64 fA):=hc' 1 _ rfl
      have c2:wr.cell? ⟨b,off+k*3+2,none⟩=some (.string fS):=hc 2 _ rfl
      have d2:wr.cell? ⟨b',off'+k*3+2,none⟩=some (.string fu):=hc' 2 _ rfl
      have hsz:=hb.size
      have hlt1:b<wr.heap.size:=by omega
      have hlt2:b'<wr.heap.size:=by omega
      have Hb:=hid hb
      have Hxk:=hid hxk
      have Hyk:=hid hyk
      have fin:=hid Hb.out.drew
      have step:=hid (fun (h:(⟨bU,fT,fS⟩:av)=⟨bQ,fA,fu⟩)=>gO (hxk.trans (congrArg some h)) hyk He.out)
      have stop:=hid (fun (h:(⟨bU,fT,fS⟩:av)≠⟨bQ,fA,fu⟩)=>lK hxk hyk h)
      clear hc hc' hx hy hxk hyk hb
      obtain⟨t,ht,hrun,-⟩:=uN bU bQ fS fu fT fA
      have HT:=hid ht
      cases t
      · have oP:=hid (stop.out (fun h=>absurd (HT.out.2 h) (by decide)))
        have hrun':∀ W,(binOp .neq 36 (.agg #[.string bU,.int .i64 fT,.string fS]) (.agg #[.string bQ,.int .i64 fA,.string fu])).run Tryz.prog W = .ok (.bool true) W:=hrun
        clear ht hrun step
        go_wp2
        go_region
        go_wp2
        go_ret
        exact⟨false,rfl,⟨fun h=>(by cases h),fun h=>absurd h oP.out⟩,fin.out⟩
      · have step2:=hid (step.out (HT.out.1 rfl))
        have hrun':∀ W,(binOp .neq 36 (.agg #[.string bU,.int .i64 fT,.string fS]) (.agg #[.string bQ,.int .i64 fA,.string fu])).run Tryz.prog W = .ok (.bool false) W:=hrun
        clear ht hrun stop
        go_wp2
        go_region
        go_wp2
        go_roundw
        case rel=>exact⟨k+1,by omega,by go_num,step2.out,fin.out⟩
        case measure=>simp [intOf]; omega
    · have fin:=hid hb
      have same:=hid (show xs=ys by
       have e:=He.out
       rwa [List.take_of_length_le (by rw [Lx.out]; omega),List.take_of_length_le (by rw [Ly.out]; omega)] at e)
      clear hb hx hy
      go_wp2
      go_ret
      exact⟨true,rfl,⟨fun _=>same.out,fun _=>rfl⟩,fin.out⟩
 · have h0:((n:Int) != m)=true:=by simp; omega
   have fin:=hid (show xs≠ys by rintro rfl; omega)
   clear lx ly hx hy
   go_enter Tryz.func146,Tryz.ntmps146
   go_wp2
   go_ret
   exact⟨false,rfl,⟨fun h=>(by cases h),fun h=>absurd h fin.out⟩,Below.refl _ _⟩
end Go.Proofs.YtoeejfhdjmkpcaaGreatDoor
/- A row of the call's own, of elements of several cells, handed to the library's sort, and what it owns behind it. -/
namespace Go.Proofs.YtoeejfhdjmkpcaaGreatDoor
open Go.Lib (hid)
open Go.RowKit Go.Sort
section
variable {α:Type} [Inhabited α] {enc:α→List Value} {k:Nat}
theorem uh (hk:∀ x,(enc x).length=k) (hk0:0<k) (l:List α):(flatK enc k l.toArray).toList=au enc l:=by
 apply List.ext_getElem?
 intro t
 have hl:=iK hk l
 by_cases ht:t<l.length*k
 · have hi:t / k<l.length:=Nat.div_lt_of_lt_mul (by rwa [Nat.mul_comm] at ht)
   have hj:t % k<k:=Nat.mod_lt _ hk0
   have h1:=qc hk l (t / k) (t % k) l[t / k] (List.getElem?_eq_getElem hi) hj
   rw [Nat.div_add_mod'] at h1
   have hj2:t % k<(enc l[t / k]).length:=by rw [hk]; exact hj
   rw [h1,List.getElem?_eq_getElem hj2]
   have h2:t<(flatK enc k l.toArray).size:=by simpa using ht
   rw [Array.getElem?_toList,Array.getElem?_eq_getElem h2]
   have h3:=get_flatK enc k l.toArray t (by simpa using ht)
   rw [getElem!_pos (flatK enc k l.toArray) t h2] at h3
   rw [h3]
   simp [hi,hj2]
 · rw [List.getElem?_eq_none (l:=au enc l) (by rw [hl]; omega),List.getElem?_eq_none (by simp; omega)]
theorem ru {w:World} {g:Nat} {cur:Array Value} {e:TypeId} {l:List α} (hk:∀ x,(enc x).length=k) (hk0:0<k) (hb:w.heap[g]? = some (.cells cur e (0,0))) (ht:cur.toList.take (l.length*k)=au enc l) :
 HoldsK enc k w g 0 l.toArray:=by
 intro j hj
 have hj':j<l.length*k:=by simpa using hj
 refine⟨?_,by simp [World.frozen?,hb]⟩
 have h1:(cur.toList.take (l.length*k))[j]? = (flatK enc k l.toArray).toList[j]?:=by rw [ht,uh hk hk0]
 rw [List.getElem?_take_of_lt hj',Array.getElem?_toList,Array.getElem?_toList,Array.getElem?_eq_getElem hj] at h1
 simp only [World.cell?,hb,Nat.zero_add,Option.isSome_none,Bool.false_eq_true,if_false]
 rw [h1,getElem!_pos (flatK enc k l.toArray) j hj]
 rfl
theorem AY {w:World} {g n:Nat} {os:Array Obj} {cur:Array Value} {e:TypeId} {fr:Nat × Nat} (d:Array α) (hb:w.heap[g]? = some (.cells cur e fr)) :
 (sortWorldK enc k w g 0 n d os).heap[g]? = some (.cells (putCells id 0 (flatK enc k d) cur) e fr):=by
 have hg:g<w.heap.size:=(Array.getElem?_eq_some_iff.1 hb).1
 unfold sortWorldK putRowK
 rw [heap_grow_old _ _ (by simpa using hg)]
 simp [putRow,mapBlock,Sort.ahead,Array.getElem?_modify,hb,onCells]
theorem fC {w:World} {g n:Nat} {os:Array Obj} (d:Array α):w.grownBy (sortWorldK enc k w g 0 n d os) (some g):=by
 unfold sortWorldK putRowK
 refine⟨rfl,rfl,rfl,by simp,fun j hj hne=>?_⟩
 rw [heap_grow_old _ _ (by simpa using hj)]
 have:g≠j:=fun e=>hne (by rw [e])
 simp [putRow,mapBlock,Sort.ahead,Array.getElem?_modify,this]
theorem yJ (cur F:Array Value) (h:F.size≤cur.size):(putCells id 0 F cur).toList.take F.size=F.toList:=by
 apply List.ext_getElem?
 intro j
 by_cases hj:j<F.size
 · rw [List.getElem?_take_of_lt hj,Array.getElem?_toList]
   simp [putCells,hj,show j<cur.size by omega]
 · rw [List.getElem?_take_eq_none (by omega),List.getElem?_eq_none (by simp; omega)]
theorem oT {w:World} {base g cap n:Nat} {e:TypeId} {os:Array Obj} {cur:Array Value} {l:List α} {d:Array α} (hk:∀ x,(enc x).length=k) (hk0:0<k) (hl:d.size=l.length) (hbase:base≤g)
 (hb:w.heap[g]? = some (.cells cur e (0,0))) (h1:l.length≤cap) (h2:cap≤maxLen) (h3:cur.size=cap*k) :
 (sortWorldK enc k w g 0 n d os).ownsRow base e k (.slice (some ⟨g,0,none⟩) l.length cap) l.length (au enc d.toList):=by
 have hF:=uh hk hk0 d.toList
 have hs:(flatK enc k d).size=l.length*k:=by rw [size_flatK,hl]
 refine⟨by rw [iK hk,Array.length_toList,hl],.inr ⟨g,cap,_,rfl,hbase,AY _ hb,h1,h2,by simp [putCells,h3],?_⟩⟩
 rw [← hs,yJ _ _ (by rw [hs,h3]; exact Nat.mul_le_mul_right k h1),← hF]
end
theorem gI {w w':World} {g b o:Nat} {v:Value} (hg:w.grownBy w' (some g)) (hne:b≠g) (h:w.cell? ⟨b,o,none⟩=some v):w'.cell? ⟨b,o,none⟩=some v:=
 (World.cell?_of_block (hg.block b (block_lt_of_cell h) (by simp [hne]))).trans h
end Go.Proofs.YtoeejfhdjmkpcaaGreatDoor
