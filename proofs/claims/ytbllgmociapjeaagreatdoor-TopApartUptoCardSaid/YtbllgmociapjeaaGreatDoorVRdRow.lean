/- Of the proof of a statement: Rdr, RdRow. -/
import Derived.Test.YtbllgmociapjeaaGreatDoorVRTab
set_option linter.unusedVariables false
set_option linter.unusedSimpArgs false
set_option maxRecDepth 100000
set_option maxHeartbeats 8000000
/- The walks of a Reader. -/
namespace Go.Proofs.YtbllgmociapjeaaGreatDoor
open Go.Lib (hid)
open Go.RowKit
def nM (w:World) (g:Nat) (s:ByteArray) (e:Nat):Prop:=Blk w g 193 #[.string s,.int .i64 (e:Int)]
def RxS (w:World) (g:Nat) (σ:RR Unit):Prop:=match σ with
 | .ok _ s=>nM w g s 0
 | .bad e=>∃ s,s.size≤9223372036854775807∧nM w g s e
def uS:Nat:=9223372036854775807
def zn {α:Type} (g:Nat) (res:RR α) (enc:α→Value) (Z:α→Prop) (w:World) (e:Ending) (w':World):Prop:=
 ∃ a,e = .returned (enc a)∧kF res Z a∧RxS w' g res.st∧w.grownBy w' (some g)
theorem cX (w:World) (g:Nat):w.grownBy w (some g):=⟨rfl,rfl,rfl,Nat.le_refl _,fun _ _ _=>rfl⟩
theorem jO {w w' w'':World} {g:Nat} (h:w.grownBy w' (some g)) (h':w'.grownBy w'' (some g)):w.grownBy w'' (some g):=
 ⟨h'.os.trans h.os,h'.tape.trans h.tape,h'.output.trans h.output,Nat.le_trans h.size h'.size,fun k hk hne=>(h'.block k (Nat.lt_of_lt_of_le hk h.size) hne).trans (h.block k hk hne)⟩
theorem fK {w w':World} (g:Nat) (h:Below w.heap.size w w'):w.grownBy w' (some g):=⟨h.os,h.tape,h.output,h.size,fun k hk _=>h.block k hk⟩
theorem aD {w w':World} {g k:Nat} {t:TypeId} {cs:Array Value} (h:w.grownBy w' (some g)) (hk:Blk w k t cs) (hne:k≠g):Blk w' k t cs:=
 (h.block k hk.lt (by simp; exact hne)).trans hk
theorem nM.set {w:World} {g:Nat} {s:ByteArray} {e:Nat} (h:nM w g s e) (s':ByteArray):nM (w.setCell ⟨g,0,none⟩ (.string s')) g s' e:=Blk.eq (Blk.set h 0 _) (by simp)
theorem nM.err {w:World} {g:Nat} {s:ByteArray} {e:Nat} (h:nM w g s e) (e':Nat):nM (w.setCell ⟨g,1,none⟩ (.int .i64 (e':Int))) g s e':=Blk.eq (Blk.set h 1 _) (by simp)
theorem bE (w:World) (g i:Nat) (v:Value):w.grownBy (w.setCell ⟨g,i,none⟩ v) (some g):=aQ (cX w g) i v
theorem yJ (g:Nat) (s:ByteArray) (e x:Nat) (w:World) (h:nM w g s x) :
 Calls Tryz.prog 154 #[.pointer (some ⟨g,0,none⟩),.int .i64 (e:Int)] w fun en w'=>en = .returned (.tuple #[])∧nM w' g s (if x=0 then e else x)∧w.grownBy w' (some g):=by
 have y1:w.cell? ⟨g,1,none⟩=some (.int .i64 (x:Int)):=Blk.cell h 1
 have z1:w.frozen? ⟨g,1,none⟩=false:=Blk.thaw h 1
 have hgl:=Blk.lt h
 obtain⟨E',hE'⟩:∃ E',(if x=0 then e else x)=E':=⟨_,rfl⟩
 rw [hE']
 by_cases hx:x=0
 · subst hx
   rw [if_pos rfl] at hE'
   subst hE'
   have H:=hid (h.err e)
   clear h
   go_enter Tryz.func154,Tryz.ntmps154
   go_wp2
   go_end0
   exact⟨rfl,H.out,bE _ _ _ _⟩
 · have hne:((x:Int) == 0)=false:=by rw [beq_eq_false_iff_ne]; omega
   rw [if_neg hx] at hE'
   subst hE'
   have H:=hid h
   clear h hx
   go_enter Tryz.func154,Tryz.ntmps154
   go_wp2
   go_end0
   exact⟨rfl,H.out,cX _ _⟩
theorem A6 (g:Nat) (σ:RR Unit) (w:World) (h:RxS w g σ) (hσ:σ.Good uS) :
 Calls Tryz.prog 153 #[.pointer (some ⟨g,0,none⟩)] w (zn g (σ.bind fun _ s=>eT s) (fun n:Nat=>.int .u64 n) (fun n=>n=0) w):=by
 cases σ with
 | bad x=>
  obtain⟨s,hs,hA⟩:=h
  have y1:w.cell? ⟨g,1,none⟩=some (.int .i64 (x:Int)):=Blk.cell hA 1
  have hne:((x:Int) != 0)=true:=by rw [bne_iff_ne]; have:=hσ.1; omega
  have hA':=hid hA
  clear hA
  go_enter Tryz.func153,Tryz.ntmps153
  go_wp2
  go_ret
  exact⟨0,rfl,rfl,⟨s,hs,hA'.out⟩,cX _ _⟩
 | ok u s=>
  have hA:nM w g s 0:=h
  have hs:s.size≤9223372036854775807:=hσ
  have y0:w.cell? ⟨g,0,none⟩=some (.string s):=Blk.cell hA 0
  have y1:w.cell? ⟨g,1,none⟩=some (.int .i64 0):=Blk.cell hA 1
  have z0:w.frozen? ⟨g,0,none⟩=false:=Blk.thaw hA 0
  rcases hr:rdNum s with ⟨a,k,e⟩
  have hf:=jl hr
  have HA:=hid hA
  have HR:=hid (o8 hr w hs)
  by_cases he:e=0
  · subst he
    have hk:=(hf.2.2.2 rfl).2
    by_cases hl:4611686018427387904<a
    · have hres:=hid (wu hr hl)
      have hd:decide ((4611686018427387904:Int)<(a:Int))=true:=decide_eq_true (by omega)
      clear hA h hr
      go_enter Tryz.func153,Tryz.ntmps153
      go_wp2_with fail
      refine Calls.mono HR.out ?_
      rintro e w1 ⟨rfl,rfl⟩
      go_wp2_with fail
      refine Calls.mono (yJ g s 2 0 _ HA.out) ?_
      rintro e w1 ⟨rfl,hA2,hg2⟩
      go_wp2
      go_ret
      exact⟨0,rfl,by rw [RR.bind_ok,hres.out]; rfl,by rw [RR.bind_ok,hres.out]; exact⟨s,hs,hA2⟩,hg2⟩
    · have hres:=hid (ze hr hl)
      have hd:decide ((4611686018427387904:Int)<(a:Int))=false:=decide_eq_false (by omega)
      clear hA h hr
      go_enter Tryz.func153,Tryz.ntmps153
      go_wp2_with fail
      refine Calls.mono HR.out ?_
      rintro e w1 ⟨rfl,rfl⟩
      go_wp2
      go_ret
      exact⟨a,rfl,by rw [RR.bind_ok,hres.out]; rfl,by rw [RR.bind_ok,hres.out]; exact HA.out.set _,bE _ _ _ _⟩
  · have hres:=hid (AT hr he)
    have hne:((e:Int) == 0)=false:=by rw [beq_eq_false_iff_ne]; omega
    have hne2:((e:Int) != 0)=true:=by rw [bne_iff_ne]; omega
    clear hA h hr
    go_enter Tryz.func153,Tryz.ntmps153
    go_wp2_with fail
    refine Calls.mono HR.out ?_
    rintro e' w1 ⟨rfl,rfl⟩
    go_wp2_with fail
    refine Calls.mono (yJ g s e 0 _ HA.out) ?_
    rintro e' w1 ⟨rfl,hA2,hg2⟩
    go_wp2
    go_ret
    exact⟨0,rfl,by rw [RR.bind_ok,hres.out]; rfl,by rw [RR.bind_ok,hres.out]; exact⟨s,hs,hA2⟩,hg2⟩
theorem A7 {σ:RR Unit} {a:Nat} (h:kF (σ.bind fun _ s=>eT s) (fun n=>n=0) a):a≤4611686018427387904:=by
 cases σ with
 | bad x=>rw [RR.gG] at h; have h:a=0:=h; omega
 | ok u s=>
  rw [RR.bind_ok] at h
  cases hp:eT s with
  | bad x=>rw [hp] at h; have h:a=0:=h; omega
  | ok b r=>rw [hp] at h; have h:a=b:=h; have:=JE hp; omega
theorem H8 (g:Nat) (σ:RR Unit) (w:World) (h:RxS w g σ) (hσ:σ.Good uS) :
 Calls Tryz.prog 94 #[.pointer (some ⟨g,0,none⟩)] w (zn g (σ.bind fun _ s=>eT s) (fun n:Nat=>.int .i64 n) (fun n=>n=0) w):=by
 have H:=hid (A6 g σ w h hσ)
 clear h
 go_enter Tryz.func94,Tryz.ntmps94
 go_wp2_with fail
 refine Calls.mono H.out ?_
 rintro e w1 ⟨a,rfl,hv,hs,hg⟩
 have hle:=A7 hv
 have Hv:=hid hv
 clear hv
 go_wp2
 go_ret
 exact⟨a,rfl,Hv.out,hs,hg⟩
theorem H9 (g:Nat) (σ:RR Unit) (w:World) (h:RxS w g σ) (hσ:σ.Good uS) :
 Calls Tryz.prog 276 #[.pointer (some ⟨g,0,none⟩)] w (zn g (σ.bind fun _ s=>eT s) (fun n:Nat=>.int .i64 (qx n)) (fun n=>n=0) w):=by
 have H:=hid (A6 g σ w h hσ)
 clear h
 go_enter Tryz.func276,Tryz.ntmps276
 go_wp2_with fail
 refine Calls.mono H.out ?_
 rintro e w1 ⟨a,rfl,hv,hs,hg⟩
 have hle:=A7 hv
 have Hv:=hid hv
 clear hv
 go_wp2_with fail
 refine Calls.mono (Jo (a:Int) (by omega) (by omega) w1) ?_
 rintro e w2 ⟨rfl,rfl⟩
 go_wp2
 go_ret
 exact⟨a,rfl,Hv.out,hs,hg⟩
theorem Lc (g:Nat) (σ:RR Unit) (w:World) (h:RxS w g σ) (hσ:σ.Good uS) (hT:Tabs w) :
 Calls Tryz.prog 275 #[.pointer (some ⟨g,0,none⟩)] w (zn g (σ.bind fun _ s=>cV s) (fun t=>.string t) (fun t=>t=⟨#[]⟩) w):=by
 cases σ with
 | bad x=>
  obtain⟨s,hs,hA⟩:=h
  have y1:w.cell? ⟨g,1,none⟩=some (.int .i64 (x:Int)):=Blk.cell hA 1
  have hne:((x:Int) != 0)=true:=by rw [bne_iff_ne]; have:=hσ.1; omega
  have hA':=hid hA
  clear hA
  go_enter Tryz.func275,Tryz.ntmps275
  go_wp2
  go_ret
  exact⟨⟨#[]⟩,rfl,rfl,⟨s,hs,hA'.out⟩,cX _ _⟩
 | ok u s=>
  have hA:nM w g s 0:=h
  have hs:s.size≤9223372036854775807:=hσ
  have y0:w.cell? ⟨g,0,none⟩=some (.string s):=Blk.cell hA 0
  have y1:w.cell? ⟨g,1,none⟩=some (.int .i64 0):=Blk.cell hA 1
  have hgl:=Blk.lt hA
  rcases hr:lV s with ⟨t,k,e⟩
  have hf:=wB hr
  have HA:=hid hA
  have hR:=zo s w hs hT
  unfold kU at hR
  rw [hr] at hR
  have HR:=hid hR
  clear hR hT h
  by_cases he:e=0
  · subst he
    have hk:=hf.2.2 rfl
    have hres:=hid (wA hr)
    clear hA hr hf
    go_enter Tryz.func275,Tryz.ntmps275
    go_wp2_with fail
    refine Calls.mono HR.out ?_
    rintro e w1 ⟨rfl,hb1⟩
    have hA1:nM w1 g s 0:=Blk.below HA.out hb1 HA.out.lt
    have x0:w1.cell? ⟨g,0,none⟩=some (.string s):=Blk.cell hA1 0
    have z0:w1.frozen? ⟨g,0,none⟩=false:=Blk.thaw hA1 0
    have HA1:=hid hA1
    have Hb1:=hid hb1
    clear hA1 hb1 y0 y1
    go_wp2
    go_ret
    exact⟨t,rfl,by rw [RR.bind_ok,hres.out]; rfl,by rw [RR.bind_ok,hres.out]; exact HA1.out.set _,jO (fK g Hb1.out) (bE _ _ _ _)⟩
  · have hres:=hid (x9 hr he)
    have hne2:((e:Int) != 0)=true:=by rw [bne_iff_ne]; omega
    clear hA hr hf
    go_enter Tryz.func275,Tryz.ntmps275
    go_wp2_with fail
    refine Calls.mono HR.out ?_
    rintro e' w1 ⟨rfl,hb1⟩
    have hA1:nM w1 g s 0:=Blk.below HA.out hb1 HA.out.lt
    have HA1:=hid hA1
    have Hb1:=hid hb1
    clear hA1 hb1 y0 y1
    go_wp2_with fail
    refine Calls.mono (yJ g s e 0 _ HA1.out) ?_
    rintro e' w2 ⟨rfl,hA2,hg2⟩
    go_wp2
    go_ret
    exact⟨⟨#[]⟩,rfl,by rw [RR.bind_ok,hres.out]; rfl,by rw [RR.bind_ok,hres.out]; exact⟨s,hs,hA2⟩,jO (fK g Hb1.out) hg2⟩
end Go.Proofs.YtbllgmociapjeaaGreatDoor
/- The walks of a Reader's rows: a job, a node, a lease. -/
namespace Go.Proofs.YtbllgmociapjeaaGreatDoor
open Go.Lib (hid)
open Go.RowKit
theorem Tabs.grow {w w':World} {b:Nat} (h:Tabs w) (h3:ren.g 3≠b) (h4:ren.g 4≠b) (hg:w.grownBy w' (some b)):Tabs w':=by
 have cell:∀ {a:Addr} {v:Value},a.block≠b→w.cell? a=some v→w'.cell? a=some v:=fun {a v} hne hc=>by
  have hlt:a.block<w.heap.size:=by
   rcases Nat.lt_or_ge a.block w.heap.size with h' | h'
   · exact h'
   · simp [World.cell?,Array.getElem?_eq_none h'] at hc
  have:=hg.block a.block hlt (by simp; exact hne)
  rw [← hc]
  unfold World.cell?
  rw [this]
 exact⟨fun c hc=>cell h3 (h.1 c hc),fun i hi=>⟨cell h4 (h.2 i hi).1,cell h4 (h.2 i hi).2⟩⟩
theorem Tabs.lts {w:World} (h:Tabs w):ren.g 3<w.heap.size∧ren.g 4<w.heap.size:=by
 have lt:∀ {a:Addr} {v:Value},w.cell? a=some v→a.block<w.heap.size:=fun {a v} hc=>by
  rcases Nat.lt_or_ge a.block w.heap.size with h' | h'
  · exact h'
  · simp [World.cell?,Array.getElem?_eq_none h'] at hc
 exact⟨lt (h.1 0 (by decide)),lt (h.2 0 (by decide)).1⟩
theorem RxS.grow {w w':World} {g b:Nat} {σ:RR Unit} (h:RxS w g σ) (hg:w.grownBy w' (some b)) (hne:g≠b):RxS w' g σ:=by
 cases σ with
 | ok u s=>exact aD hg h hne
 | bad x=>obtain⟨s,h1,h2⟩:=h; exact⟨s,h1,aD hg h2 hne⟩
theorem RxS.lt {w:World} {g:Nat} {σ:RR Unit} (h:RxS w g σ):g<w.heap.size:=by
 cases σ with
 | ok u s=>exact Blk.lt h
 | bad x=>obtain⟨s,h1,h2⟩:=h; exact Blk.lt h2
structure fu (w:World) (g:Nat) (σ:RR Unit):Prop where
 at_:RxS w g σ
 good:σ.Good uS
 tabs:Tabs w
 n3:ren.g 3<g
 n4:ren.g 4<g
theorem fu.next {w w':World} {g:Nat} {σ σ':RR Unit} (h:fu w g σ) (hs:RxS w' g σ') (hgd:σ'.Good uS) (hg:w.grownBy w' (some g)):fu w' g σ':=
 ⟨hs,hgd,h.tabs.grow (Nat.ne_of_lt h.n3) (Nat.ne_of_lt h.n4) hg,h.n3,h.n4⟩
theorem fu.grow {w w':World} {g b:Nat} {σ:RR Unit} (h:fu w g σ) (hg:w.grownBy w' (some b)) (hb:g<b):fu w' g σ:=
 ⟨h.at_.grow hg (Nat.ne_of_lt hb),h.good,h.tabs.grow (by have:=h.n3; omega) (by have:=h.n4; omega) hg,h.n3,h.n4⟩
theorem fu.alloc {w:World} {g:Nat} {σ:RR Unit} (h:fu w g σ) (o:Obj):fu (w.alloc o) g σ:=
 h.grow (b:=w.heap.size) (fK _ ((Below.refl _ _).alloc (Nat.le_refl _) _)) h.at_.lt
theorem fu.set {w:World} {g:Nat} {σ:RR Unit} (h:fu w g σ) (b i:Nat) (v:Value) (hb:g<b):fu (w.setCell ⟨b,i,none⟩ v) g σ:=
 h.grow (bE w b i v) hb
def tq {α:Type} (g:Nat) (res:RR α) (enc:α→Value) (Z:α→Prop) (w:World) (e:Ending) (w':World):Prop:=
 ∃ a,e = .returned (enc a)∧kF res Z a∧fu w' g res.st∧w.grownBy w' (some g)
theorem zq {α:Type} {N:Nat} {σ:RR Unit} {p:ByteArray→RR α} (h:σ.Good N) (hp:∀ s,s.size≤N→(p s).Good N):(σ.bind fun _ s=>p s).st.Good N:=
 (h.bind fun _ r hr=>hp r hr).st
theorem mY (g:Nat) (σ:RR Unit) (w:World) (h:fu w g σ) :
 Calls Tryz.prog 94 #[.pointer (some ⟨g,0,none⟩)] w (tq g (σ.bind fun _ s=>eT s) (fun n:Nat=>.int .i64 n) (fun n=>n=0) w):=by
 refine Calls.mono (H8 g σ w h.at_ h.good) ?_
 rintro e w' ⟨a,he,hv,hs,hg⟩
 exact⟨a,he,hv,h.next hs (zq h.good fun _=>yc) hg,hg⟩
theorem Ia (g:Nat) (σ:RR Unit) (w:World) (h:fu w g σ) :
 Calls Tryz.prog 276 #[.pointer (some ⟨g,0,none⟩)] w (tq g (σ.bind fun _ s=>eT s) (fun n:Nat=>.int .i64 (qx n)) (fun n=>n=0) w):=by
 refine Calls.mono (H9 g σ w h.at_ h.good) ?_
 rintro e w' ⟨a,he,hv,hs,hg⟩
 exact⟨a,he,hv,h.next hs (zq h.good fun _=>yc) hg,hg⟩
theorem qC (g:Nat) (σ:RR Unit) (w:World) (h:fu w g σ) :
 Calls Tryz.prog 275 #[.pointer (some ⟨g,0,none⟩)] w (tq g (σ.bind fun _ s=>cV s) (fun t=>.string t) (fun t=>t=⟨#[]⟩) w):=by
 refine Calls.mono (Lc g σ w h.at_ h.good h.tabs) ?_
 rintro e w' ⟨a,he,hv,hs,hg⟩
 exact⟨a,he,hv,h.next hs (zq h.good fun _=>Cv) hg,hg⟩
theorem wN {w w' w'':World} {g b:Nat} (h:w.grownBy w' (some g)) (hg:w'.grownBy w'' (some b)) (hb:w.heap.size≤b):w.grownBy w'' (some g):=
 ⟨hg.os.trans h.os,hg.tape.trans h.tape,hg.output.trans h.output,Nat.le_trans h.size hg.size,fun k hk hne=>(hg.block k (Nat.lt_of_lt_of_le hk h.size) (by simp; omega)).trans (h.block k hk hne)⟩
structure RGo (w0 w:World) (g:Nat) (σ:RR Unit) (R:Nat) (t:TypeId) (cs:Array Value):Prop where
 ok:fu w g σ
 keep:w0.grownBy w (some g)
 blk:Blk w R t cs
 gt:g<R
 new:w0.heap.size≤R
theorem RGo.start {w:World} {g:Nat} {σ:RR Unit} (h:fu w g σ) (t:TypeId) (cs:Array Value):RGo w (w.alloc (.cells cs t)) g σ w.heap.size t cs:=
 ⟨h.alloc _,fK _ ((Below.refl _ _).alloc (Nat.le_refl _) _),heap_alloc_new w _,h.at_.lt,Nat.le_refl _⟩
theorem RGo.next {w0 w w':World} {g R:Nat} {σ σ':RR Unit} {t:TypeId} {cs:Array Value} (h:RGo w0 w g σ R t cs) (hok:fu w' g σ') (hg:w.grownBy w' (some g)):RGo w0 w' g σ' R t cs:=
 ⟨hok,jO h.keep hg,aD hg h.blk (Nat.ne_of_gt h.gt),h.gt,h.new⟩
theorem RGo.alloc {w0 w:World} {g R:Nat} {σ:RR Unit} {t:TypeId} {cs:Array Value} (h:RGo w0 w g σ R t cs) (o:Obj):RGo w0 (w.alloc o) g σ R t cs:=
 ⟨h.ok.alloc _,jO h.keep (fK _ ((Below.refl _ _).alloc (Nat.le_refl _) _)),h.blk.alloc _,h.gt,h.new⟩
theorem RGo.set {w0 w:World} {g R:Nat} {σ:RR Unit} {t:TypeId} {cs:Array Value} (h:RGo w0 w g σ R t cs) (i:Nat) (v:Value):RGo w0 (w.setCell ⟨R,i,none⟩ v) g σ R t (cs.setIfInBounds i v):=
 ⟨h.ok.set _ _ _ h.gt,wN h.keep (bE _ _ _ _) h.new,h.blk.set i v,h.gt,h.new⟩
theorem RGo.other {w0 w:World} {g R R':Nat} {σ:RR Unit} {t t':TypeId} {cs cs':Array Value} (h:RGo w0 w g σ R t cs) (h':RGo w0 w g σ R' t' cs') (hne:R≠R') (i:Nat) (v:Value):RGo w0 (w.setCell ⟨R',i,none⟩ v) g σ R t cs:=
 ⟨h.ok.set _ _ _ h'.gt,wN h.keep (bE _ _ _ _) h'.new,aD (bE _ _ _ _) h.blk hne,h.gt,h.new⟩
theorem CM {σ:RR Unit} {v:Int} (h1:1<v) (h2:2<v) {name:ByteArray} {prio:Nat} {need:Nat} {tries:Nat} {tag:ByteArray} (e0:kF (σ.bind fun _ s=>cV s) (fun x=>x=⟨#[]⟩) name) (e1:kF ((σ.bind fun _ s=>cV s).st.bind fun _ s=>eT s) (fun x=>x=0) prio) (e2:kF (((σ.bind fun _ s=>cV s).st.bind fun _ s=>eT s).st.bind fun _ s=>eT s) (fun x=>x=0) need) (e3:kF ((((σ.bind fun _ s=>cV s).st.bind fun _ s=>eT s).st.bind fun _ s=>eT s).st.bind fun _ s=>eT s) (fun x=>x=0) tries) (e4:kF (((((σ.bind fun _ s=>cV s).st.bind fun _ s=>eT s).st.bind fun _ s=>eT s).st.bind fun _ s=>eT s).st.bind fun _ s=>cV s) (fun x=>x=⟨#[]⟩) tag) :
 kF (σ.bind fun _ s=>AV v s) (fun _=>True) (⟨name,qx prio,need,tries,tag⟩:aC)∧(σ.bind fun _ s=>AV v s).st=(((((σ.bind fun _ s=>cV s).st.bind fun _ s=>eT s).st.bind fun _ s=>eT s).st.bind fun _ s=>eT s).st.bind fun _ s=>cV s).st:=by
 cases σ with
 | bad x=>exact⟨trivial,rfl⟩
 | ok u s=>
  unfold AV
  simp only [if_pos h1]; simp only [if_pos h2]
  simp only [RR.bind_ok] at *
  rcases q0:cV s with ⟨b0,r0⟩ | x
  rotate_left
  · simp only [q0,RR.st,RR.gG,RR.bind_ok] at *; first | exact⟨trivial,rfl⟩ | exact⟨trivial,trivial⟩
  simp only [q0,RR.st,RR.bind_ok] at *
  have t0:name=b0:=e0
  subst t0
  rcases q1:eT r0 with ⟨b1,r1⟩ | x
  rotate_left
  · simp only [q1,RR.st,RR.gG,RR.bind_ok] at *; first | exact⟨trivial,rfl⟩ | exact⟨trivial,trivial⟩
  simp only [q1,RR.st,RR.bind_ok] at *
  have t1:prio=b1:=e1
  subst t1
  rcases q2:eT r1 with ⟨b2,r2⟩ | x
  rotate_left
  · simp only [q2,RR.st,RR.gG,RR.bind_ok] at *; first | exact⟨trivial,rfl⟩ | exact⟨trivial,trivial⟩
  simp only [q2,RR.st,RR.bind_ok] at *
  have t2:need=b2:=e2
  subst t2
  rcases q3:eT r2 with ⟨b3,r3⟩ | x
  rotate_left
  · simp only [q3,RR.st,RR.gG,RR.bind_ok] at *; first | exact⟨trivial,rfl⟩ | exact⟨trivial,trivial⟩
  simp only [q3,RR.st,RR.bind_ok] at *
  have t3:tries=b3:=e3
  subst t3
  rcases q4:cV r3 with ⟨b4,r4⟩ | x
  rotate_left
  · simp only [q4,RR.st,RR.gG,RR.bind_ok] at *; first | exact⟨trivial,rfl⟩ | exact⟨trivial,trivial⟩
  simp only [q4,RR.st,RR.bind_ok] at *
  have t4:tag=b4:=e4
  subst t4
  first | exact⟨rfl,rfl⟩ | exact⟨rfl,trivial⟩
theorem JK (g:Nat) (σ:RR Unit) (v:Int) (w:World) (h1:1<v) (h2:2<v) (h:fu w g σ) :
 Calls Tryz.prog 274 #[.pointer (some ⟨g,0,none⟩),.int .i64 v] w (tq g (σ.bind fun _ s=>AV v s) (fun x:aC=>.agg (aI x).toArray) (fun _=>True) w):=by
 have d1:decide (1<v)=true:=decide_eq_true h1
 have d2:decide (2<v)=true:=decide_eq_true h2
 have Hj:=hid (fun name prio need tries tag=>CM (σ:=σ) (v:=v) h1 h2 (name:=name) (prio:=prio) (need:=need) (tries:=tries) (tag:=tag))
 have H0:=hid (RGo.start h 32 #[.string ⟨#[]⟩,.int .i64 0,.int .i64 0,.int .i64 0,.string ⟨#[]⟩])
 have hgl:=h.at_.lt
 clear h h1 h2
 go_enter Tryz.func274,Tryz.ntmps274
 go_wp2_with fail
 refine Calls.mono (qC g _ _ H0.out.ok) ?_
 rintro e w1 ⟨name,rfl,v0,ok0,kp0⟩
 have V0:=hid v0
 have H1:=hid (H0.out.next ok0 kp0)
 clear v0 ok0 kp0 H0
 go_wp2_with fail
 refine Calls.mono (Ia g _ _ H1.out.ok) ?_
 rintro e w2 ⟨prio,rfl,v1,ok1,kp1⟩
 have V1:=hid v1
 have H2:=hid (H1.out.next ok1 kp1)
 clear v1 ok1 kp1 H1
 go_wp2_with fail
 refine Calls.mono (mY g _ _ H2.out.ok) ?_
 rintro e w3 ⟨need,rfl,v2,ok2,kp2⟩
 have V2:=hid v2
 have H3:=hid (H2.out.next ok2 kp2)
 clear v2 ok2 kp2 H2
 have J3:=hid (show RGo w (w3.alloc (.cells #[.string name,.int .i64 (qx ((prio:Nat):Int)),.int .i64 ((need:Nat):Int),.int .i64 0,.string ⟨#[]⟩] 32)) g _ w3.heap.size 32 _ from ⟨H3.out.ok.alloc _,(H3.out.alloc _).keep,heap_alloc_new w3 _,Nat.lt_of_lt_of_le hgl H3.out.keep.size,H3.out.keep.size⟩)
 have K3:=hid (H3.out.alloc (.cells #[.string name,.int .i64 (qx ((prio:Nat):Int)),.int .i64 ((need:Nat):Int),.int .i64 0,.string ⟨#[]⟩] 32))
 have hne:w.heap.size≠w3.heap.size:=Nat.ne_of_lt H3.out.blk.lt
 clear H3
 generalize hJ:w3.heap.size=J at J3 hne
 have HJ:=hid hJ
 clear hJ
 go_wp2_with fail
 rw [HJ.out]
 refine Calls.mono (mY g _ _ J3.out.ok) ?_
 rintro e w4 ⟨tries,rfl,v3,ok3,kp3⟩
 have V3:=hid v3
 have Ja:=J3.out.next ok3 kp3
 have Ka:=K3.out.next ok3 kp3
 have z3:w4.frozen? ⟨J,3,none⟩=false:=Ja.blk.thaw 3
 have x3:w4.cell? ⟨J,3,none⟩=some (.int .i64 0):=Ja.blk.cell 3
 have J4:=hid (Ja.set 3 (.int .i64 ((tries:Nat):Int)))
 have K4:=hid (Ka.other Ja hne 3 (.int .i64 ((tries:Nat):Int)))
 clear Ja Ka v3 ok3 kp3 J3 K3
 go_wp2_with fail
 refine Calls.mono (qC g _ _ J4.out.ok) ?_
 rintro e w5 ⟨tag,rfl,v4,ok4,kp4⟩
 have V4:=hid v4
 have Ja:=J4.out.next ok4 kp4
 have Ka:=K4.out.next ok4 kp4
 have z4:w5.frozen? ⟨J,4,none⟩=false:=Ja.blk.thaw 4
 have x4:w5.cell? ⟨J,4,none⟩=some (.string ⟨#[]⟩):=Ja.blk.cell 4
 have J5:=hid (Ja.set 4 (.string tag))
 have K5:=hid (Ka.other Ja hne 4 (.string tag))
 obtain⟨y0,y1,y2,y3⟩:=Blk.c4 (Ja.blk)
 have u0:w5.frozen? ⟨w.heap.size,0,none⟩=false:=Ka.blk.thaw 0
 have u1:w5.frozen? ⟨w.heap.size,1,none⟩=false:=Ka.blk.thaw 1
 have u2:w5.frozen? ⟨w.heap.size,2,none⟩=false:=Ka.blk.thaw 2
 have u3:w5.frozen? ⟨w.heap.size,3,none⟩=false:=Ka.blk.thaw 3
 have u4:w5.frozen? ⟨w.heap.size,4,none⟩=false:=Ka.blk.thaw 4
 obtain⟨s0,s1,s2,s3,s4⟩:=Blk.c5 (Ka.blk)
 clear Ja Ka v4 ok4 kp4 J4 K4
 have Q:=(((((K5.out.set 0 (.string name)).set 1 (.int .i64 (qx ((prio:Nat):Int)))).set 2 (.int .i64 ((need:Nat):Int))).set 3 (.int .i64 ((tries:Nat):Int))).set 4 (.string tag))
 have q0:=(show _=(some (.string name):Option Value) from Q.blk.cell 0)
 have q1:=(show _=(some (.int .i64 (qx ((prio:Nat):Int))):Option Value) from Q.blk.cell 1)
 have q2:=(show _=(some (.int .i64 ((need:Nat):Int)):Option Value) from Q.blk.cell 2)
 have q3:=(show _=(some (.int .i64 ((tries:Nat):Int)):Option Value) from Q.blk.cell 3)
 have q4:=(show _=(some (.string tag):Option Value) from Q.blk.cell 4)
 have Hok:=hid Q.ok
 have Hkp:=hid Q.keep
 clear Q
 go_wp2
 refine bodyPost_ret (v:=.agg #[.string name,.int .i64 (qx ((prio:Nat):Int)),.int .i64 ((need:Nat):Int),.int .i64 ((tries:Nat):Int),.string tag]) (by simp [results,Tryz.results274,go_sem, *]) rfl ?_
 exact⟨⟨name,qx prio,need,tries,tag⟩,rfl,(Hj.out name prio need tries tag V0.out V1.out V2.out V3.out V4.out).1,by rw [(Hj.out name prio need tries tag V0.out V1.out V2.out V3.out V4.out).2]; exact Hok.out,Hkp.out⟩
theorem A8 {σ:RR Unit} {v:Int} (h1:1<v) {name:ByteArray} {room:Nat} {zone:ByteArray} (e0:kF (σ.bind fun _ s=>cV s) (fun x=>x=⟨#[]⟩) name) (e1:kF ((σ.bind fun _ s=>cV s).st.bind fun _ s=>eT s) (fun x=>x=0) room) (e2:kF (((σ.bind fun _ s=>cV s).st.bind fun _ s=>eT s).st.bind fun _ s=>cV s) (fun x=>x=⟨#[]⟩) zone) :
 kF (σ.bind fun _ s=>tV v s) (fun _=>True) (⟨name,room,zone⟩:aA)∧(σ.bind fun _ s=>tV v s).st=(((σ.bind fun _ s=>cV s).st.bind fun _ s=>eT s).st.bind fun _ s=>cV s).st:=by
 cases σ with
 | bad x=>exact⟨trivial,rfl⟩
 | ok u s=>
  unfold tV
  simp only [if_pos h1]
  simp only [RR.bind_ok] at *
  rcases q0:cV s with ⟨b0,r0⟩ | x
  rotate_left
  · simp only [q0,RR.st,RR.gG,RR.bind_ok] at *; first | exact⟨trivial,rfl⟩ | exact⟨trivial,trivial⟩
  simp only [q0,RR.st,RR.bind_ok] at *
  have t0:name=b0:=e0
  subst t0
  rcases q1:eT r0 with ⟨b1,r1⟩ | x
  rotate_left
  · simp only [q1,RR.st,RR.gG,RR.bind_ok] at *; first | exact⟨trivial,rfl⟩ | exact⟨trivial,trivial⟩
  simp only [q1,RR.st,RR.bind_ok] at *
  have t1:room=b1:=e1
  subst t1
  rcases q2:cV r1 with ⟨b2,r2⟩ | x
  rotate_left
  · simp only [q2,RR.st,RR.gG,RR.bind_ok] at *; first | exact⟨trivial,rfl⟩ | exact⟨trivial,trivial⟩
  simp only [q2,RR.st,RR.bind_ok] at *
  have t2:zone=b2:=e2
  subst t2
  first | exact⟨rfl,rfl⟩ | exact⟨rfl,trivial⟩
theorem Ib (g:Nat) (σ:RR Unit) (v:Int) (w:World) (h1:1<v) (h:fu w g σ) :
 Calls Tryz.prog 283 #[.pointer (some ⟨g,0,none⟩),.int .i64 v] w (tq g (σ.bind fun _ s=>tV v s) (fun x:aA=>.agg (aB x).toArray) (fun _=>True) w):=by
 have d1:decide (1<v)=true:=decide_eq_true h1
 have Hj:=hid (fun name room zone=>A8 (σ:=σ) (v:=v) h1 (name:=name) (room:=room) (zone:=zone))
 have H0:=hid (RGo.start h 34 #[.string ⟨#[]⟩,.int .i64 0,.string ⟨#[]⟩])
 have hgl:=h.at_.lt
 clear h h1
 go_enter Tryz.func283,Tryz.ntmps283
 go_wp2_with fail
 refine Calls.mono (qC g _ _ H0.out.ok) ?_
 rintro e w1 ⟨name,rfl,v0,ok0,kp0⟩
 have V0:=hid v0
 have H1:=hid (H0.out.next ok0 kp0)
 clear v0 ok0 kp0 H0
 go_wp2_with fail
 refine Calls.mono (mY g _ _ H1.out.ok) ?_
 rintro e w2 ⟨room,rfl,v1,ok1,kp1⟩
 have V1:=hid v1
 have H2:=hid (H1.out.next ok1 kp1)
 clear v1 ok1 kp1 H1
 have J2:=hid (show RGo w (w2.alloc (.cells #[.string name,.int .i64 ((room:Nat):Int),.string ⟨#[]⟩] 34)) g _ w2.heap.size 34 _ from ⟨H2.out.ok.alloc _,(H2.out.alloc _).keep,heap_alloc_new w2 _,Nat.lt_of_lt_of_le hgl H2.out.keep.size,H2.out.keep.size⟩)
 have K2:=hid (H2.out.alloc (.cells #[.string name,.int .i64 ((room:Nat):Int),.string ⟨#[]⟩] 34))
 have hne:w.heap.size≠w2.heap.size:=Nat.ne_of_lt H2.out.blk.lt
 clear H2
 generalize hJ:w2.heap.size=J at J2 hne
 have HJ:=hid hJ
 clear hJ
 go_wp2_with fail
 rw [HJ.out]
 refine Calls.mono (qC g _ _ J2.out.ok) ?_
 rintro e w3 ⟨zone,rfl,v2,ok2,kp2⟩
 have V2:=hid v2
 have Ja:=J2.out.next ok2 kp2
 have Ka:=K2.out.next ok2 kp2
 have z2:w3.frozen? ⟨J,2,none⟩=false:=Ja.blk.thaw 2
 have x2:w3.cell? ⟨J,2,none⟩=some (.string ⟨#[]⟩):=Ja.blk.cell 2
 have J3:=hid (Ja.set 2 (.string zone))
 have K3:=hid (Ka.other Ja hne 2 (.string zone))
 obtain⟨y0,y1⟩:=Blk.c2 (Ja.blk)
 have u0:w3.frozen? ⟨w.heap.size,0,none⟩=false:=Ka.blk.thaw 0
 have u1:w3.frozen? ⟨w.heap.size,1,none⟩=false:=Ka.blk.thaw 1
 have u2:w3.frozen? ⟨w.heap.size,2,none⟩=false:=Ka.blk.thaw 2
 have s0:w3.cell? ⟨w.heap.size,0,none⟩=some (.string ⟨#[]⟩):=Ka.blk.cell 0
 have s1:w3.cell? ⟨w.heap.size,1,none⟩=some (.int .i64 0):=Ka.blk.cell 1
 have s2:w3.cell? ⟨w.heap.size,2,none⟩=some (.string ⟨#[]⟩):=Ka.blk.cell 2
 clear Ja Ka v2 ok2 kp2 J2 K2
 have Q:=(((K3.out.set 0 (.string name)).set 1 (.int .i64 ((room:Nat):Int))).set 2 (.string zone))
 have q0:=(show _=(some (.string name):Option Value) from Q.blk.cell 0)
 have q1:=(show _=(some (.int .i64 ((room:Nat):Int)):Option Value) from Q.blk.cell 1)
 have q2:=(show _=(some (.string zone):Option Value) from Q.blk.cell 2)
 have Hok:=hid Q.ok
 have Hkp:=hid Q.keep
 clear Q
 go_wp2
 refine bodyPost_ret (v:=.agg #[.string name,.int .i64 ((room:Nat):Int),.string zone]) (by simp [results,Tryz.results283,go_sem, *]) rfl ?_
 exact⟨⟨name,room,zone⟩,rfl,(Hj.out name room zone V0.out V1.out V2.out).1,by rw [(Hj.out name room zone V0.out V1.out V2.out).2]; exact Hok.out,Hkp.out⟩
theorem zu {σ:RR Unit} {job:ByteArray} {node:ByteArray} {till:Nat} (e0:kF (σ.bind fun _ s=>cV s) (fun x=>x=⟨#[]⟩) job) (e1:kF ((σ.bind fun _ s=>cV s).st.bind fun _ s=>cV s) (fun x=>x=⟨#[]⟩) node) (e2:kF (((σ.bind fun _ s=>cV s).st.bind fun _ s=>cV s).st.bind fun _ s=>eT s) (fun x=>x=0) till) :
 kF (σ.bind fun _ s=>oH s) (fun _=>True) (⟨job,node,till⟩:ak)∧(σ.bind fun _ s=>oH s).st=(((σ.bind fun _ s=>cV s).st.bind fun _ s=>cV s).st.bind fun _ s=>eT s).st:=by
 cases σ with
 | bad x=>exact⟨trivial,rfl⟩
 | ok u s=>
  unfold oH
  simp only [RR.bind_ok] at *
  rcases q0:cV s with ⟨b0,r0⟩ | x
  rotate_left
  · simp only [q0,RR.st,RR.gG,RR.bind_ok] at *; first | exact⟨trivial,rfl⟩ | exact⟨trivial,trivial⟩
  simp only [q0,RR.st,RR.bind_ok] at *
  have t0:job=b0:=e0
  subst t0
  rcases q1:cV r0 with ⟨b1,r1⟩ | x
  rotate_left
  · simp only [q1,RR.st,RR.gG,RR.bind_ok] at *; first | exact⟨trivial,rfl⟩ | exact⟨trivial,trivial⟩
  simp only [q1,RR.st,RR.bind_ok] at *
  have t1:node=b1:=e1
  subst t1
  rcases q2:eT r1 with ⟨b2,r2⟩ | x
  rotate_left
  · simp only [q2,RR.st,RR.gG,RR.bind_ok] at *; first | exact⟨trivial,rfl⟩ | exact⟨trivial,trivial⟩
  simp only [q2,RR.st,RR.bind_ok] at *
  have t2:till=b2:=e2
  subst t2
  first | exact⟨rfl,rfl⟩ | exact⟨rfl,trivial⟩
theorem JL (g:Nat) (σ:RR Unit) (w:World) (h:fu w g σ) :
 Calls Tryz.prog 288 #[.pointer (some ⟨g,0,none⟩)] w (tq g (σ.bind fun _ s=>oH s) (fun x:ak=>.agg (av x).toArray) (fun _=>True) w):=by
 have Hj:=hid (fun job node till=>zu (σ:=σ) (job:=job) (node:=node) (till:=till))
 have H0:=hid (RGo.start h 36 #[.string ⟨#[]⟩,.string ⟨#[]⟩,.int .i64 0])
 have hgl:=h.at_.lt
 clear h
 go_enter Tryz.func288,Tryz.ntmps288
 go_wp2_with fail
 refine Calls.mono (qC g _ _ H0.out.ok) ?_
 rintro e w1 ⟨job,rfl,v0,ok0,kp0⟩
 have V0:=hid v0
 have H1:=hid (H0.out.next ok0 kp0)
 clear v0 ok0 kp0 H0
 go_wp2_with fail
 refine Calls.mono (qC g _ _ H1.out.ok) ?_
 rintro e w2 ⟨node,rfl,v1,ok1,kp1⟩
 have V1:=hid v1
 have H2:=hid (H1.out.next ok1 kp1)
 clear v1 ok1 kp1 H1
 go_wp2_with fail
 refine Calls.mono (mY g _ _ H2.out.ok) ?_
 rintro e w3 ⟨till,rfl,v2,ok2,kp2⟩
 have V2:=hid v2
 have H3:=hid (H2.out.next ok2 kp2)
 clear v2 ok2 kp2 H2
 have u0:w3.frozen? ⟨w.heap.size,0,none⟩=false:=H3.out.blk.thaw 0
 have u1:w3.frozen? ⟨w.heap.size,1,none⟩=false:=H3.out.blk.thaw 1
 have u2:w3.frozen? ⟨w.heap.size,2,none⟩=false:=H3.out.blk.thaw 2
 have s0:w3.cell? ⟨w.heap.size,0,none⟩=some (.string ⟨#[]⟩):=H3.out.blk.cell 0
 have s1:w3.cell? ⟨w.heap.size,1,none⟩=some (.string ⟨#[]⟩):=H3.out.blk.cell 1
 have s2:w3.cell? ⟨w.heap.size,2,none⟩=some (.int .i64 0):=H3.out.blk.cell 2
 have hRl:w.heap.size<w3.heap.size:=H3.out.blk.lt
 have Q:=(((H3.out.set 0 (.string job)).set 1 (.string node)).set 2 (.int .i64 ((till:Nat):Int)))
 have q0:=(show _=(some (.string job):Option Value) from Q.blk.cell 0)
 have q1:=(show _=(some (.string node):Option Value) from Q.blk.cell 1)
 have q2:=(show _=(some (.int .i64 ((till:Nat):Int)):Option Value) from Q.blk.cell 2)
 have Hok:=hid Q.ok
 have Hkp:=hid Q.keep
 clear Q
 go_wp2
 refine bodyPost_ret (v:=.agg #[.string job,.string node,.int .i64 ((till:Nat):Int)]) (by simp [results,Tryz.results288,go_sem, *]) rfl ?_
 exact⟨⟨job,node,till⟩,rfl,(Hj.out job node till V0.out V1.out V2.out).1,by rw [(Hj.out job node till V0.out V1.out V2.out).2]; exact Hok.out,Hkp.out⟩
end Go.Proofs.YtbllgmociapjeaaGreatDoor
