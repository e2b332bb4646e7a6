/- Of the proof of a statement: Rdr, RdRow. -/
import Derived.Test.YtcpgnjmaampglaaGreatDoorWCopyK
set_option linter.unusedVariables false
set_option linter.unusedSimpArgs false
set_option maxRecDepth 100000
set_option maxHeartbeats 8000000
/- The walks of a Reader. -/
namespace Go.Proofs.YtcpgnjmaampglaaGreatDoor
open Go.Lib (hid)
open Go.RowKit
def oL (w:World) (g:Nat) (s:ByteArray) (e:Nat):Prop:=Blk w g 79 #[.string s,.int .i64 (e:Int)]
def RxS (w:World) (g:Nat) (σ:RR Unit):Prop:=match σ with
 | .ok _ s=>oL w g s 0
 | .bad e=>∃ s,s.size≤9223372036854775807∧oL w g s e
def xJ:Nat:=9223372036854775807
def Dc {α:Type} (g:Nat) (res:RR α) (enc:α→Value) (Z:α→Prop) (w:World) (e:Ending) (w':World):Prop:=
 ∃ a,e = .returned (enc a)∧eY res Z a∧RxS w' g res.st∧w.grownBy w' (some g)
theorem gF (w:World) (g:Nat):w.grownBy w (some g):=⟨rfl,rfl,rfl,Nat.le_refl _,fun _ _ _=>rfl⟩
theorem aM {w w' w'':World} {g:Nat} (h:w.grownBy w' (some g)) (h':w'.grownBy w'' (some g)):w.grownBy w'' (some g):=
 ⟨h'.os.trans h.os,h'.tape.trans h.tape,h'.output.trans h.output,Nat.le_trans h.size h'.size,fun k hk hne=>(h'.block k (Nat.lt_of_lt_of_le hk h.size) hne).trans (h.block k hk hne)⟩
theorem aG {w w':World} (g:Nat) (h:Below w.heap.size w w'):w.grownBy w' (some g):=⟨h.os,h.tape,h.output,h.size,fun k hk _=>h.block k hk⟩
theorem aA {w w':World} {g k:Nat} {t:TypeId} {cs:Array Value} (h:w.grownBy w' (some g)) (hk:Blk w k t cs) (hne:k≠g):Blk w' k t cs:=
 (h.block k hk.lt (by simp; exact hne)).trans hk
theorem oL.set {w:World} {g:Nat} {s:ByteArray} {e:Nat} (h:oL w g s e) (s':ByteArray):oL (w.setCell ⟨g,0,none⟩ (.string s')) g s' e:=Blk.eq (Blk.set h 0 _) (by simp)
theorem oL.err {w:World} {g:Nat} {s:ByteArray} {e:Nat} (h:oL w g s e) (e':Nat):oL (w.setCell ⟨g,1,none⟩ (.int .i64 (e':Int))) g s e':=Blk.eq (Blk.set h 1 _) (by simp)
theorem aC (w:World) (g i:Nat) (v:Value):w.grownBy (w.setCell ⟨g,i,none⟩ v) (some g):=aO (gF w g) i v
theorem wK (g:Nat) (s:ByteArray) (e x:Nat) (w:World) (h:oL w g s x) :
 Calls Tryz.prog 89 #[.pointer (some ⟨g,0,none⟩),.int .i64 (e:Int)] w fun en w'=>en = .returned (.tuple #[])∧oL w' g s (if x=0 then e else x)∧w.grownBy w' (some g):=by
 have y1:w.cell? ⟨g,1,none⟩=some (.int .i64 (x:Int)):=Blk.cell h 1
 have z1:w.frozen? ⟨g,1,none⟩=false:=Blk.thaw h 1
 have hgl:=Blk.lt h
 obtain⟨E',hE'⟩:∃ E',(if x=0 then e else x)=E':=⟨_,rfl⟩
 rw [hE']
 by_cases hx:x=0
 · subst hx
   rw [if_pos rfl] at hE'
   subst hE'
   have H:=hid (h.err e)
   clear h
   go_enter Tryz.func89,Tryz.ntmps89
   go_wp2
   go_end0
   exact⟨rfl,H.out,aC _ _ _ _⟩
 · have hne:((x:Int) == 0)=false:=by rw [beq_eq_false_iff_ne]; omega
   rw [if_neg hx] at hE'
   subst hE'
   have H:=hid h
   clear h hx
   go_enter Tryz.func89,Tryz.ntmps89
   go_wp2
   go_end0
   exact⟨rfl,H.out,gF _ _⟩
theorem EW (g:Nat) (σ:RR Unit) (w:World) (h:RxS w g σ) (hσ:σ.Good xJ) :
 Calls Tryz.prog 88 #[.pointer (some ⟨g,0,none⟩)] w (Dc g (σ.bind fun _ s=>bZ s) (fun n:Nat=>.int .u64 n) (fun n=>n=0) w):=by
 cases σ with
 | bad x=>
  obtain⟨s,hs,hA⟩:=h
  have y1:w.cell? ⟨g,1,none⟩=some (.int .i64 (x:Int)):=Blk.cell hA 1
  have hne:((x:Int) != 0)=true:=by rw [bne_iff_ne]; have:=hσ.1; omega
  have hA':=hid hA
  clear hA
  go_enter Tryz.func88,Tryz.ntmps88
  go_wp2
  go_ret
  exact⟨0,rfl,rfl,⟨s,hs,hA'.out⟩,gF _ _⟩
 | ok u s=>
  have hA:oL w g s 0:=h
  have hs:s.size≤9223372036854775807:=hσ
  have y0:w.cell? ⟨g,0,none⟩=some (.string s):=Blk.cell hA 0
  have y1:w.cell? ⟨g,1,none⟩=some (.int .i64 0):=Blk.cell hA 1
  have z0:w.frozen? ⟨g,0,none⟩=false:=Blk.thaw hA 0
  rcases hr:rdNum s with ⟨a,k,e⟩
  have hf:=jG hr
  have HA:=hid hA
  have HR:=hid (rF hr w hs)
  by_cases he:e=0
  · subst he
    have hk:=(hf.2.2.2 rfl).2
    by_cases hl:4611686018427387904<a
    · have hres:=hid (yH hr hl)
      have hd:decide ((4611686018427387904:Int)<(a:Int))=true:=decide_eq_true (by omega)
      clear hA h hr
      go_enter Tryz.func88,Tryz.ntmps88
      go_wp2_with fail
      refine Calls.mono HR.out ?_
      rintro e w1 ⟨rfl,rfl⟩
      go_wp2_with fail
      refine Calls.mono (wK g s 2 0 _ HA.out) ?_
      rintro e w1 ⟨rfl,hA2,hg2⟩
      go_wp2
      go_ret
      exact⟨0,rfl,by rw [RR.bind_ok,hres.out]; rfl,by rw [RR.bind_ok,hres.out]; exact⟨s,hs,hA2⟩,hg2⟩
    · have hres:=hid (Cm hr hl)
      have hd:decide ((4611686018427387904:Int)<(a:Int))=false:=decide_eq_false (by omega)
      clear hA h hr
      go_enter Tryz.func88,Tryz.ntmps88
      go_wp2_with fail
      refine Calls.mono HR.out ?_
      rintro e w1 ⟨rfl,rfl⟩
      go_wp2
      go_ret
      exact⟨a,rfl,by rw [RR.bind_ok,hres.out]; rfl,by rw [RR.bind_ok,hres.out]; exact HA.out.set _,aC _ _ _ _⟩
  · have hres:=hid (Du hr he)
    have hne:((e:Int) == 0)=false:=by rw [beq_eq_false_iff_ne]; omega
    have hne2:((e:Int) != 0)=true:=by rw [bne_iff_ne]; omega
    clear hA h hr
    go_enter Tryz.func88,Tryz.ntmps88
    go_wp2_with fail
    refine Calls.mono HR.out ?_
    rintro e' w1 ⟨rfl,rfl⟩
    go_wp2_with fail
    refine Calls.mono (wK g s e 0 _ HA.out) ?_
    rintro e' w1 ⟨rfl,hA2,hg2⟩
    go_wp2
    go_ret
    exact⟨0,rfl,by rw [RR.bind_ok,hres.out]; rfl,by rw [RR.bind_ok,hres.out]; exact⟨s,hs,hA2⟩,hg2⟩
theorem Ar {σ:RR Unit} {a:Nat} (h:eY (σ.bind fun _ s=>bZ s) (fun n=>n=0) a):a≤4611686018427387904:=by
 cases σ with
 | bad x=>rw [RR.iE] at h; have h:a=0:=h; omega
 | ok u s=>
  rw [RR.bind_ok] at h
  cases hp:bZ s with
  | bad x=>rw [hp] at h; have h:a=0:=h; omega
  | ok b r=>rw [hp] at h; have h:a=b:=h; have:=Nb hp; omega
theorem Mp (g:Nat) (σ:RR Unit) (w:World) (h:RxS w g σ) (hσ:σ.Good xJ) :
 Calls Tryz.prog 25 #[.pointer (some ⟨g,0,none⟩)] w (Dc g (σ.bind fun _ s=>bZ s) (fun n:Nat=>.int .i64 n) (fun n=>n=0) w):=by
 have H:=hid (EW g σ w h hσ)
 clear h
 go_enter Tryz.func25,Tryz.ntmps25
 go_wp2_with fail
 refine Calls.mono H.out ?_
 rintro e w1 ⟨a,rfl,hv,hs,hg⟩
 have hle:=Ar hv
 have Hv:=hid hv
 clear hv
 go_wp2
 go_ret
 exact⟨a,rfl,Hv.out,hs,hg⟩
theorem Mq (g:Nat) (σ:RR Unit) (w:World) (h:RxS w g σ) (hσ:σ.Good xJ) :
 Calls Tryz.prog 91 #[.pointer (some ⟨g,0,none⟩)] w (Dc g (σ.bind fun _ s=>bZ s) (fun n:Nat=>.int .i64 (lO n)) (fun n=>n=0) w):=by
 have H:=hid (EW g σ w h hσ)
 clear h
 go_enter Tryz.func91,Tryz.ntmps91
 go_wp2_with fail
 refine Calls.mono H.out ?_
 rintro e w1 ⟨a,rfl,hv,hs,hg⟩
 have hle:=Ar hv
 have Hv:=hid hv
 clear hv
 go_wp2_with fail
 refine Calls.mono (N2 (a:Int) (by omega) (by omega) w1) ?_
 rintro e w2 ⟨rfl,rfl⟩
 go_wp2
 go_ret
 exact⟨a,rfl,Hv.out,hs,hg⟩
theorem Qn (g:Nat) (σ:RR Unit) (w:World) (h:RxS w g σ) (hσ:σ.Good xJ) (hT:Tabs w) :
 Calls Tryz.prog 90 #[.pointer (some ⟨g,0,none⟩)] w (Dc g (σ.bind fun _ s=>bP s) (fun t=>.string t) (fun t=>t=⟨#[]⟩) w):=by
 cases σ with
 | bad x=>
  obtain⟨s,hs,hA⟩:=h
  have y1:w.cell? ⟨g,1,none⟩=some (.int .i64 (x:Int)):=Blk.cell hA 1
  have hne:((x:Int) != 0)=true:=by rw [bne_iff_ne]; have:=hσ.1; omega
  have hA':=hid hA
  clear hA
  go_enter Tryz.func90,Tryz.ntmps90
  go_wp2
  go_ret
  exact⟨⟨#[]⟩,rfl,rfl,⟨s,hs,hA'.out⟩,gF _ _⟩
 | ok u s=>
  have hA:oL w g s 0:=h
  have hs:s.size≤9223372036854775807:=hσ
  have y0:w.cell? ⟨g,0,none⟩=some (.string s):=Blk.cell hA 0
  have y1:w.cell? ⟨g,1,none⟩=some (.int .i64 0):=Blk.cell hA 1
  have hgl:=Blk.lt hA
  rcases hr:mh s with ⟨t,k,e⟩
  have hf:=sH hr
  have HA:=hid hA
  have hR:=Cq s w hs hT
  unfold mo at hR
  rw [hr] at hR
  have HR:=hid hR
  clear hR hT h
  by_cases he:e=0
  · subst he
    have hk:=hf.2.2 rfl
    have hres:=hid (tP hr)
    clear hA hr hf
    go_enter Tryz.func90,Tryz.ntmps90
    go_wp2_with fail
    refine Calls.mono HR.out ?_
    rintro e w1 ⟨rfl,hb1⟩
    have hA1:oL w1 g s 0:=Blk.below HA.out hb1 HA.out.lt
    have x0:w1.cell? ⟨g,0,none⟩=some (.string s):=Blk.cell hA1 0
    have z0:w1.frozen? ⟨g,0,none⟩=false:=Blk.thaw hA1 0
    have HA1:=hid hA1
    have Hb1:=hid hb1
    clear hA1 hb1 y0 y1
    go_wp2
    go_ret
    exact⟨t,rfl,by rw [RR.bind_ok,hres.out]; rfl,by rw [RR.bind_ok,hres.out]; exact HA1.out.set _,aM (aG g Hb1.out) (aC _ _ _ _)⟩
  · have hres:=hid (vw hr he)
    have hne2:((e:Int) != 0)=true:=by rw [bne_iff_ne]; omega
    clear hA hr hf
    go_enter Tryz.func90,Tryz.ntmps90
    go_wp2_with fail
    refine Calls.mono HR.out ?_
    rintro e' w1 ⟨rfl,hb1⟩
    have hA1:oL w1 g s 0:=Blk.below HA.out hb1 HA.out.lt
    have HA1:=hid hA1
    have Hb1:=hid hb1
    clear hA1 hb1 y0 y1
    go_wp2_with fail
    refine Calls.mono (wK g s e 0 _ HA1.out) ?_
    rintro e' w2 ⟨rfl,hA2,hg2⟩
    go_wp2
    go_ret
    exact⟨⟨#[]⟩,rfl,by rw [RR.bind_ok,hres.out]; rfl,by rw [RR.bind_ok,hres.out]; exact⟨s,hs,hA2⟩,aM (aG g Hb1.out) hg2⟩
theorem Tabs.grow {w w':World} {b:Nat} (h:Tabs w) (h3:ren.g 3≠b) (h4:ren.g 4≠b) (hg:w.grownBy w' (some b)):Tabs w':=by
 have cell:∀ {a:Addr} {v:Value},a.block≠b→w.cell? a=some v→w'.cell? a=some v:=fun {a v} hne hc=>by
  have hlt:a.block<w.heap.size:=by
   rcases Nat.lt_or_ge a.block w.heap.size with h' | h'
   · exact h'
   · simp [World.cell?,Array.getElem?_eq_none h'] at hc
  have:=hg.block a.block hlt (by simp; exact hne)
  rw [← hc]
  unfold World.cell?
  rw [this]
 exact⟨fun c hc=>cell h3 (h.1 c hc),fun i hi=>⟨cell h4 (h.2 i hi).1,cell h4 (h.2 i hi).2⟩⟩
theorem Tabs.lts {w:World} (h:Tabs w):ren.g 3<w.heap.size∧ren.g 4<w.heap.size:=by
 have lt:∀ {a:Addr} {v:Value},w.cell? a=some v→a.block<w.heap.size:=fun {a v} hc=>by
  rcases Nat.lt_or_ge a.block w.heap.size with h' | h'
  · exact h'
  · simp [World.cell?,Array.getElem?_eq_none h'] at hc
 exact⟨lt (h.1 0 (by decide)),lt (h.2 0 (by decide)).1⟩
theorem RxS.grow {w w':World} {g b:Nat} {σ:RR Unit} (h:RxS w g σ) (hg:w.grownBy w' (some b)) (hne:g≠b):RxS w' g σ:=by
 cases σ with
 | ok u s=>exact aA hg h hne
 | bad x=>obtain⟨s,h1,h2⟩:=h; exact⟨s,h1,aA hg h2 hne⟩
theorem RxS.lt {w:World} {g:Nat} {σ:RR Unit} (h:RxS w g σ):g<w.heap.size:=by
 cases σ with
 | ok u s=>exact Blk.lt h
 | bad x=>obtain⟨s,h1,h2⟩:=h; exact Blk.lt h2
structure eS (w:World) (g:Nat) (σ:RR Unit):Prop where
 at_:RxS w g σ
 good:σ.Good xJ
 tabs:Tabs w
 n3:ren.g 3<g
 n4:ren.g 4<g
theorem eS.next {w w':World} {g:Nat} {σ σ':RR Unit} (h:eS w g σ) (hs:RxS w' g σ') (hgd:σ'.Good xJ) (hg:w.grownBy w' (some g)):eS w' g σ':=
 ⟨hs,hgd,h.tabs.grow (Nat.ne_of_lt h.n3) (Nat.ne_of_lt h.n4) hg,h.n3,h.n4⟩
theorem eS.grow {w w':World} {g b:Nat} {σ:RR Unit} (h:eS w g σ) (hg:w.grownBy w' (some b)) (hb:g<b):eS w' g σ:=
 ⟨h.at_.grow hg (Nat.ne_of_lt hb),h.good,h.tabs.grow (by have:=h.n3; omega) (by have:=h.n4; omega) hg,h.n3,h.n4⟩
theorem eS.alloc {w:World} {g:Nat} {σ:RR Unit} (h:eS w g σ) (o:Obj):eS (w.alloc o) g σ:=
 h.grow (b:=w.heap.size) (aG _ ((Below.refl _ _).alloc (Nat.le_refl _) _)) h.at_.lt
theorem eS.set {w:World} {g:Nat} {σ:RR Unit} (h:eS w g σ) (b i:Nat) (v:Value) (hb:g<b):eS (w.setCell ⟨b,i,none⟩ v) g σ:=
 h.grow (aC w b i v) hb
def kV {α:Type} (g:Nat) (res:RR α) (enc:α→Value) (Z:α→Prop) (w:World) (e:Ending) (w':World):Prop:=
 ∃ a,e = .returned (enc a)∧eY res Z a∧eS w' g res.st∧w.grownBy w' (some g)
theorem Dd {α:Type} {N:Nat} {σ:RR Unit} {p:ByteArray→RR α} (h:σ.Good N) (hp:∀ s,s.size≤N→(p s).Good N):(σ.bind fun _ s=>p s).st.Good N:=
 (h.bind fun _ r hr=>hp r hr).st
theorem jS (g:Nat) (σ:RR Unit) (w:World) (h:eS w g σ) :
 Calls Tryz.prog 25 #[.pointer (some ⟨g,0,none⟩)] w (kV g (σ.bind fun _ s=>bZ s) (fun n:Nat=>.int .i64 n) (fun n=>n=0) w):=by
 refine Calls.mono (Mp g σ w h.at_ h.good) ?_
 rintro e w' ⟨a,he,hv,hs,hg⟩
 exact⟨a,he,hv,h.next hs (Dd h.good fun _=>Bg) hg,hg⟩
theorem EX (g:Nat) (σ:RR Unit) (w:World) (h:eS w g σ) :
 Calls Tryz.prog 91 #[.pointer (some ⟨g,0,none⟩)] w (kV g (σ.bind fun _ s=>bZ s) (fun n:Nat=>.int .i64 (lO n)) (fun n=>n=0) w):=by
 refine Calls.mono (Mq g σ w h.at_ h.good) ?_
 rintro e w' ⟨a,he,hv,hs,hg⟩
 exact⟨a,he,hv,h.next hs (Dd h.good fun _=>Bg) hg,hg⟩
theorem rE (g:Nat) (σ:RR Unit) (w:World) (h:eS w g σ) :
 Calls Tryz.prog 90 #[.pointer (some ⟨g,0,none⟩)] w (kV g (σ.bind fun _ s=>bP s) (fun t=>.string t) (fun t=>t=⟨#[]⟩) w):=by
 refine Calls.mono (Qn g σ w h.at_ h.good h.tabs) ?_
 rintro e w' ⟨a,he,hv,hs,hg⟩
 exact⟨a,he,hv,h.next hs (Dd h.good fun _=>Fp) hg,hg⟩
theorem As {w w' w'':World} {g b:Nat} (h:w.grownBy w' (some g)) (hg:w'.grownBy w'' (some b)) (hb:w.heap.size≤b):w.grownBy w'' (some g):=
 ⟨hg.os.trans h.os,hg.tape.trans h.tape,hg.output.trans h.output,Nat.le_trans h.size hg.size,fun k hk hne=>(hg.block k (Nat.lt_of_lt_of_le hk h.size) (by simp; omega)).trans (h.block k hk hne)⟩
structure RGo (w0 w:World) (g:Nat) (σ:RR Unit) (R:Nat) (t:TypeId) (cs:Array Value):Prop where
 ok:eS w g σ
 keep:w0.grownBy w (some g)
 blk:Blk w R t cs
 gt:g<R
 new:w0.heap.size≤R
theorem RGo.start {w:World} {g:Nat} {σ:RR Unit} (h:eS w g σ) (t:TypeId) (cs:Array Value):RGo w (w.alloc (.cells cs t)) g σ w.heap.size t cs:=
 ⟨h.alloc _,aG _ ((Below.refl _ _).alloc (Nat.le_refl _) _),heap_alloc_new w _,h.at_.lt,Nat.le_refl _⟩
theorem RGo.next {w0 w w':World} {g R:Nat} {σ σ':RR Unit} {t:TypeId} {cs:Array Value} (h:RGo w0 w g σ R t cs) (hok:eS w' g σ') (hg:w.grownBy w' (some g)):RGo w0 w' g σ' R t cs:=
 ⟨hok,aM h.keep hg,aA hg h.blk (Nat.ne_of_gt h.gt),h.gt,h.new⟩
theorem RGo.alloc {w0 w:World} {g R:Nat} {σ:RR Unit} {t:TypeId} {cs:Array Value} (h:RGo w0 w g σ R t cs) (o:Obj):RGo w0 (w.alloc o) g σ R t cs:=
 ⟨h.ok.alloc _,aM h.keep (aG _ ((Below.refl _ _).alloc (Nat.le_refl _) _)),h.blk.alloc _,h.gt,h.new⟩
theorem RGo.set {w0 w:World} {g R:Nat} {σ:RR Unit} {t:TypeId} {cs:Array Value} (h:RGo w0 w g σ R t cs) (i:Nat) (v:Value):RGo w0 (w.setCell ⟨R,i,none⟩ v) g σ R t (cs.setIfInBounds i v):=
 ⟨h.ok.set _ _ _ h.gt,As h.keep (aC _ _ _ _) h.new,h.blk.set i v,h.gt,h.new⟩
theorem RGo.other {w0 w:World} {g R R':Nat} {σ:RR Unit} {t t':TypeId} {cs cs':Array Value} (h:RGo w0 w g σ R t cs) (h':RGo w0 w g σ R' t' cs') (hne:R≠R') (i:Nat) (v:Value):RGo w0 (w.setCell ⟨R',i,none⟩ v) g σ R t cs:=
 ⟨h.ok.set _ _ _ h'.gt,As h.keep (aC _ _ _ _) h'.new,aA (aC _ _ _ _) h.blk hne,h.gt,h.new⟩
theorem kA :
 (∀ {σ:RR Unit} {v:Int} (h1:¬ 1<v) (h2:¬ 2<v) {name:ByteArray} {prio:Nat} {need:Nat} (e0:eY (σ.bind fun _ s=>bP s) (fun x=>x=⟨#[]⟩) name) (e1:eY ((σ.bind fun _ s=>bP s).st.bind fun _ s=>bZ s) (fun x=>x=0) prio) (e2:eY (((σ.bind fun _ s=>bP s).st.bind fun _ s=>bZ s).st.bind fun _ s=>bZ s) (fun x=>x=0) need),eY (σ.bind fun _ s=>iR v s) (fun _=>True) (⟨name,lO prio,need,0,⟨#[]⟩⟩:aB)∧(σ.bind fun _ s=>iR v s).st=(((σ.bind fun _ s=>bP s).st.bind fun _ s=>bZ s).st.bind fun _ s=>bZ s).st) ∧
 (∀ {σ:RR Unit} {v:Int} (h1:1<v) (h2:¬ 2<v) {name:ByteArray} {prio:Nat} {need:Nat} {tries:Nat} (e0:eY (σ.bind fun _ s=>bP s) (fun x=>x=⟨#[]⟩) name) (e1:eY ((σ.bind fun _ s=>bP s).st.bind fun _ s=>bZ s) (fun x=>x=0) prio) (e2:eY (((σ.bind fun _ s=>bP s).st.bind fun _ s=>bZ s).st.bind fun _ s=>bZ s) (fun x=>x=0) need) (e3:eY ((((σ.bind fun _ s=>bP s).st.bind fun _ s=>bZ s).st.bind fun _ s=>bZ s).st.bind fun _ s=>bZ s) (fun x=>x=0) tries),eY (σ.bind fun _ s=>iR v s) (fun _=>True) (⟨name,lO prio,need,tries,⟨#[]⟩⟩:aB)∧(σ.bind fun _ s=>iR v s).st=((((σ.bind fun _ s=>bP s).st.bind fun _ s=>bZ s).st.bind fun _ s=>bZ s).st.bind fun _ s=>bZ s).st) ∧
 (∀ {σ:RR Unit} {v:Int} (h1:1<v) (h2:2<v) {name:ByteArray} {prio:Nat} {need:Nat} {tries:Nat} {tag:ByteArray} (e0:eY (σ.bind fun _ s=>bP s) (fun x=>x=⟨#[]⟩) name) (e1:eY ((σ.bind fun _ s=>bP s).st.bind fun _ s=>bZ s) (fun x=>x=0) prio) (e2:eY (((σ.bind fun _ s=>bP s).st.bind fun _ s=>bZ s).st.bind fun _ s=>bZ s) (fun x=>x=0) need) (e3:eY ((((σ.bind fun _ s=>bP s).st.bind fun _ s=>bZ s).st.bind fun _ s=>bZ s).st.bind fun _ s=>bZ s) (fun x=>x=0) tries) (e4:eY (((((σ.bind fun _ s=>bP s).st.bind fun _ s=>bZ s).st.bind fun _ s=>bZ s).st.bind fun _ s=>bZ s).st.bind fun _ s=>bP s) (fun x=>x=⟨#[]⟩) tag),eY (σ.bind fun _ s=>iR v s) (fun _=>True) (⟨name,lO prio,need,tries,tag⟩:aB)∧(σ.bind fun _ s=>iR v s).st=(((((σ.bind fun _ s=>bP s).st.bind fun _ s=>bZ s).st.bind fun _ s=>bZ s).st.bind fun _ s=>bZ s).st.bind fun _ s=>bP s).st) ∧
 (∀ {σ:RR Unit} {v:Int} (h1:1<v) {name:ByteArray} {room:Nat} {zone:ByteArray} (e0:eY (σ.bind fun _ s=>bP s) (fun x=>x=⟨#[]⟩) name) (e1:eY ((σ.bind fun _ s=>bP s).st.bind fun _ s=>bZ s) (fun x=>x=0) room) (e2:eY (((σ.bind fun _ s=>bP s).st.bind fun _ s=>bZ s).st.bind fun _ s=>bP s) (fun x=>x=⟨#[]⟩) zone),eY (σ.bind fun _ s=>gy v s) (fun _=>True) (⟨name,room,zone⟩:av)∧(σ.bind fun _ s=>gy v s).st=(((σ.bind fun _ s=>bP s).st.bind fun _ s=>bZ s).st.bind fun _ s=>bP s).st) ∧
 (∀ {σ:RR Unit} {job:ByteArray} {node:ByteArray} {till:Nat} (e0:eY (σ.bind fun _ s=>bP s) (fun x=>x=⟨#[]⟩) job) (e1:eY ((σ.bind fun _ s=>bP s).st.bind fun _ s=>bP s) (fun x=>x=⟨#[]⟩) node) (e2:eY (((σ.bind fun _ s=>bP s).st.bind fun _ s=>bP s).st.bind fun _ s=>bZ s) (fun x=>x=0) till),eY (σ.bind fun _ s=>gE s) (fun _=>True) (⟨job,node,till⟩:ak)∧(σ.bind fun _ s=>gE s).st=(((σ.bind fun _ s=>bP s).st.bind fun _ s=>bP s).st.bind fun _ s=>bZ s).st):=by
 refine⟨@fun σ v h1 h2 name prio need e0 e1 e2=>(fun(jM2:Unit)=>?_) (),@fun σ v h1 h2 name prio need tries e0 e1 e2 e3=>(fun(jM3:Unit)=>?_) (),@fun σ v h1 h2 name prio need tries tag e0 e1 e2 e3 e4=>(fun(jM4:Unit)=>?_) (),@fun σ v h1 name room zone e0 e1 e2=>(fun(jM0:Unit)=>?_) (),@fun σ job node till e0 e1 e2=>(fun(jM1:Unit)=>?_) ()⟩<;>(
 cases σ with
 | bad x=>exact⟨trivial,rfl⟩
 | ok u s=>
  first|(guard_hyp jM0;unfold gy)|(guard_hyp jM1;unfold gE)|unfold iR
  first
   |(
    guard_hyp jM2
    simp only [if_neg h1]; simp only [if_neg h2])
   |(
    guard_hyp jM3
    simp only [if_pos h1]; simp only [if_neg h2])
   |(
    guard_hyp jM4
    simp only [if_pos h1]; simp only [if_pos h2])
   |(
    guard_hyp jM0
    simp only [if_pos h1])
   |skip
  simp only [RR.bind_ok] at *
  rcases q0:bP s with ⟨b0,r0⟩ | x
  rotate_left
  · simp only [q0,RR.st,RR.iE,RR.bind_ok] at *; first | exact⟨trivial,rfl⟩ | exact⟨trivial,trivial⟩
  simp only [q0,RR.st,RR.bind_ok] at *
  first|(guard_hyp jM1;have t0:job=b0:=e0)|have t0:name=b0:=e0
  subst t0
  first|(guard_hyp jM1;rcases q1:bP r0 with ⟨b1,r1⟩ | x)|rcases q1:bZ r0 with ⟨b1,r1⟩ | x
  rotate_left
  · simp only [q1,RR.st,RR.iE,RR.bind_ok] at *; first | exact⟨trivial,rfl⟩ | exact⟨trivial,trivial⟩
  simp only [q1,RR.st,RR.bind_ok] at *
  first|(guard_hyp jM0;have t1:room=b1:=e1)|(guard_hyp jM1;have t1:node=b1:=e1)|have t1:prio=b1:=e1
  subst t1
  first|(guard_hyp jM0;rcases q2:bP r1 with ⟨b2,r2⟩ | x)|rcases q2:bZ r1 with ⟨b2,r2⟩ | x
  rotate_left
  · simp only [q2,RR.st,RR.iE,RR.bind_ok] at *; first | exact⟨trivial,rfl⟩ | exact⟨trivial,trivial⟩
  simp only [q2,RR.st,RR.bind_ok] at *
  first|(guard_hyp jM0;have t2:zone=b2:=e2)|(guard_hyp jM1;have t2:till=b2:=e2)|have t2:need=b2:=e2
  subst t2
  first
   |(
    guard_hyp jM3
    rcases q3:bZ r2 with ⟨b3,r3⟩ | x
    rotate_left
    · simp only [q3,RR.st,RR.iE,RR.bind_ok] at *; first | exact⟨trivial,rfl⟩ | exact⟨trivial,trivial⟩
    simp only [q3,RR.st,RR.bind_ok] at *
    have t3:tries=b3:=e3
    subst t3)
   |(
    guard_hyp jM4
    rcases q3:bZ r2 with ⟨b3,r3⟩ | x
    rotate_left
    · simp only [q3,RR.st,RR.iE,RR.bind_ok] at *; first | exact⟨trivial,rfl⟩ | exact⟨trivial,trivial⟩
    simp only [q3,RR.st,RR.bind_ok] at *
    have t3:tries=b3:=e3
    subst t3
    rcases q4:bP r3 with ⟨b4,r4⟩ | x
    rotate_left
    · simp only [q4,RR.st,RR.iE,RR.bind_ok] at *; first | exact⟨trivial,rfl⟩ | exact⟨trivial,trivial⟩
    simp only [q4,RR.st,RR.bind_ok] at *
    have t4:tag=b4:=e4
    subst t4)
   |skip
  first | exact⟨rfl,rfl⟩ | exact⟨rfl,trivial⟩)
theorem Ov (g:Nat) (σ:RR Unit) (v:Int) (w:World) (h1:¬ 1<v) (h2:¬ 2<v) (h:eS w g σ) :
 Calls Tryz.prog 28 #[.pointer (some ⟨g,0,none⟩),.int .i64 v] w (kV g (σ.bind fun _ s=>iR v s) (fun x:aB=>.agg (aH x).toArray) (fun _=>True) w):=by
 have d1:decide (1<v)=false:=decide_eq_false h1
 have d2:decide (2<v)=false:=decide_eq_false h2
 have Hj:=hid (fun name prio need=>kA.1 (σ:=σ) (v:=v) h1 h2 (name:=name) (prio:=prio) (need:=need))
 have H0:=hid (RGo.start h 59 #[.string ⟨#[]⟩,.int .i64 0,.int .i64 0,.int .i64 0,.string ⟨#[]⟩])
 have hgl:=h.at_.lt
 clear h h1 h2
 go_enter Tryz.func28,Tryz.ntmps28
 go_wp2_with fail
 refine Calls.mono (rE g _ _ H0.out.ok) ?_
 rintro e w1 ⟨name,rfl,v0,ok0,kp0⟩
 have V0:=hid v0
 have H1:=hid (H0.out.next ok0 kp0)
 clear v0 ok0 kp0 H0
 go_wp2_with fail
 refine Calls.mono (EX g _ _ H1.out.ok) ?_
 rintro e w2 ⟨prio,rfl,v1,ok1,kp1⟩
 have V1:=hid v1
 have H2:=hid (H1.out.next ok1 kp1)
 clear v1 ok1 kp1 H1
 go_wp2_with fail
 refine Calls.mono (jS g _ _ H2.out.ok) ?_
 rintro e w3 ⟨need,rfl,v2,ok2,kp2⟩
 have V2:=hid v2
 have H3:=hid (H2.out.next ok2 kp2)
 clear v2 ok2 kp2 H2
 have u0:w3.frozen? ⟨w.heap.size,0,none⟩=false:=H3.out.blk.thaw 0
 have u1:w3.frozen? ⟨w.heap.size,1,none⟩=false:=H3.out.blk.thaw 1
 have u2:w3.frozen? ⟨w.heap.size,2,none⟩=false:=H3.out.blk.thaw 2
 have u3:w3.frozen? ⟨w.heap.size,3,none⟩=false:=H3.out.blk.thaw 3
 have u4:w3.frozen? ⟨w.heap.size,4,none⟩=false:=H3.out.blk.thaw 4
 obtain⟨s0,s1,s2,s3,s4⟩:=Blk.c5 (H3.out.blk)
 have hRl:w.heap.size<w3.heap.size:=H3.out.blk.lt
 have Q:=((((((H3.out.set 0 (.string name)).set 1 (.int .i64 (lO ((prio:Nat):Int)))).set 2 (.int .i64 ((need:Nat):Int))).set 3 (.int .i64 0)).set 4 (.string ⟨#[]⟩)).alloc (.cells #[.string name,.int .i64 (lO ((prio:Nat):Int)),.int .i64 ((need:Nat):Int),.int .i64 0,.string ⟨#[]⟩] 59))
 have q0:=(show _=(some (.string name):Option Value) from Q.blk.cell 0)
 have q1:=(show _=(some (.int .i64 (lO ((prio:Nat):Int))):Option Value) from Q.blk.cell 1)
 have q2:=(show _=(some (.int .i64 ((need:Nat):Int)):Option Value) from Q.blk.cell 2)
 have q3:=(show _=(some (.int .i64 0):Option Value) from Q.blk.cell 3)
 have q4:=(show _=(some (.string ⟨#[]⟩):Option Value) from Q.blk.cell 4)
 have Hok:=hid Q.ok
 have Hkp:=hid Q.keep
 clear Q
 go_wp2
 refine bodyPost_ret (v:=.agg #[.string name,.int .i64 (lO ((prio:Nat):Int)),.int .i64 ((need:Nat):Int),.int .i64 0,.string ⟨#[]⟩]) (by simp [results,Tryz.results28,go_sem, *]) rfl ?_
 exact⟨⟨name,lO prio,need,0,⟨#[]⟩⟩,rfl,(Hj.out name prio need V0.out V1.out V2.out).1,by rw [(Hj.out name prio need V0.out V1.out V2.out).2]; exact Hok.out,Hkp.out⟩
theorem vK :
 (∀ (g:Nat) (σ:RR Unit) (v:Int) (w:World) (h1:1<v) (h2:¬ 2<v) (h:eS w g σ),Calls Tryz.prog 28 #[.pointer (some ⟨g,0,none⟩),.int .i64 v] w (kV g (σ.bind fun _ s=>iR v s) (fun x:aB=>.agg (aH x).toArray) (fun _=>True) w)) ∧
 (∀ (g:Nat) (σ:RR Unit) (v:Int) (w:World) (h1:1<v) (h2:2<v) (h:eS w g σ),Calls Tryz.prog 28 #[.pointer (some ⟨g,0,none⟩),.int .i64 v] w (kV g (σ.bind fun _ s=>iR v s) (fun x:aB=>.agg (aH x).toArray) (fun _=>True) w)):=by
 refine⟨@fun g σ v w h1 h2 h=>(fun(jM0:Unit)=>?_) (),@fun g σ v w h1 h2 h=>(fun(jM1:Unit)=>?_) ()⟩<;>(
 have d1:decide (1<v)=true:=decide_eq_true h1
 first|(guard_hyp jM0;have d2:decide (2<v)=false:=decide_eq_false h2)|have d2:decide (2<v)=true:=decide_eq_true h2
 first
  |(
   guard_hyp jM0
   have Hj:=hid (fun name prio need tries=>kA.2.1 (σ:=σ) (v:=v) h1 h2 (name:=name) (prio:=prio) (need:=need) (tries:=tries)))
  |(
   guard_hyp jM1
   have Hj:=hid (fun name prio need tries tag=>kA.2.2.1 (σ:=σ) (v:=v) h1 h2 (name:=name) (prio:=prio) (need:=need) (tries:=tries) (tag:=tag)))
 have H0:=hid (RGo.start h 59 #[.string ⟨#[]⟩,.int .i64 0,.int .i64 0,.int .i64 0,.string ⟨#[]⟩])
 have hgl:=h.at_.lt
 clear h h1 h2
 go_enter Tryz.func28,Tryz.ntmps28
 go_wp2_with fail
 refine Calls.mono (rE g _ _ H0.out.ok) ?_
 rintro e w1 ⟨name,rfl,v0,ok0,kp0⟩
 have V0:=hid v0
 have H1:=hid (H0.out.next ok0 kp0)
 clear v0 ok0 kp0 H0
 go_wp2_with fail
 refine Calls.mono (EX g _ _ H1.out.ok) ?_
 rintro e w2 ⟨prio,rfl,v1,ok1,kp1⟩
 have V1:=hid v1
 have H2:=hid (H1.out.next ok1 kp1)
 clear v1 ok1 kp1 H1
 go_wp2_with fail
 refine Calls.mono (jS g _ _ H2.out.ok) ?_
 rintro e w3 ⟨need,rfl,v2,ok2,kp2⟩
 have V2:=hid v2
 have H3:=hid (H2.out.next ok2 kp2)
 clear v2 ok2 kp2 H2
 have J3:=hid (show RGo w (w3.alloc (.cells #[.string name,.int .i64 (lO ((prio:Nat):Int)),.int .i64 ((need:Nat):Int),.int .i64 0,.string ⟨#[]⟩] 59)) g _ w3.heap.size 59 _ from ⟨H3.out.ok.alloc _,(H3.out.alloc _).keep,heap_alloc_new w3 _,Nat.lt_of_lt_of_le hgl H3.out.keep.size,H3.out.keep.size⟩)
 have K3:=hid (H3.out.alloc (.cells #[.string name,.int .i64 (lO ((prio:Nat):Int)),.int .i64 ((need:Nat):Int),.int .i64 0,.string ⟨#[]⟩] 59))
 have hne:w.heap.size≠w3.heap.size:=Nat.ne_of_lt H3.out.blk.lt
 clear H3
 generalize hJ:w3.heap.size=J at J3 hne
 have HJ:=hid hJ
 clear hJ
 go_wp2_with fail
 rw [HJ.out]
 refine Calls.mono (jS g _ _ J3.out.ok) ?_
 rintro e w4 ⟨tries,rfl,v3,ok3,kp3⟩
 have V3:=hid v3
 have Ja:=J3.out.next ok3 kp3
 have Ka:=K3.out.next ok3 kp3
 have z3:w4.frozen? ⟨J,3,none⟩=false:=Ja.blk.thaw 3
 have x3:w4.cell? ⟨J,3,none⟩=some (.int .i64 0):=Ja.blk.cell 3
 have J4:=hid (Ja.set 3 (.int .i64 ((tries:Nat):Int)))
 have K4:=hid (Ka.other Ja hne 3 (.int .i64 ((tries:Nat):Int)))
 first
  |(
   guard_hyp jM0
   have y0:w4.cell? ⟨J,0,none⟩=some (.string name):=Ja.blk.cell 0
   have y1:w4.cell? ⟨J,1,none⟩=some (.int .i64 (lO ((prio:Nat):Int))):=Ja.blk.cell 1
   have y2:w4.cell? ⟨J,2,none⟩=some (.int .i64 ((need:Nat):Int)):=Ja.blk.cell 2)
  |(
   guard_hyp jM1
   clear Ja Ka v3 ok3 kp3 J3 K3
   go_wp2_with fail
   refine Calls.mono (rE g _ _ J4.out.ok) ?_
   rintro e w5 ⟨tag,rfl,v4,ok4,kp4⟩
   have V4:=hid v4
   have Ja:=J4.out.next ok4 kp4
   have Ka:=K4.out.next ok4 kp4
   have z4:w5.frozen? ⟨J,4,none⟩=false:=Ja.blk.thaw 4)
 first|(guard_hyp jM0;have y4:w4.cell? ⟨J,4,none⟩=some (.string ⟨#[]⟩):=Ja.blk.cell 4)|have x4:w5.cell? ⟨J,4,none⟩=some (.string ⟨#[]⟩):=Ja.blk.cell 4
 first
  |(
   guard_hyp jM1
   have J5:=hid (Ja.set 4 (.string tag))
   have K5:=hid (Ka.other Ja hne 4 (.string tag))
   obtain⟨y0,y1,y2,y3⟩:=Blk.c4 (Ja.blk))
  |skip
 first|(guard_hyp jM0;have u0:w4.frozen? ⟨w.heap.size,0,none⟩=false:=Ka.blk.thaw 0)|have u0:w5.frozen? ⟨w.heap.size,0,none⟩=false:=Ka.blk.thaw 0
 first|(guard_hyp jM0;have u1:w4.frozen? ⟨w.heap.size,1,none⟩=false:=Ka.blk.thaw 1)|have u1:w5.frozen? ⟨w.heap.size,1,none⟩=false:=Ka.blk.thaw 1
 first|(guard_hyp jM0;have u2:w4.frozen? ⟨w.heap.size,2,none⟩=false:=Ka.blk.thaw 2)|have u2:w5.frozen? ⟨w.heap.size,2,none⟩=false:=Ka.blk.thaw 2
 first|(guard_hyp jM0;have u3:w4.frozen? ⟨w.heap.size,3,none⟩=false:=Ka.blk.thaw 3)|have u3:w5.frozen? ⟨w.heap.size,3,none⟩=false:=Ka.blk.thaw 3
 first|(guard_hyp jM0;have u4:w4.frozen? ⟨w.heap.size,4,none⟩=false:=Ka.blk.thaw 4)|have u4:w5.frozen? ⟨w.heap.size,4,none⟩=false:=Ka.blk.thaw 4
 obtain⟨s0,s1,s2,s3,s4⟩:=Blk.c5 (Ka.blk)
 first|(guard_hyp jM0;clear Ja Ka v3 ok3 kp3 J3 K3)|clear Ja Ka v4 ok4 kp4 J4 K4
 first
  |(
   guard_hyp jM0
   have Q:=(((((K4.out.set 0 (.string name)).set 1 (.int .i64 (lO ((prio:Nat):Int)))).set 2 (.int .i64 ((need:Nat):Int))).set 3 (.int .i64 ((tries:Nat):Int))).set 4 (.string ⟨#[]⟩)))
  |(
   guard_hyp jM1
   have Q:=(((((K5.out.set 0 (.string name)).set 1 (.int .i64 (lO ((prio:Nat):Int)))).set 2 (.int .i64 ((need:Nat):Int))).set 3 (.int .i64 ((tries:Nat):Int))).set 4 (.string tag)))
 have q0:=(show _=(some (.string name):Option Value) from Q.blk.cell 0)
 have q1:=(show _=(some (.int .i64 (lO ((prio:Nat):Int))):Option Value) from Q.blk.cell 1)
 have q2:=(show _=(some (.int .i64 ((need:Nat):Int)):Option Value) from Q.blk.cell 2)
 have q3:=(show _=(some (.int .i64 ((tries:Nat):Int)):Option Value) from Q.blk.cell 3)
 first
  |(
   guard_hyp jM0
   have q4:=(show _=(some (.string ⟨#[]⟩):Option Value) from Q.blk.cell 4))
  |(
   guard_hyp jM1
   have q4:=(show _=(some (.string tag):Option Value) from Q.blk.cell 4))
 have Hok:=hid Q.ok
 have Hkp:=hid Q.keep
 clear Q
 go_wp2
 first
  |(
   guard_hyp jM0
   refine bodyPost_ret (v:=.agg #[.string name,.int .i64 (lO ((prio:Nat):Int)),.int .i64 ((need:Nat):Int),.int .i64 ((tries:Nat):Int),.string ⟨#[]⟩]) (by simp [results,Tryz.results28,go_sem, *]) rfl ?_
   exact⟨⟨name,lO prio,need,tries,⟨#[]⟩⟩,rfl,(Hj.out name prio need tries V0.out V1.out V2.out V3.out).1,by rw [(Hj.out name prio need tries V0.out V1.out V2.out V3.out).2]; exact Hok.out,Hkp.out⟩)
  |(
   guard_hyp jM1
   refine bodyPost_ret (v:=.agg #[.string name,.int .i64 (lO ((prio:Nat):Int)),.int .i64 ((need:Nat):Int),.int .i64 ((tries:Nat):Int),.string tag]) (by simp [results,Tryz.results28,go_sem, *]) rfl ?_
   exact⟨⟨name,lO prio,need,tries,tag⟩,rfl,(Hj.out name prio need tries tag V0.out V1.out V2.out V3.out V4.out).1,by rw [(Hj.out name prio need tries tag V0.out V1.out V2.out V3.out V4.out).2]; exact Hok.out,Hkp.out⟩))
theorem EY {σ:RR Unit} {v:Int} (h1:¬ 1<v) {name:ByteArray} {room:Nat} (e0:eY (σ.bind fun _ s=>bP s) (fun x=>x=⟨#[]⟩) name) (e1:eY ((σ.bind fun _ s=>bP s).st.bind fun _ s=>bZ s) (fun x=>x=0) room) :
 eY (σ.bind fun _ s=>gy v s) (fun _=>True) (⟨name,room,⟨#[]⟩⟩:av)∧(σ.bind fun _ s=>gy v s).st=((σ.bind fun _ s=>bP s).st.bind fun _ s=>bZ s).st:=by
 cases σ with
 | bad x=>exact⟨trivial,rfl⟩
 | ok u s=>
  unfold gy
  simp only [if_neg h1]
  simp only [RR.bind_ok] at *
  rcases q0:bP s with ⟨b0,r0⟩ | x
  rotate_left
  · simp only [q0,RR.st,RR.iE,RR.bind_ok] at *; first | exact⟨trivial,rfl⟩ | exact⟨trivial,trivial⟩
  simp only [q0,RR.st,RR.bind_ok] at *
  have t0:name=b0:=e0
  subst t0
  rcases q1:bZ r0 with ⟨b1,r1⟩ | x
  rotate_left
  · simp only [q1,RR.st,RR.iE,RR.bind_ok] at *; first | exact⟨trivial,rfl⟩ | exact⟨trivial,trivial⟩
  simp only [q1,RR.st,RR.bind_ok] at *
  have t1:room=b1:=e1
  subst t1
  first | exact⟨rfl,rfl⟩ | exact⟨rfl,trivial⟩
theorem Mr (g:Nat) (σ:RR Unit) (v:Int) (w:World) (h1:¬ 1<v) (h:eS w g σ) :
 Calls Tryz.prog 31 #[.pointer (some ⟨g,0,none⟩),.int .i64 v] w (kV g (σ.bind fun _ s=>gy v s) (fun x:av=>.agg (aI x).toArray) (fun _=>True) w):=by
 have d1:decide (1<v)=false:=decide_eq_false h1
 have Hj:=hid (fun name room=>EY (σ:=σ) (v:=v) h1 (name:=name) (room:=room))
 have H0:=hid (RGo.start h 61 #[.string ⟨#[]⟩,.int .i64 0,.string ⟨#[]⟩])
 have hgl:=h.at_.lt
 clear h h1
 go_enter Tryz.func31,Tryz.ntmps31
 go_wp2_with fail
 refine Calls.mono (rE g _ _ H0.out.ok) ?_
 rintro e w1 ⟨name,rfl,v0,ok0,kp0⟩
 have V0:=hid v0
 have H1:=hid (H0.out.next ok0 kp0)
 clear v0 ok0 kp0 H0
 go_wp2_with fail
 refine Calls.mono (jS g _ _ H1.out.ok) ?_
 rintro e w2 ⟨room,rfl,v1,ok1,kp1⟩
 have V1:=hid v1
 have H2:=hid (H1.out.next ok1 kp1)
 clear v1 ok1 kp1 H1
 have u0:w2.frozen? ⟨w.heap.size,0,none⟩=false:=H2.out.blk.thaw 0
 have u1:w2.frozen? ⟨w.heap.size,1,none⟩=false:=H2.out.blk.thaw 1
 have u2:w2.frozen? ⟨w.heap.size,2,none⟩=false:=H2.out.blk.thaw 2
 have s0:w2.cell? ⟨w.heap.size,0,none⟩=some (.string ⟨#[]⟩):=H2.out.blk.cell 0
 have s1:w2.cell? ⟨w.heap.size,1,none⟩=some (.int .i64 0):=H2.out.blk.cell 1
 have s2:w2.cell? ⟨w.heap.size,2,none⟩=some (.string ⟨#[]⟩):=H2.out.blk.cell 2
 have hRl:w.heap.size<w2.heap.size:=H2.out.blk.lt
 have Q:=((((H2.out.set 0 (.string name)).set 1 (.int .i64 ((room:Nat):Int))).set 2 (.string ⟨#[]⟩)).alloc (.cells #[.string name,.int .i64 ((room:Nat):Int),.string ⟨#[]⟩] 61))
 have q0:=(show _=(some (.string name):Option Value) from Q.blk.cell 0)
 have q1:=(show _=(some (.int .i64 ((room:Nat):Int)):Option Value) from Q.blk.cell 1)
 have q2:=(show _=(some (.string ⟨#[]⟩):Option Value) from Q.blk.cell 2)
 have Hok:=hid Q.ok
 have Hkp:=hid Q.keep
 clear Q
 go_wp2
 refine bodyPost_ret (v:=.agg #[.string name,.int .i64 ((room:Nat):Int),.string ⟨#[]⟩]) (by simp [results,Tryz.results31,go_sem, *]) rfl ?_
 exact⟨⟨name,room,⟨#[]⟩⟩,rfl,(Hj.out name room V0.out V1.out).1,by rw [(Hj.out name room V0.out V1.out).2]; exact Hok.out,Hkp.out⟩
theorem Ms (g:Nat) (σ:RR Unit) (v:Int) (w:World) (h1:1<v) (h:eS w g σ) :
 Calls Tryz.prog 31 #[.pointer (some ⟨g,0,none⟩),.int .i64 v] w (kV g (σ.bind fun _ s=>gy v s) (fun x:av=>.agg (aI x).toArray) (fun _=>True) w):=by
 have d1:decide (1<v)=true:=decide_eq_true h1
 have Hj:=hid (fun name room zone=>kA.2.2.2.1 (σ:=σ) (v:=v) h1 (name:=name) (room:=room) (zone:=zone))
 have H0:=hid (RGo.start h 61 #[.string ⟨#[]⟩,.int .i64 0,.string ⟨#[]⟩])
 have hgl:=h.at_.lt
 clear h h1
 go_enter Tryz.func31,Tryz.ntmps31
 go_wp2_with fail
 refine Calls.mono (rE g _ _ H0.out.ok) ?_
 rintro e w1 ⟨name,rfl,v0,ok0,kp0⟩
 have V0:=hid v0
 have H1:=hid (H0.out.next ok0 kp0)
 clear v0 ok0 kp0 H0
 go_wp2_with fail
 refine Calls.mono (jS g _ _ H1.out.ok) ?_
 rintro e w2 ⟨room,rfl,v1,ok1,kp1⟩
 have V1:=hid v1
 have H2:=hid (H1.out.next ok1 kp1)
 clear v1 ok1 kp1 H1
 have J2:=hid (show RGo w (w2.alloc (.cells #[.string name,.int .i64 ((room:Nat):Int),.string ⟨#[]⟩] 61)) g _ w2.heap.size 61 _ from ⟨H2.out.ok.alloc _,(H2.out.alloc _).keep,heap_alloc_new w2 _,Nat.lt_of_lt_of_le hgl H2.out.keep.size,H2.out.keep.size⟩)
 have K2:=hid (H2.out.alloc (.cells #[.string name,.int .i64 ((room:Nat):Int),.string ⟨#[]⟩] 61))
 have hne:w.heap.size≠w2.heap.size:=Nat.ne_of_lt H2.out.blk.lt
 clear H2
 generalize hJ:w2.heap.size=J at J2 hne
 have HJ:=hid hJ
 clear hJ
 go_wp2_with fail
 rw [HJ.out]
 refine Calls.mono (rE g _ _ J2.out.ok) ?_
 rintro e w3 ⟨zone,rfl,v2,ok2,kp2⟩
 have V2:=hid v2
 have Ja:=J2.out.next ok2 kp2
 have Ka:=K2.out.next ok2 kp2
 have z2:w3.frozen? ⟨J,2,none⟩=false:=Ja.blk.thaw 2
 have x2:w3.cell? ⟨J,2,none⟩=some (.string ⟨#[]⟩):=Ja.blk.cell 2
 have J3:=hid (Ja.set 2 (.string zone))
 have K3:=hid (Ka.other Ja hne 2 (.string zone))
 obtain⟨y0,y1⟩:=Blk.c2 (Ja.blk)
 have u0:w3.frozen? ⟨w.heap.size,0,none⟩=false:=Ka.blk.thaw 0
 have u1:w3.frozen? ⟨w.heap.size,1,none⟩=false:=Ka.blk.thaw 1
 have u2:w3.frozen? ⟨w.heap.size,2,none⟩=false:=Ka.blk.thaw 2
 have s0:w3.cell? ⟨w.heap.size,0,none⟩=some (.string ⟨#[]⟩):=Ka.blk.cell 0
 have s1:w3.cell? ⟨w.heap.size,1,none⟩=some (.int .i64 0):=Ka.blk.cell 1
 have s2:w3.cell? ⟨w.heap.size,2,none⟩=some (.string ⟨#[]⟩):=Ka.blk.cell 2
 clear Ja Ka v2 ok2 kp2 J2 K2
 have Q:=(((K3.out.set 0 (.string name)).set 1 (.int .i64 ((room:Nat):Int))).set 2 (.string zone))
 have q0:=(show _=(some (.string name):Option Value) from Q.blk.cell 0)
 have q1:=(show _=(some (.int .i64 ((room:Nat):Int)):Option Value) from Q.blk.cell 1)
 have q2:=(show _=(some (.string zone):Option Value) from Q.blk.cell 2)
 have Hok:=hid Q.ok
 have Hkp:=hid Q.keep
 clear Q
 go_wp2
 refine bodyPost_ret (v:=.agg #[.string name,.int .i64 ((room:Nat):Int),.string zone]) (by simp [results,Tryz.results31,go_sem, *]) rfl ?_
 exact⟨⟨name,room,zone⟩,rfl,(Hj.out name room zone V0.out V1.out V2.out).1,by rw [(Hj.out name room zone V0.out V1.out V2.out).2]; exact Hok.out,Hkp.out⟩
theorem Ow (g:Nat) (σ:RR Unit) (w:World) (h:eS w g σ) :
 Calls Tryz.prog 33 #[.pointer (some ⟨g,0,none⟩)] w (kV g (σ.bind fun _ s=>gE s) (fun x:ak=>.agg (aE x).toArray) (fun _=>True) w):=by
 have Hj:=hid (fun job node till=>kA.2.2.2.2 (σ:=σ) (job:=job) (node:=node) (till:=till))
 have H0:=hid (RGo.start h 63 #[.string ⟨#[]⟩,.string ⟨#[]⟩,.int .i64 0])
 have hgl:=h.at_.lt
 clear h
 go_enter Tryz.func33,Tryz.ntmps33
 go_wp2_with fail
 refine Calls.mono (rE g _ _ H0.out.ok) ?_
 rintro e w1 ⟨job,rfl,v0,ok0,kp0⟩
 have V0:=hid v0
 have H1:=hid (H0.out.next ok0 kp0)
 clear v0 ok0 kp0 H0
 go_wp2_with fail
 refine Calls.mono (rE g _ _ H1.out.ok) ?_
 rintro e w2 ⟨node,rfl,v1,ok1,kp1⟩
 have V1:=hid v1
 have H2:=hid (H1.out.next ok1 kp1)
 clear v1 ok1 kp1 H1
 go_wp2_with fail
 refine Calls.mono (jS g _ _ H2.out.ok) ?_
 rintro e w3 ⟨till,rfl,v2,ok2,kp2⟩
 have V2:=hid v2
 have H3:=hid (H2.out.next ok2 kp2)
 clear v2 ok2 kp2 H2
 have u0:w3.frozen? ⟨w.heap.size,0,none⟩=false:=H3.out.blk.thaw 0
 have u1:w3.frozen? ⟨w.heap.size,1,none⟩=false:=H3.out.blk.thaw 1
 have u2:w3.frozen? ⟨w.heap.size,2,none⟩=false:=H3.out.blk.thaw 2
 have s0:w3.cell? ⟨w.heap.size,0,none⟩=some (.string ⟨#[]⟩):=H3.out.blk.cell 0
 have s1:w3.cell? ⟨w.heap.size,1,none⟩=some (.string ⟨#[]⟩):=H3.out.blk.cell 1
 have s2:w3.cell? ⟨w.heap.size,2,none⟩=some (.int .i64 0):=H3.out.blk.cell 2
 have hRl:w.heap.size<w3.heap.size:=H3.out.blk.lt
 have Q:=(((H3.out.set 0 (.string job)).set 1 (.string node)).set 2 (.int .i64 ((till:Nat):Int)))
 have q0:=(show _=(some (.string job):Option Value) from Q.blk.cell 0)
 have q1:=(show _=(some (.string node):Option Value) from Q.blk.cell 1)
 have q2:=(show _=(some (.int .i64 ((till:Nat):Int)):Option Value) from Q.blk.cell 2)
 have Hok:=hid Q.ok
 have Hkp:=hid Q.keep
 clear Q
 go_wp2
 refine bodyPost_ret (v:=.agg #[.string job,.string node,.int .i64 ((till:Nat):Int)]) (by simp [results,Tryz.results33,go_sem, *]) rfl ?_
 exact⟨⟨job,node,till⟩,rfl,(Hj.out job node till V0.out V1.out V2.out).1,by rw [(Hj.out job node till V0.out V1.out V2.out).2]; exact Hok.out,Hkp.out⟩
end Go.Proofs.YtcpgnjmaampglaaGreatDoor
