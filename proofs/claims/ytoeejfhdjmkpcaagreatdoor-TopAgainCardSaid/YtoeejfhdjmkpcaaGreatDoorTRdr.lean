/- Of the proof of a statement: PlApply, TabM, Rdr. -/
import Derived.Maps.OwnSet
import Derived.StringKeys
import Derived.Test.YtoeejfhdjmkpcaaGreatDoorTChk
import Derived.Test.YtoeejfhdjmkpcaaGreatDoorTPk
import Derived.Test.YtoeejfhdjmkpcaaGreatDoorTRTab
set_option linter.unusedVariables false
set_option linter.unusedSimpArgs false
set_option maxRecDepth 100000
set_option maxHeartbeats 8000000
/- What Apply says: plain. -/
namespace Go.Proofs.YtoeejfhdjmkpcaaGreatDoor
open Go.Lib (hid)
open Go.Op (bytesLess)
def dG (a b:ByteArray):Bool:=bytesLess a.toList b.toList
theorem dP (a:ByteArray):dG a a=false:=lu _
theorem jE {a b c:ByteArray} (h:dG a b=true) (h2:dG b c=true):dG a c=true:=pD _ _ _ h h2
theorem sI {a b:ByteArray} (h:a.toList=b.toList):a=b:=by rw [ByteArray.toList_eq,ByteArray.toList_eq] at h; exact ByteArray.ext (Array.toList_inj.1 h)
theorem jW {a b:ByteArray} (h:dG a b=false) (hne:a≠b):dG b a=true:=by
 have ht:=dL a.toList b.toList
 unfold dG at h ⊢
 rw [h] at ht
 rcases Bool.or_eq_true_iff.1 ht.symm with h1 | h1
 · exact h1
 · exact absurd (sI (beq_iff_eq.1 h1)).symm hne
section
variable {α:Type} (key:α→ByteArray)
def bE (l:List α):Prop:=l.Pairwise fun a b=>dG (key a) (key b)=true
variable {key}
theorem kH:∀ {l r:List α},bE key l→bE key r→(∀ x,x ∈ l↔x ∈ r)→l=r
 | [],[],_,_,_=>rfl
 | [],b :: r,_,_,h=>absurd ((h b).2 List.mem_cons_self) List.not_mem_nil
 | a :: l,[],_,_,h=>absurd ((h a).1 List.mem_cons_self) List.not_mem_nil
 | a :: l,b :: r,hl,hr,h=>by
  obtain⟨hl1,hl2⟩:=List.pairwise_cons.1 hl
  obtain⟨hr1,hr2⟩:=List.pairwise_cons.1 hr
  have hab:a=b:=by
   rcases List.mem_cons.1 ((h a).1 List.mem_cons_self) with h1 | h1
   · exact h1
   · rcases List.mem_cons.1 ((h b).2 List.mem_cons_self) with h2 | h2
     · exact h2.symm
     · have:=jE (hr1 a h1) (hl1 b h2)
       rw [dP] at this; cases this
  subst hab
  refine congrArg (a :: ·) (kH hl2 hr2 fun x=>⟨fun hx=>?_,fun hx=>?_⟩)
  · rcases List.mem_cons.1 ((h x).1 (List.mem_cons_of_mem _ hx)) with h1 | h1
    · subst h1
      have:=hl1 x hx
      rw [dP] at this; cases this
    · exact h1
  · rcases List.mem_cons.1 ((h x).2 (List.mem_cons_of_mem _ hx)) with h1 | h1
    · subst h1
      have:=hr1 x hx
      rw [dP] at this; cases this
    · exact h1
theorem vA {l:List α} (h:bE key l):l.Pairwise fun a b=>key a≠key b:=
 h.imp fun {a b} hlt e=>by rw [e,dP] at hlt; cases hlt
variable (key)
def gF (x:α):Bool→List α→List α
 | d,[]=>if d then [] else [x]
 | d,y :: l=>(if !d && !dG (key y) (key x) then [x] else []) ++ (if key y≠key x then [y] else []) ++ gF x (d || !dG (key y) (key x)) l
def hM (l:List α) (x:α):List α:=gF key x false l
variable {key}
theorem gM (x z:α):∀ (l:List α) (d:Bool),z ∈ gF key x d l↔(d=false∧z=x)∨(z ∈ l∧key z≠key x)
 | [],d=>by cases d <;> simp [gF]
 | y :: l,d=>by
  rw [gF,List.mem_append,List.mem_append,gM x z l]
  have h2:(z ∈ if key y≠key x then [y] else [])↔(z=y∧key z≠key x):=by
   by_cases h:key y=key x
   · rw [if_neg (by simp [h])]
     exact⟨fun h'=>absurd h' List.not_mem_nil,fun ⟨h1,h2⟩=>absurd (by rw [h1,h]) h2⟩
   · rw [if_pos h,List.mem_singleton]
     exact⟨fun h'=>⟨h',by rw [h']; exact h⟩,fun h'=>h'.1⟩
  rw [h2,List.mem_cons]
  cases d <;> cases hk:dG (key y) (key x) <;> simp <;> grind
theorem sB (x:α):∀ (l:List α),bE key l→bE key (gF key x true l)
 | [],_=>List.Pairwise.nil
 | y :: l,h=>by
  obtain⟨h1,h2⟩:=List.pairwise_cons.1 h
  have ih:=sB x l h2
  rw [gF]
  simp only [Bool.not_true,Bool.false_and,Bool.false_eq_true,if_false,List.nil_append,Bool.true_or]
  by_cases hk:key y=key x
  · rw [if_neg (by simp [hk])]; exact ih
  · rw [if_pos hk]
    refine List.pairwise_cons.2 ⟨fun z hz=>?_,ih⟩
    rcases (gM x z l true).1 hz with hc | hc
    · cases hc.1
    · exact h1 z hc.1
theorem sorted_put (x:α):∀ (l:List α),bE key l→bE key (gF key x false l)
 | [],_=>List.pairwise_singleton _ _
 | y :: l,h=>by
  obtain⟨h1,h2⟩:=List.pairwise_cons.1 h
  cases hk:dG (key y) (key x) with
  | true=>
   have hne:key y≠key x:=fun e=>by rw [e,dP] at hk; cases hk
   have ih:=sorted_put x l h2
   rw [gF,hk]
   simp only [Bool.not_true,Bool.and_false,Bool.false_eq_true,if_false,List.nil_append,Bool.or_false,if_pos hne]
   refine List.pairwise_cons.2 ⟨fun z hz=>?_,ih⟩
   rcases (gM x z l false).1 hz with hc | hc
   · rw [hc.2]; exact hk
   · exact h1 z hc.1
  | false=>
   have ih:=sB x (y :: l) h
   have e:gF key x false (y :: l)=x :: gF key x true (y :: l):=by
    rw [gF,gF,hk]
    simp
   rw [e]
   refine List.pairwise_cons.2 ⟨fun z hz=>?_,ih⟩
   rcases (gM x z (y :: l) true).1 hz with hc | hc
   · cases hc.1
   · rcases List.mem_cons.1 hc.1 with e | hz
     · subst e
       exact jW hk hc.2
     · have hyz:=h1 z hz
       by_cases hxy:key y=key x
       · rw [hxy] at hyz; exact hyz
       · exact jE (jW hk hxy) hyz
variable (key)
variable {key}
theorem CC {l:List α} (h:l.Pairwise fun a b=>key a≠key b) {x:α} (hx:x ∈ l):l.find? (fun y=>decide (key y=key x))=some x:=by
 induction l with
 | nil=>cases hx
 | cons a l ih=>
  obtain⟨h1,h2⟩:=List.pairwise_cons.1 h
  rw [List.find?_cons]
  by_cases e:key a=key x
  · rcases List.mem_cons.1 hx with rfl | hx
    · simp
    · exact absurd e (h1 x hx)
  · rw [decide_eq_false e]
    rcases List.mem_cons.1 hx with rfl | hx
    · exact absurd rfl e
    · exact ih h2 hx
end
end Go.Proofs.YtoeejfhdjmkpcaaGreatDoor
/- Maps keyed by texts that the call itself has made: what they hold, as a function. -/
namespace Go.Proofs.YtoeejfhdjmkpcaaGreatDoor
open Go.Lib (hid)
open Go.RowKit Go.Maps
def E4:Value→Option (DataW Value × List MemPlace):=fun v=>some (.held v,[])
def dF (w:World) (b n:Nat) (g:ByteArray→Option Value):Prop:=
 ∃ D:DataW Value,w.ownsMap Tryz.prog 9 E4 b n D∧∀ (s:ByteArray) (z:DataW Value),D.atKey (.string s.data.toList) z=match g s with
  | none=>z
  | some v=>.held v
theorem IK:Keyed Tryz.prog 9:=string_keyed Tryz.underlying9
section
variable {w w':World} {b n:Nat} {g:ByteArray→Option Value}
theorem dF.made (w:World):dF (w.alloc (.map #[] 0)) w.heap.size 0 (fun _=>none):=⟨.map [],World.ownsMap_made w _ _ _,fun _ _=>rfl⟩
theorem dF.lt (h:dF w b n g):b<w.heap.size:=h.choose_spec.1.lt
theorem dF.same (h:dF w b n g) (e:w'.heap[b]? = w.heap[b]?):dF w' b n g:=by
 obtain⟨D,⟨es,clock,hb,r⟩,hD⟩:=h
 exact⟨D,⟨es,clock,e.trans hb,r⟩,hD⟩
theorem dF.below {B:Nat} (h:dF w b n g) (hb:Below B w w') (hB:b<B):dF w' b n g:=h.same (hb.block b hB)
theorem dF.but {c:Nat} (h:dF w b n g) (hg:w.grownBy w' (some c)) (hne:b≠c):dF w' b n g:=h.same (hg.block b h.lt (by simp [hne]))
theorem dF.congr {g':ByteArray→Option Value} (h:dF w b n g) (e:∀ s,g s=g' s):dF w b n g':=by
 obtain⟨D,ho,hD⟩:=h
 exact⟨D,ho,fun s z=>by rw [hD,e]⟩
theorem dF.mono {m:Nat} (h:dF w b n g) (hm:n≤m):dF w b m g:=by
 obtain⟨D,ho,hD⟩:=h
 exact⟨D,ho.mono hm,hD⟩
theorem data_inj {s t:ByteArray} (h:(Lit.string s.data.toList) = .string t.data.toList):s=t:=by
 injection h with h
 exact ByteArray.ext (Array.toList_inj.1 h)
theorem dF.put {t e:TypeId} (h:dF w b n g) (ht : Tryz.prog.underlying t=some (.map 9 e)) (hn:n<maxLen) (s:ByteArray) (hs:s.size≤maxLen) (v:Value) :
 ∃ w',(Instr.mapUpdate t (.map (some b)) (.string s) v).run Tryz.prog w = .ok () w'∧dF w' b (n+1) (fun x=>if x=s then some v else g x)∧w.grownBy w' (some b):=by
 obtain⟨D,ho,hD⟩:=h
 obtain⟨w',hr,ho',hg⟩:=ho.update IK ht hn (Go.WideMaps.keyOf_string_mk Tryz.underlying9 hs) (val:=v) (d:=.held v) (ps:=[]) rfl
 refine⟨w',hr,⟨_,ho',fun x z=>?_⟩,hg⟩
 by_cases hx:x=s
 · subst hx
   rw [atKey_put_same ho.isMap (by simp [WideAt.IsKeyLit])]
   simp
 · rw [atKey_put_other (fun e=>hx (data_inj e)),hD x z]
   simp [hx]
theorem dF.look {t e:TypeId} (h:dF w b n g) (ht : Tryz.prog.underlying t=some (.map 9 e)) {z:Value} (hz:(zeroValue e).run Tryz.prog w = .ok z w) (s:ByteArray) (hs:s.size≤maxLen) :
 (Instr.lookup t (.map (some b)) (.string s) false).run Tryz.prog w = .ok ((g s).getD z) w:=by
 obtain⟨D,ho,hD⟩:=h
 obtain⟨v,ps,hr,hv⟩:=ho.lookup IK ht hz (zd:=.held z) (zp:=[]) rfl (Go.WideMaps.keyOf_string_mk Tryz.underlying9 hs)
 rw [hD] at hv
 have hv1:(DataW.held v:DataW Value)=match g s with | none=>.held z | some v=>.held v:=by
  have:=congrArg (fun o=>o.map Prod.fst) hv
  simpa [E4] using this
 have e:v=(g s).getD z:=by
  cases hg:g s with
  | none=>rw [hg] at hv1; injection hv1
  | some u=>rw [hg] at hv1; injection hv1
 rw [hr,e]
theorem dF.look_ok {t e:TypeId} (h:dF w b n g) (ht : Tryz.prog.underlying t=some (.map 9 e)) {z:Value} (hz:(zeroValue e).run Tryz.prog w = .ok z w) (s:ByteArray) (hs:s.size≤maxLen) :
 (Instr.lookup t (.map (some b)) (.string s) true).run Tryz.prog w = .ok (.tuple #[(g s).getD z,.bool (g s).isSome]) w:=by
 obtain⟨D,ho,hD⟩:=h
 obtain⟨v,ps,hr,hv⟩:=ho.look_ok IK ht hz (zd:=.held z) (zp:=[]) rfl (Go.WideMaps.keyOf_string_mk Tryz.underlying9 hs)
 rw [hD] at hv
 have hv1:(DataW.held v:DataW Value)=match g s with | none=>.held z | some v=>.held v:=by
  have:=congrArg (fun o=>o.map Prod.fst) hv
  simpa [E4] using this
 cases hg:g s with
 | none=>
  rw [hg] at hv1
  have e:v=z:=by injection hv1
  have hh:Maps.has D (.string s.data.toList)=false:=Maps.has_false_of_atKey (fun x=>by rw [hD,hg])
  rw [hr,e,hh]; rfl
 | some u=>
  rw [hg] at hv1
  have e:v=u:=by injection hv1
  have hh:Maps.has D (.string s.data.toList)=true:=Maps.has_true_of_atKey (y:=.held u) (fun x=>by rw [hD,hg])
  rw [hr,e,hh]; rfl
end
end Go.Proofs.YtoeejfhdjmkpcaaGreatDoor
/- The walks of a Reader. -/
namespace Go.Proofs.YtoeejfhdjmkpcaaGreatDoor
open Go.Lib (hid)
open Go.RowKit
def mL (w:World) (g:Nat) (s:ByteArray) (e:Nat):Prop:=Blk w g 145 #[.string s,.int .i64 (e:Int)]
def RxS (w:World) (g:Nat) (σ:RR Unit):Prop:=match σ with
 | .ok _ s=>mL w g s 0
 | .bad e=>∃ s,s.size≤9223372036854775807∧mL w g s e
def uP:Nat:=9223372036854775807
def xO {α:Type} (g:Nat) (res:RR α) (enc:α→Value) (Z:α→Prop) (w:World) (e:Ending) (w':World):Prop:=
 ∃ a,e = .returned (enc a)∧iZ res Z a∧RxS w' g res.st∧w.grownBy w' (some g)
theorem dU (w:World) (g:Nat):w.grownBy w (some g):=⟨rfl,rfl,rfl,Nat.le_refl _,fun _ _ _=>rfl⟩
theorem jq {w w' w'':World} {g:Nat} (h:w.grownBy w' (some g)) (h':w'.grownBy w'' (some g)):w.grownBy w'' (some g):=
 ⟨h'.os.trans h.os,h'.tape.trans h.tape,h'.output.trans h.output,Nat.le_trans h.size h'.size,fun k hk hne=>(h'.block k (Nat.lt_of_lt_of_le hk h.size) hne).trans (h.block k hk hne)⟩
theorem jo {w w':World} (g:Nat) (h:Below w.heap.size w w'):w.grownBy w' (some g):=⟨h.os,h.tape,h.output,h.size,fun k hk _=>h.block k hk⟩
theorem aF {w w':World} {g k:Nat} {t:TypeId} {cs:Array Value} (h:w.grownBy w' (some g)) (hk:Blk w k t cs) (hne:k≠g):Blk w' k t cs:=
 (h.block k hk.lt (by simp; exact hne)).trans hk
theorem mL.set {w:World} {g:Nat} {s:ByteArray} {e:Nat} (h:mL w g s e) (s':ByteArray):mL (w.setCell ⟨g,0,none⟩ (.string s')) g s' e:=Blk.eq (Blk.set h 0 _) (by simp)
theorem mL.err {w:World} {g:Nat} {s:ByteArray} {e:Nat} (h:mL w g s e) (e':Nat):mL (w.setCell ⟨g,1,none⟩ (.int .i64 (e':Int))) g s e':=Blk.eq (Blk.set h 1 _) (by simp)
theorem bH (w:World) (g i:Nat) (v:Value):w.grownBy (w.setCell ⟨g,i,none⟩ v) (some g):=aK (dU w g) i v
theorem xJ (g:Nat) (s:ByteArray) (e x:Nat) (w:World) (h:mL w g s x) :
 Calls Tryz.prog 168 #[.pointer (some ⟨g,0,none⟩),.int .i64 (e:Int)] w fun en w'=>en = .returned (.tuple #[])∧mL w' g s (if x=0 then e else x)∧w.grownBy w' (some g):=by
 have y1:w.cell? ⟨g,1,none⟩=some (.int .i64 (x:Int)):=Blk.cell h 1
 have z1:w.frozen? ⟨g,1,none⟩=false:=Blk.thaw h 1
 have hgl:=Blk.lt h
 obtain⟨E',hE'⟩:∃ E',(if x=0 then e else x)=E':=⟨_,rfl⟩
 rw [hE']
 by_cases hx:x=0
 · subst hx
   rw [if_pos rfl] at hE'
   subst hE'
   have H:=hid (h.err e)
   clear h
   go_enter Tryz.func168,Tryz.ntmps168
   go_wp2
   go_end0
   exact⟨rfl,H.out,bH _ _ _ _⟩
 · have hne:((x:Int) == 0)=false:=by rw [beq_eq_false_iff_ne]; omega
   rw [if_neg hx] at hE'
   subst hE'
   have H:=hid h
   clear h hx
   go_enter Tryz.func168,Tryz.ntmps168
   go_wp2
   go_end0
   exact⟨rfl,H.out,dU _ _⟩
theorem zM (g:Nat) (σ:RR Unit) (w:World) (h:RxS w g σ) (hσ:σ.Good uP) :
 Calls Tryz.prog 167 #[.pointer (some ⟨g,0,none⟩)] w (xO g (σ.bind fun _ s=>dH s) (fun n:Nat=>.int .u64 n) (fun n=>n=0) w):=by
 cases σ with
 | bad x=>
  obtain⟨s,hs,hA⟩:=h
  have y1:w.cell? ⟨g,1,none⟩=some (.int .i64 (x:Int)):=Blk.cell hA 1
  have hne:((x:Int) != 0)=true:=by rw [bne_iff_ne]; have:=hσ.1; omega
  have hA':=hid hA
  clear hA
  go_enter Tryz.func167,Tryz.ntmps167
  go_wp2
  go_ret
  exact⟨0,rfl,rfl,⟨s,hs,hA'.out⟩,dU _ _⟩
 | ok u s=>
  have hA:mL w g s 0:=h
  have hs:s.size≤9223372036854775807:=hσ
  have y0:w.cell? ⟨g,0,none⟩=some (.string s):=Blk.cell hA 0
  have y1:w.cell? ⟨g,1,none⟩=some (.int .i64 0):=Blk.cell hA 1
  have z0:w.frozen? ⟨g,0,none⟩=false:=Blk.thaw hA 0
  rcases hr:rdNum s with ⟨a,k,e⟩
  have hf:=iH hr
  have HA:=hid hA
  have HR:=hid (nY hr w hs)
  by_cases he:e=0
  · subst he
    have hk:=(hf.2.2.2 rfl).2
    by_cases hl:4611686018427387904<a
    · have hres:=hid (sZ hr hl)
      have hd:decide ((4611686018427387904:Int)<(a:Int))=true:=decide_eq_true (by omega)
      clear hA h hr
      go_enter Tryz.func167,Tryz.ntmps167
      go_wp2_with fail
      refine Calls.mono HR.out ?_
      rintro e w1 ⟨rfl,rfl⟩
      go_wp2_with fail
      refine Calls.mono (xJ g s 2 0 _ HA.out) ?_
      rintro e w1 ⟨rfl,hA2,hg2⟩
      go_wp2
      go_ret
      exact⟨0,rfl,by rw [RR.bind_ok,hres.out]; rfl,by rw [RR.bind_ok,hres.out]; exact⟨s,hs,hA2⟩,hg2⟩
    · have hres:=hid (wO hr hl)
      have hd:decide ((4611686018427387904:Int)<(a:Int))=false:=decide_eq_false (by omega)
      clear hA h hr
      go_enter Tryz.func167,Tryz.ntmps167
      go_wp2_with fail
      refine Calls.mono HR.out ?_
      rintro e w1 ⟨rfl,rfl⟩
      go_wp2
      go_ret
      exact⟨a,rfl,by rw [RR.bind_ok,hres.out]; rfl,by rw [RR.bind_ok,hres.out]; exact HA.out.set _,bH _ _ _ _⟩
  · have hres:=hid (yj hr he)
    have hne:((e:Int) == 0)=false:=by rw [beq_eq_false_iff_ne]; omega
    have hne2:((e:Int) != 0)=true:=by rw [bne_iff_ne]; omega
    clear hA h hr
    go_enter Tryz.func167,Tryz.ntmps167
    go_wp2_with fail
    refine Calls.mono HR.out ?_
    rintro e' w1 ⟨rfl,rfl⟩
    go_wp2_with fail
    refine Calls.mono (xJ g s e 0 _ HA.out) ?_
    rintro e' w1 ⟨rfl,hA2,hg2⟩
    go_wp2
    go_ret
    exact⟨0,rfl,by rw [RR.bind_ok,hres.out]; rfl,by rw [RR.bind_ok,hres.out]; exact⟨s,hs,hA2⟩,hg2⟩
theorem zN {σ:RR Unit} {a:Nat} (h:iZ (σ.bind fun _ s=>dH s) (fun n=>n=0) a):a≤4611686018427387904:=by
 cases σ with
 | bad x=>rw [RR.fJ] at h; have h:a=0:=h; omega
 | ok u s=>
  rw [RR.bind_ok] at h
  cases hp:dH s with
  | bad x=>rw [hp] at h; have h:a=0:=h; omega
  | ok b r=>rw [hp] at h; have h:a=b:=h; have:=FG hp; omega
theorem E1 (g:Nat) (σ:RR Unit) (w:World) (h:RxS w g σ) (hσ:σ.Good uP) :
 Calls Tryz.prog 70 #[.pointer (some ⟨g,0,none⟩)] w (xO g (σ.bind fun _ s=>dH s) (fun n:Nat=>.int .i64 n) (fun n=>n=0) w):=by
 have H:=hid (zM g σ w h hσ)
 clear h
 go_enter Tryz.func70,Tryz.ntmps70
 go_wp2_with fail
 refine Calls.mono H.out ?_
 rintro e w1 ⟨a,rfl,hv,hs,hg⟩
 have hle:=zN hv
 have Hv:=hid hv
 clear hv
 go_wp2
 go_ret
 exact⟨a,rfl,Hv.out,hs,hg⟩
theorem E3 (g:Nat) (σ:RR Unit) (w:World) (h:RxS w g σ) (hσ:σ.Good uP) :
 Calls Tryz.prog 169 #[.pointer (some ⟨g,0,none⟩)] w (xO g (σ.bind fun _ s=>dH s) (fun n:Nat=>.int .i64 (iT n)) (fun n=>n=0) w):=by
 have H:=hid (zM g σ w h hσ)
 clear h
 go_enter Tryz.func169,Tryz.ntmps169
 go_wp2_with fail
 refine Calls.mono H.out ?_
 rintro e w1 ⟨a,rfl,hv,hs,hg⟩
 have hle:=zN hv
 have Hv:=hid hv
 clear hv
 go_wp2_with fail
 refine Calls.mono (Gu (a:Int) (by omega) (by omega) w1) ?_
 rintro e w2 ⟨rfl,rfl⟩
 go_wp2
 go_ret
 exact⟨a,rfl,Hv.out,hs,hg⟩
theorem IJ (g:Nat) (σ:RR Unit) (w:World) (h:RxS w g σ) (hσ:σ.Good uP) (hT:Tabs w) :
 Calls Tryz.prog 80 #[.pointer (some ⟨g,0,none⟩)] w (xO g (σ.bind fun _ s=>eF s) (fun t=>.string t) (fun t=>t=⟨#[]⟩) w):=by
 cases σ with
 | bad x=>
  obtain⟨s,hs,hA⟩:=h
  have y1:w.cell? ⟨g,1,none⟩=some (.int .i64 (x:Int)):=Blk.cell hA 1
  have hne:((x:Int) != 0)=true:=by rw [bne_iff_ne]; have:=hσ.1; omega
  have hA':=hid hA
  clear hA
  go_enter Tryz.func80,Tryz.ntmps80
  go_wp2
  go_ret
  exact⟨⟨#[]⟩,rfl,rfl,⟨s,hs,hA'.out⟩,dU _ _⟩
 | ok u s=>
  have hA:mL w g s 0:=h
  have hs:s.size≤9223372036854775807:=hσ
  have y0:w.cell? ⟨g,0,none⟩=some (.string s):=Blk.cell hA 0
  have y1:w.cell? ⟨g,1,none⟩=some (.int .i64 0):=Blk.cell hA 1
  have hgl:=Blk.lt hA
  rcases hr:kE s with ⟨t,k,e⟩
  have hf:=tu hr
  have HA:=hid hA
  have hR:=xG s w hs hT
  unfold jX at hR
  rw [hr] at hR
  have HR:=hid hR
  clear hR hT h
  by_cases he:e=0
  · subst he
    have hk:=hf.2.2 rfl
    have hres:=hid (tq hr)
    clear hA hr hf
    go_enter Tryz.func80,Tryz.ntmps80
    go_wp2_with fail
    refine Calls.mono HR.out ?_
    rintro e w1 ⟨rfl,hb1⟩
    have hA1:mL w1 g s 0:=Blk.below HA.out hb1 HA.out.lt
    have x0:w1.cell? ⟨g,0,none⟩=some (.string s):=Blk.cell hA1 0
    have z0:w1.frozen? ⟨g,0,none⟩=false:=Blk.thaw hA1 0
    have HA1:=hid hA1
    have Hb1:=hid hb1
    clear hA1 hb1 y0 y1
    go_wp2
    go_ret
    exact⟨t,rfl,by rw [RR.bind_ok,hres.out]; rfl,by rw [RR.bind_ok,hres.out]; exact HA1.out.set _,jq (jo g Hb1.out) (bH _ _ _ _)⟩
  · have hres:=hid (vH hr he)
    have hne2:((e:Int) != 0)=true:=by rw [bne_iff_ne]; omega
    clear hA hr hf
    go_enter Tryz.func80,Tryz.ntmps80
    go_wp2_with fail
    refine Calls.mono HR.out ?_
    rintro e' w1 ⟨rfl,hb1⟩
    have hA1:mL w1 g s 0:=Blk.below HA.out hb1 HA.out.lt
    have HA1:=hid hA1
    have Hb1:=hid hb1
    clear hA1 hb1 y0 y1
    go_wp2_with fail
    refine Calls.mono (xJ g s e 0 _ HA1.out) ?_
    rintro e' w2 ⟨rfl,hA2,hg2⟩
    go_wp2
    go_ret
    exact⟨⟨#[]⟩,rfl,by rw [RR.bind_ok,hres.out]; rfl,by rw [RR.bind_ok,hres.out]; exact⟨s,hs,hA2⟩,jq (jo g Hb1.out) hg2⟩
end Go.Proofs.YtoeejfhdjmkpcaaGreatDoor
