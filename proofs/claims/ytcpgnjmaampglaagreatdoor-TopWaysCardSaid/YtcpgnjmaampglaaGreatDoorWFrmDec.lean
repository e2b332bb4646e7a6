/- Of the proof of a statement: FrmDec. -/
import Derived.Deep.DeepCutAuto
import Derived.Lib.QuietBelow
import Derived.Test.YtcpgnjmaampglaaGreatDoorWFrmEnc
set_option linter.unusedVariables false
set_option linter.unusedSimpArgs false
set_option maxRecDepth 100000
set_option maxHeartbeats 8000000
/- The walk of frame.Decode. -/
namespace Go.Proofs.YtcpgnjmaampglaaGreatDoor
open Go.Lib (hid)
open Go.RowKit
open Go.Sort (grow)
def PD (f:bL):Value:=.agg #[.int .i64 f.ver,.int .i64 f.kind,.string f.pay]
def PE (s:ByteArray):Value:=.tuple #[PD (eK s).1,.int .i64 ((eK s).2.1:Int),.int .i64 ((eK s).2.2:Int)]
def jo (s:ByteArray) (w:World) (e:Ending) (w':World):Prop:=e = .returned (PE s)∧Below w.heap.size w w'
theorem jo.mk' {s:ByteArray} {w w':World} {f:bL} {n e:Nat} (h:eK s=(f,n,e)) (hb:Below w.heap.size w w'):jo s w (.returned (.tuple #[.agg #[.int .i64 f.ver,.int .i64 f.kind,.string f.pay],.int .i64 (n:Int),.int .i64 (e:Int)])) w':=⟨by unfold PE; rw [h]; rfl,hb⟩
theorem jT (n:Int) (w:World):Calls Tryz.prog 86 #[.int .i64 n] w fun e w'=>e = .returned (.tuple #[.agg #[.int .i64 0,.int .i64 0,.string ⟨#[]⟩],.int .i64 0,.int .i64 n])∧w.alloc (.cells #[.int .i64 0,.int .i64 0,.string ⟨#[]⟩] 43)=w':=by
 go_enter Tryz.func86,Tryz.ntmps86
 go_wp2
 refine bodyPost_ret (v:=.tuple #[.agg #[.int .i64 0,.int .i64 0,.string ⟨#[]⟩],.int .i64 0,.int .i64 n]) (by simp [results,Tryz.results86,go_sem]) rfl ⟨rfl,rfl⟩
theorem yW {s:ByteArray} {k:Nat} (h:k<s.size) (W:World):(Instr.index 9 (.string s) (.int .i64 (k:Int))).run Tryz.prog W = .ok (.int .u8 ((aP s k:Nat):Int)) W:=l9 h (vQ h).symm W
theorem Nt (W:World):(Instr.index 9 (.string ⟨#[66,75]⟩) (.int .i64 0)).run Tryz.prog W = .ok (.int .u8 66) W:=l9 (s:=⟨#[66,75]⟩) (k:=0) (c:=66) (by decide) rfl W
theorem Nu (W:World):(Instr.index 9 (.string ⟨#[66,75]⟩) (.int .i64 1)).run Tryz.prog W = .ok (.int .u8 75) W:=l9 (s:=⟨#[66,75]⟩) (k:=1) (c:=75) (by decide) rfl W
def HInv (s:ByteArray) (m:Nat) (i:Value):Prop:=∃ k:Nat,k≤m∧k≤4∧k≤s.size∧i = .int .i64 k∧kL s k
theorem Nv (s:ByteArray) (w:World) (hs:s.size≤9223372036854775807) :
 Calls Tryz.prog 24 #[.string s] w (jo s w):=by
 have DM:=hid (fun (c:Nat) (h:jU s=c) (hc:c≠0) (w':World)=>jo.mk' (w:=w) (w':=w') (I9 h hc))
 obtain⟨m,hm⟩:∃ m:Nat,m=min s.size 4:=⟨_,rfl⟩
 have hm1:m≤s.size:=by omega
 have hm2:m≤4:=by omega
 have Hm3:=hid (show s.size≤4→m=s.size from by omega)
 have Hm4:=hid (show 4<s.size→m=4 from by omega)
 clear hm
 go_enter Tryz.func24,Tryz.ntmps24
 go_upto_region 2 with fail
 go_cut [15,16] (fun x y wx=>x = .int .i64 (m:Int)∧y = .int .i64 0∧wx=w.alloc (.cells #[.int .i64 0,.int .i64 0,.string ⟨#[]⟩] 43))
 case first=>
  by_cases h4:s.size≤4
  · have e:=hid (Hm3.out h4)
    go_wp2
    go_meet
    exact⟨by have:=e.out; first | (rw [this]; done) | (rw [this]; congr 1; omega),rfl,rfl⟩
  · have e:=hid (Hm4.out (by omega))
    go_wp2
    go_meet
    exact⟨by have:=e.out; first | (rw [this]; done) | (rw [this]; rfl) | (rw [this]; congr 1; omega),rfl,rfl⟩
 case rest=>
  obtain⟨rfl,rfl,rfl⟩:=hcut
  go_wp2_with fail
  go_loop [3,4,6,7,16,22,36] (fun _ _ _ _ i _ _=>HInv s m i) (fun _ _ _ _ i _ _=>4 - (intOf i).toNat)
  case atStart=>exact⟨0,by omega,by omega,by omega,rfl,kL.zero s⟩
  case round=>
   obtain⟨k,hkm,hk4,hks,rfl,ht⟩:=hrel
   have Ht:=hid ht
   clear ht
   by_cases hlt:k<m
   · have Cv:k<s.size:=by omega
     have hb2:=Jb s k
     have Hi:=yW Cv
     rcases (show k=0∨k=1∨k=2∨k=3 from by omega) with rfl | rfl | rfl | rfl
     · have Hi0:∀ W:World,(Instr.index 9 (.string s) (.int .i64 0)).run Tryz.prog W = .ok (.int .u8 ((aP s 0:Nat):Int)) W:=Hi
       clear Hi
       have Hm:=Nt
       by_cases hb:aP s 0=66
       · have e1:((aP s 0:Int) != 66)=false:=by simp; omega
         have Hn:=hid (show kL s 1 from ⟨fun _=>⟨Cv,hb⟩,fun h=>absurd h (by omega),fun h=>absurd h (by omega),fun h=>absurd h (by omega)⟩)
         clear hb
         go_wp2
         go_round
         case rel=>exact⟨1,by omega,by omega,by omega,rfl,Hn.out⟩
         case measure=>simp [intOf]
       · have e1:((aP s 0:Int) != 66)=true:=by simp; omega
         have fin:=hid (DM.out 4 (PF Cv hb) (by omega))
         clear hb
         go_wp2_with (go_at_call 86; refine (jT _ _).mono ?_; rintro e w' ⟨rfl,rfl⟩)
         refine bodyPost_ret (v:=.tuple #[.agg #[.int .i64 0,.int .i64 0,.string ⟨#[]⟩],.int .i64 0,.int .i64 4]) (by simp [results,Tryz.results24,go_sem]) rfl ?_
         exact fin.out _ (((Below.refl _ _).alloc (Nat.le_refl _) _).alloc (by simp) _)
     · have Hi0:∀ W:World,(Instr.index 9 (.string s) (.int .i64 1)).run Tryz.prog W = .ok (.int .u8 ((aP s 1:Nat):Int)) W:=Hi
       clear Hi
       have Hm:=Nu
       by_cases hb:aP s 1=75
       · have e1:((aP s 1:Int) != 75)=false:=by simp; omega
         have Hn:=hid (show kL s 2 from ⟨fun _=>Ht.out.h0 (by omega),fun _=>⟨Cv,hb⟩,fun h=>absurd h (by omega),fun h=>absurd h (by omega)⟩)
         clear hb
         go_wp2
         go_round
         case rel=>exact⟨2,by omega,by omega,by omega,rfl,Hn.out⟩
         case measure=>simp [intOf]
       · have e1:((aP s 1:Int) != 75)=true:=by simp; omega
         have fin:=hid (DM.out 4 (PG Ht.out Cv hb) (by omega))
         clear hb
         go_wp2_with (go_at_call 86; refine (jT _ _).mono ?_; rintro e w' ⟨rfl,rfl⟩)
         refine bodyPost_ret (v:=.tuple #[.agg #[.int .i64 0,.int .i64 0,.string ⟨#[]⟩],.int .i64 0,.int .i64 4]) (by simp [results,Tryz.results24,go_sem]) rfl ?_
         exact fin.out _ (((Below.refl _ _).alloc (Nat.le_refl _) _).alloc (by simp) _)
     · have Hi0:∀ W:World,(Instr.index 9 (.string s) (.int .i64 2)).run Tryz.prog W = .ok (.int .u8 ((aP s 2:Nat):Int)) W:=Hi
       clear Hi
       by_cases hb:1≤aP s 2∧aP s 2≤3
       · have Hn:=hid (show kL s 3 from ⟨fun _=>Ht.out.h0 (by omega),fun _=>Ht.out.h1 (by omega),fun _=>⟨Cv,hb.1,hb.2⟩,fun h=>absurd h (by omega)⟩)
         have b1:=hid (show (1:Int)≤(aP s 2:Int) from by omega)
         have b2:=hid (show (aP s 2:Int)≤3 from by omega)
         clear hb
         go_wp2_with (go_at_call 71; refine (lA _ b1.out b2.out _).mono ?_; rintro e w' ⟨rfl,rfl⟩)
         go_round
         case rel=>exact⟨3,by omega,by omega,by omega,rfl,Hn.out⟩
         case measure=>simp [intOf]
       · have fin:=hid (DM.out 1 (PH Ht.out Cv (by omega)) (by omega))
         have b1:=hid (show (aP s 2:Int)<1∨3<(aP s 2:Int) from by omega)
         clear hb
         go_wp2_with (first | (go_at_call 71; refine (tV _ b1.out _).mono ?_; rintro e w' ⟨rfl,rfl⟩) | (go_at_call 86; refine (jT _ _).mono ?_; rintro e w' ⟨rfl,rfl⟩))
         refine bodyPost_ret (v:=.tuple #[.agg #[.int .i64 0,.int .i64 0,.string ⟨#[]⟩],.int .i64 0,.int .i64 1]) (by simp [results,Tryz.results24,go_sem]) rfl ?_
         exact fin.out _ (((Below.refl _ _).alloc (Nat.le_refl _) _).alloc (by simp) _)
     · have Hi0:∀ W:World,(Instr.index 9 (.string s) (.int .i64 3)).run Tryz.prog W = .ok (.int .u8 ((aP s 3:Nat):Int)) W:=Hi
       clear Hi
       by_cases hb:1≤aP s 3∧aP s 3≤4
       · have Hn:=hid (show kL s 4 from ⟨fun _=>Ht.out.h0 (by omega),fun _=>Ht.out.h1 (by omega),fun _=>Ht.out.h2 (by omega),fun _=>⟨Cv,hb.1,hb.2⟩⟩)
         have b1:=hid (show (1:Int)≤(aP s 3:Int) from by omega)
         have b2:=hid (show (aP s 3:Int)≤4 from by omega)
         clear hb
         go_wp2_with (go_at_call 72; refine (sU _ b1.out b2.out _).mono ?_; rintro e w' ⟨rfl,rfl⟩)
         go_round
         case rel=>exact⟨4,by omega,by omega,by omega,rfl,Hn.out⟩
         case measure=>simp [intOf]
       · have fin:=hid (DM.out 1 (PI Ht.out Cv (by omega)) (by omega))
         have b1:=hid (show (aP s 3:Int)<1∨4<(aP s 3:Int) from by omega)
         clear hb
         go_wp2_with (first | (go_at_call 72; refine (Br _ b1.out _).mono ?_; rintro e w' ⟨rfl,rfl⟩) | (go_at_call 86; refine (jT _ _).mono ?_; rintro e w' ⟨rfl,rfl⟩))
         refine bodyPost_ret (v:=.tuple #[.agg #[.int .i64 0,.int .i64 0,.string ⟨#[]⟩],.int .i64 0,.int .i64 1]) (by simp [results,Tryz.results24,go_sem]) rfl ?_
         exact fin.out _ (((Below.refl _ _).alloc (Nat.le_refl _) _).alloc (by simp) _)
   · by_cases h4:s.size<4
     · have fin:=hid (DM.out 3 (FD Ht.out (by have:=Hm3.out (by omega); omega) h4) (by omega))
       go_wp2_with (go_at_call 86; refine (jT _ _).mono ?_; rintro e w' ⟨rfl,rfl⟩)
       refine bodyPost_ret (v:=.tuple #[.agg #[.int .i64 0,.int .i64 0,.string ⟨#[]⟩],.int .i64 0,.int .i64 3]) (by simp [results,Tryz.results24,go_sem]) rfl ?_
       exact fin.out _ (((Below.refl _ _).alloc (Nat.le_refl _) _).alloc (by simp) _)
     · have hk:k=4:=by
        by_cases h:s.size≤4
        · have:=Hm3.out h; omega
        · have:=Hm4.out (by omega); omega
       subst hk
       have hH:=hid (Nw Ht.out)
       have h2s:=hid (Ht.out.h2 (by omega))
       have h3s:=hid (Ht.out.h3 (by omega))
       have hT:=hid (show (s.extract 4 s.size).size≤9223372036854775807 from by rw [ByteArray.size_extract]; omega)
       obtain⟨n,k,x,hrd⟩:∃ n k x,rdNum (s.extract 4 s.size)=(n,k,x):=⟨_,_,_,rfl⟩
       have hr:=hid hrd
       obtain⟨f1,f2,f3,f4⟩:=jG hrd
       clear hrd hlt hkm hk4 hks Ht
       by_cases hx:x=0
       · subst hx
         have f5:=f4 rfl
         clear f4 f3
         have f6:k≤s.size - 4:=by have:=f5.2; rw [ByteArray.size_extract] at this; omega
         have f7:=f5.1
         clear f5
         by_cases hn:6000<n
         · have fin:=hid (fun (w':World)=>jo.mk' (w:=w) (w':=w') (FE hH.out.1 hr.out hn))
           clear f1
           go_wp2_with (first | (go_at_call 87; refine (rF hr.out _ hT.out).mono ?_; rintro e w' ⟨rfl,rfl⟩) | (go_at_call 86; refine (jT _ _).mono ?_; rintro e w' ⟨rfl,rfl⟩))
           refine bodyPost_ret (v:=.tuple #[.agg #[.int .i64 0,.int .i64 0,.string ⟨#[]⟩],.int .i64 0,.int .i64 2]) (by simp [results,Tryz.results24,go_sem]) rfl ?_
           exact fin.out _ (((Below.refl _ _).alloc (Nat.le_refl _) _).alloc (by simp) _)
         · by_cases hl:s.size<8+k+n
           · have fin:=hid (fun (w':World)=>jo.mk' (w:=w) (w':=w') (FF hH.out.1 hr.out hn hl))
             clear f1
             go_wp2_with (first | (go_at_call 87; refine (rF hr.out _ hT.out).mono ?_; rintro e w' ⟨rfl,rfl⟩) | (go_at_call 86; refine (jT _ _).mono ?_; rintro e w' ⟨rfl,rfl⟩))
             refine bodyPost_ret (v:=.tuple #[.agg #[.int .i64 0,.int .i64 0,.string ⟨#[]⟩],.int .i64 0,.int .i64 3]) (by simp [results,Tryz.results24,go_sem]) rfl ?_
             exact fin.out _ (((Below.refl _ _).alloc (Nat.le_refl _) _).alloc (by simp) _)
           · clear f1
             go_wp2_with (go_at_call 87; refine (rF hr.out _ hT.out).mono ?_; rintro e w' ⟨rfl,rfl⟩)
             have hz1:=run_slice_string_to_if (P:=Tryz.prog) (w:=w) 9 s .i64 (4+(k:Int)+n) Tryz.underlying9
             have q1:∀ W:World,(Instr.slice 9 (.string s) none (some (.int .i64 (4+(k:Int)+n))) none).run Tryz.prog W = .ok (.string (s.extract 0 (4+k+n))) W:=fun W=>by
              rw [run_slice_string_to_if (P:=Tryz.prog) (w:=W) 9 s .i64 (4+(k:Int)+n) Tryz.underlying9,if_pos ⟨by omega,by omega⟩,show (4+(k:Int)+n).toNat=4+k+n from by omega]
             have q2:∀ W:World,(Instr.slice 9 (.string s) (some (.int .i64 (4+(k:Int)+n))) (some (.int .i64 (4+(k:Int)+n+4))) none).run Tryz.prog W = .ok (.string (s.extract (4+k+n) (8+k+n))) W:=fun W=>by
              rw [run_slice_string W 9 s .i64 .i64 (4+(k:Int)+n) (4+(k:Int)+n+4) Tryz.underlying9 (by omega) (by omega) (by omega),show (4+(k:Int)+n).toNat=4+k+n from by omega,show (4+(k:Int)+n+4).toNat=8+k+n from by omega]
             have q3:IntKind.i64.wrap (4+(k:Int)+n+4)=4+(k:Int)+n+4:=by rw [IntKind.wrap_i64]; omega
             have q4:=hid (show (s.extract 0 (4+k+n)).size≤9223372036854775807 from by rw [ByteArray.size_extract]; omega)
             generalize hw0:w.alloc (.cells #[.int .i64 0,.int .i64 0,.string ⟨#[]⟩] 43)=w0
             have hb0:=hid (show Below w.heap.size w w0 from by rw [← hw0]; exact (Below.refl _ _).alloc (Nat.le_refl _) _)
             have hB:=hid (show Blk w0 w.heap.size 43 #[.int .i64 0,.int .i64 0,.string ⟨#[]⟩] from by rw [← hw0]; exact heap_alloc_new _ _)
             clear hw0 hz1
             refine wp_region_quiet_below (by kernel_rfl) (by kernel_rfl) ?_
             repeat (quiet_step ((go_at_call 74; exact Calls.regrown_of (DN _ _ q4.out))))
             refine wpQuiet_nil ?_
             intro _ hw'
             obtain⟨⟨nq,osq⟩,hw''⟩:=hw'
             subst hw''
             have hx1:=below_regrown w0 nq osq
             dsimp only
             generalize grow (redrawn w0 nq) osq=w1 at hx1
             have hb1:=hid (hb0.out.trans (hx1.mono hb0.out.size))
             have hB1:Blk w1 w.heap.size 43 #[.int .i64 0,.int .i64 0,.string ⟨#[]⟩]:=hB.out.below hx1 hB.out.lt
             have z0:w1.cell? ⟨w.heap.size,0,none⟩=some (.int .i64 0):=hB1.cell 0
             have z1:w1.cell? ⟨w.heap.size,1,none⟩=some (.int .i64 0):=hB1.cell 1
             have z2:w1.cell? ⟨w.heap.size,2,none⟩=some (.string ⟨#[]⟩):=hB1.cell 2
             have t0:=hB1.thaw 0
             have t1:=hB1.thaw 1
             have t2:=hB1.thaw 2
             have hlt:=hB1.lt
             have hm0:(s.extract 0 (4+k+n)).data.toList=List.take (4+k+n) s.data.toList:=by rw [Lib.extract_data]; simp
             have hm1:=ByteArray.toList_eq (s.extract (4+k+n) (8+k+n))
             have Hm0:=hid hm0
             have Hm1:=hid hm1
             have HB1:=hid hB1
             clear hB1 hx1 hm0 hm1 hb0 hB q1 q2
             by_cases hm:(s.extract (4+k+n) (8+k+n)).data.toList=oP (s.extract 0 (4+k+n)).data.toList
             · have fin:=hid (fun (w':World)=>jo.mk' (w:=w) (w':=w') (DO hH.out.1 hr.out hn hl hm))
               have e5:(oP (List.take (4+k+n) s.data.toList) == (s.extract (4+k+n) (8+k+n)).toList)=true:=by rw [beq_iff_eq,Hm1.out,hm,Hm0.out]
               have i2:∀ W:World,(Instr.index 9 (.string s) (.int .i64 2)).run Tryz.prog W = .ok (.int .u8 ((aP s 2:Nat):Int)) W:=yW h2s.out.1
               have i3:∀ W:World,(Instr.index 9 (.string s) (.int .i64 3)).run Tryz.prog W = .ok (.int .u8 ((aP s 3:Nat):Int)) W:=yW h3s.out.1
               have q5:∀ W:World,(Instr.slice 9 (.string s) (some (.int .i64 (4+(k:Int)))) (some (.int .i64 (4+(k:Int)+n))) none).run Tryz.prog W = .ok (.string (s.extract (4+k) (4+k+n))) W:=fun W=>by
                rw [run_slice_string W 9 s .i64 .i64 (4+(k:Int)) (4+(k:Int)+n) Tryz.underlying9 (by omega) (by omega) (by omega),show (4+(k:Int)).toNat=4+k from by omega,show (4+(k:Int)+n).toNat=4+k+n from by omega]
               have v2:IntKind.i64.wrap (aP s 2:Int)=aP s 2:=by rw [IntKind.wrap_i64]; have:=h2s.out; omega
               have v3:IntKind.i64.wrap (aP s 3:Int)=aP s 3:=by rw [IntKind.wrap_i64]; have:=h3s.out; omega
               have e6:(!(oP (List.take (4+k+n) s.data.toList) == (s.extract (4+k+n) (8+k+n)).toList))=false:=by rw [e5]; rfl
               have hBW:Blk ((((w1.setCell ⟨w.heap.size,0,none⟩ (.int .i64 (aP s 2))).setCell ⟨w.heap.size,1,none⟩ (.int .i64 (aP s 3))).setCell ⟨w.heap.size,2,none⟩ (.string (s.extract (4+k) (4+k+n)))).drew) w.heap.size 43 #[.int .i64 (aP s 2),.int .i64 (aP s 3),.string (s.extract (4+k) (4+k+n))]:=(((HB1.out.set 0 _).set 1 _).set 2 _).below (Below.refl _ _).drew (by have:=hlt; simp [World.setCell]; omega)
               have hbz:=hid (((hb1.out.setCell (p:=⟨w.heap.size,0,none⟩) (Nat.le_refl _) (.int .i64 (aP s 2))).setCell (p:=⟨w.heap.size,1,none⟩) (Nat.le_refl _) (.int .i64 (aP s 3))).setCell (p:=⟨w.heap.size,2,none⟩) (Nat.le_refl _) (.string (s.extract (4+k) (4+k+n)))).drew
               have y0:=hBW.cell 0
               have y1:=hBW.cell 1
               have y2:=hBW.cell 2
               clear hm hBW
               rw [e6]
               go_wp2
               go_region
               go_wp2
               refine bodyPost_ret (v:=.tuple #[.agg #[.int .i64 (aP s 2),.int .i64 (aP s 3),.string (s.extract (4+k) (4+k+n))],.int .i64 (4+(k:Int)+n+4),.int .i64 0]) (by simp [results,Tryz.results24,go_sem,y0,y1,y2]) rfl ?_
               rw [show (4+(k:Int)+n+4)=((8+k+n:Nat):Int) from by omega]
               exact fin.out _ hbz.out
             · have fin:=hid (fun (w':World)=>jo.mk' (w:=w) (w':=w') (K7 hH.out.1 hr.out hn hl hm))
               have e5:(oP (List.take (4+k+n) s.data.toList) == (s.extract (4+k+n) (8+k+n)).toList)=false:=by
                rw [beq_eq_false_iff_ne,Hm1.out]; intro h; exact hm (by rw [← h,Hm0.out])
               have e6:(!(oP (List.take (4+k+n) s.data.toList) == (s.extract (4+k+n) (8+k+n)).toList))=true:=by rw [e5]; rfl
               have hbz:∀ (o:Obj),Below w.heap.size w (w1.alloc o):=fun o=>hb1.out.alloc (hb1.out.size) o
               have hBW:Blk ((((w1.setCell ⟨w.heap.size,0,none⟩ (.int .i64 0)).setCell ⟨w.heap.size,1,none⟩ (.int .i64 0)).setCell ⟨w.heap.size,2,none⟩ (.string ⟨#[]⟩)).alloc (.cells #[.int .i64 0,.int .i64 0,.string ⟨#[]⟩] 43)) w.heap.size 43 #[.int .i64 0,.int .i64 0,.string ⟨#[]⟩]:=(((HB1.out.set 0 _).set 1 _).set 2 _).alloc _
               have hbz:=hid ((((hb1.out.setCell (p:=⟨w.heap.size,0,none⟩) (Nat.le_refl _) (.int .i64 0)).setCell (p:=⟨w.heap.size,1,none⟩) (Nat.le_refl _) (.int .i64 0)).setCell (p:=⟨w.heap.size,2,none⟩) (Nat.le_refl _) (.string ⟨#[]⟩)).alloc (by have:=hlt; simp [World.setCell]; omega) (.cells #[.int .i64 0,.int .i64 0,.string ⟨#[]⟩] 43))
               have y0:=hBW.cell 0
               have y1:=hBW.cell 1
               have y2:=hBW.cell 2
               clear hm hBW
               rw [e6]
               go_wp2_with (go_at_call 86; refine (jT _ _).mono ?_; rintro e w' ⟨rfl,rfl⟩)
               refine bodyPost_ret (v:=.tuple #[.agg #[.int .i64 0,.int .i64 0,.string ⟨#[]⟩],.int .i64 0,.int .i64 5]) (by simp [results,Tryz.results24,go_sem,y0,y1,y2]) rfl ?_
               exact fin.out _ hbz.out
       · have fin:=hid (fun (w':World)=>jo.mk' (w:=w) (w':=w') (K8 hH.out.1 hr.out hx))
         have e1:((x:Int) != 0)=true:=by simp; omega
         clear hx f4 f1
         go_wp2_with (first | (go_at_call 87; refine (rF hr.out _ hT.out).mono ?_; rintro e w' ⟨rfl,rfl⟩) | (go_at_call 86; refine (jT _ _).mono ?_; rintro e w' ⟨rfl,rfl⟩))
         refine bodyPost_ret (v:=.tuple #[.agg #[.int .i64 0,.int .i64 0,.string ⟨#[]⟩],.int .i64 0,.int .i64 x]) (by simp [results,Tryz.results24,go_sem]) rfl ?_
         exact fin.out _ (((Below.refl _ _).alloc (Nat.le_refl _) _).alloc (by simp) _)
end Go.Proofs.YtcpgnjmaampglaaGreatDoor
