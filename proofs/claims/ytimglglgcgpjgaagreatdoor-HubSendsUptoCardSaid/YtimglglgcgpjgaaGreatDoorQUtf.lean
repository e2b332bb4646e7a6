/- Of the proof of a statement: Utf. -/
import Derived.Test.YtimglglgcgpjgaaGreatDoorQChk
set_option linter.unusedVariables false
set_option linter.unusedSimpArgs false
set_option maxRecDepth 100000
set_option maxHeartbeats 8000000
namespace Go.Proofs.YtimglglgcgpjgaaGreatDoor
open Go.RowKit
open Go.Lib (validD)
def Pp (s:ByteArray) (i:Value):Prop:=∃ k:Nat,k<=s.size/\i = .int .i64 k/\validD (s.data.toList.drop k)=validD s.data.toList
def rT (l:List UInt8) (m lo hi:Nat) (a b c:Value):Prop:=∃ j:Nat,1<=j/\j<=m+1/\c = .int .i64 j/\a = .int .i64 (mB lo j)/\b = .int .i64 (jr hi j)/\∀ t,1<=t->t<j->zX l lo hi t
theorem NL {s:ByteArray} {k:Nat} (h:k<s.size):s.data.toList.drop k≠[]:=by
 intro e;have:=congrArg List.length e;rw [List.length_drop,Array.length_toList,List.length_nil] at this;have a:s.data.size=s.size:=rfl;omega
theorem drop_at {s:ByteArray} {k j c:Nat} (h:k+j<s.size) (a:s[k+j].toNat=c):((s.data.toList.drop k).getD j 0).toNat=c:=by
 rw [List.getD_eq_getElem?_getD,List.getElem?_drop,Array.getElem?_toList,Array.getElem?_eq_getElem (show k+j<s.data.size from h)];exact a
theorem Mk (s:ByteArray) (k:Nat):(s.data.toList.drop k).length=s.size - k:=by
 rw [List.length_drop,Array.length_toList]; rfl
theorem iy {lo j:Nat} (h:lo<=255):mB lo j<=255:=by unfold mB; split <;> omega
theorem nJ {hi j:Nat} (h:hi<=255):jr hi j<=255:=by unfold jr; split <;> omega
theorem Bj (s:ByteArray) (w:World) (hs:s.size<=1048576):ψ 137 #[s] w fun E H=>E = .returned (.bool (validD s.data.toList))/\w=H:=by
 go_enter Tryz.func137,Tryz.ntmps137;go_wp2
 go_loop [2,3,4,5,6,7,8,17,20,27,38,68] (fun _ Z _ _ _ _ _ _ _ _ _ _=>Pp s Z) (fun _ Z _ _ _ _ _ _ _ _ _ _=>s.size - (intOf Z).toNat)
 case atStart=>exact⟨0,by omega,rfl,by simp⟩
 case round=>
  obtain⟨k,hk,rfl,V⟩:=hrel;by_cases Y:k<s.size
  · obtain⟨c,X⟩:∃ c:Nat,s[k].toNat=c:=⟨_,rfl⟩;have ac:c<256:=by rw [<- X]; exact s[k].toNat_lt
    have Hi:=jq Y X;have B:=NL Y;have v:((s.data.toList.drop k).getD 0 0).toNat=c:=drop_at (j:=0) Y X;have aa:=Mk s k;clear X;generalize hl:s.data.toList.drop k=P at B v aa V;have n:=ω hl;have q:=ω V;clear hl V;by_cases ab:c<128
    · have b:=ω (Cls.ascii B v ab);have _:decide ((c:Int)<128)=true:=t8 (by omega);clear B v;go_wp2
      go_loop [2,6,7,8,68] (fun _ F G o _=>o = .int .i64 1/\F = .int .i64 128/\G = .int .i64 191) (fun _ _ _ o _=>1 - (intOf o).toNat)
      case atStart=>exact⟨rfl,rfl,rfl⟩
      case round=>
       obtain⟨rfl,rfl,rfl⟩:=hrel;have e:=ω (b.ok (by omega) (fun t a i=>absurd a (by omega)));clear b;go_wp2
       go_round
       case rel=>exact⟨k+1,by omega,by go_num,by rw [<- q.z,<- List.drop_drop,n.z]; exact e.z.symm⟩
       case measure=>simp [intOf]; omega
    by_cases ka:194<=c/\c<=223
    · have b:=ω (Cls.of (m:=1) (lo:=128) (hi:=191) B v (by omega) (by unfold jR; rw [if_neg (by omega),if_pos (by omega)]));have _:decide ((c:Int)<128)=false:=fK (by omega);have _:decide ((194:Int)<=c)=true:=t8 (by omega);have _:decide ((c:Int)<=223)=true:=t8 (by omega);clear B v;have T:=iy (lo:=128) (j:=1) (by omega);by_cases U:s.size<k+1+1
      · have e:=ω (b.short (by omega));clear b;go_wp2;go_ret;exact⟨bB (by rw [<- q.z,e.z]),rfl⟩
      · go_wp2
        go_loop [2,6,7,8,68] (fun _ F G o _=>rT P 1 128 191 F G o) (fun _ _ _ o _=>1+1 - (intOf o).toNat)
        case atStart=>exact⟨1,by omega,by omega,rfl,rfl,rfl,fun t a i=>by omega⟩
        case round=>
         obtain⟨j,L,S,rfl,rfl,rfl,u⟩:=hrel;have r:=ω u;clear u;by_cases K:j<=1
         · have z:k+j<s.size:=by omega
           obtain⟨d,l⟩:∃ d:Nat,s[k+j].toNat=d:=⟨_,rfl⟩;have Q:d<256:=by rw [<- l]; exact s[k+j].toNat_lt
           have R:∀ W,(Instr.index 9 (.string s) (.int .i64 ((k:Int)+(j:Int)))).run Tryz.prog W = .ok (.int .u8 (d:Int)) W:=fun W=>by
            have:=jq z l W;rw [Int.natCast_add] at this;exact this
           have p:=drop_at z l;rw [n.z] at p;have h:=ω (qX (lo:=128) (hi:=191) p);have M:=iy (lo:=128) (j:=j) (by omega);have J:=nJ (hi:=191) (j:=j) (by omega);obtain⟨x,C⟩:∃ x,mB 128 j=x:=⟨_,rfl⟩;obtain⟨y,D⟩:∃ y,jr 191 j=y:=⟨_,rfl⟩;rw [C] at h M |-;rw [D] at h J |-;clear l p C D;by_cases g:x<=d/\d<=y
           · have N:=ω (h.z.2 g);have a:=ω g.1;have i:=ω g.2;clear h g b n
             go_wp2_with fail
             refine Calls.mono (dh _ _ _ (by have:=a.z; omega) (by have:=i.z; omega) _) ?_;rintro E H ⟨rfl,rfl⟩;go_wp2
             go_round
             case rel=>exact⟨j+1,by omega,by omega,by go_num,by unfold mB; rw [if_neg (by omega)]; rfl,by unfold jr; rw [if_neg (by omega)]; rfl,fun t a i=>by
              by_cases O:t<j
              · exact r.z t a O
              · obtain rfl:t=j:=by omega
                exact N.z⟩
             case measure=>simp [intOf]; omega
           · have e:=ω (b.bad j L K (fun I=>g (h.z.1 I)));have a:=ω (show (d:Int)<(x:Int)\/(y:Int)<(d:Int) by omega);clear h g b n
             go_wp2_with fail
             refine Calls.mono (eE _ _ _ a.z _) ?_;rintro E H ⟨rfl,rfl⟩;go_wp2;go_ret;exact⟨bB (by rw [<- q.z,e.z]),rfl⟩
         · obtain rfl:j=1+1:=by omega
           have e:=ω (b.ok (by omega) (fun t a i=>r.z t a (by omega)));clear b;go_wp2
           go_round
           case rel=>exact⟨k+2,by omega,by go_num,by rw [<- q.z,<- List.drop_drop,n.z]; exact e.z.symm⟩
           case measure=>simp [intOf]; omega
    by_cases kb:c=224
    · have b:=ω (Cls.of (m:=2) (lo:=160) (hi:=191) B v (by omega) (by unfold jR; subst kb; rfl));have _:decide ((c:Int)<128)=false:=fK (by omega);have _:decide ((194:Int)<=c)=true:=t8 (by omega);have _:decide ((c:Int)<=223)=false:=fK (by omega);have _:decide ((224:Int)<=c)=true:=t8 (by omega);have _:decide ((c:Int)<=239)=true:=t8 (by omega);have _:((c:Int) == 224)=true:=beq_iff_eq.2 (by omega);have _:((c:Int) == 237)=false:=by rw [beq_eq_false_iff_ne]; omega
      clear B v;have T:=iy (lo:=160) (j:=1) (by omega);by_cases U:s.size<k+2+1
      · have e:=ω (b.short (by omega));clear b;go_wp2;go_ret;exact⟨bB (by rw [<- q.z,e.z]),rfl⟩
      · go_wp2
        go_loop [2,6,7,8,68] (fun _ F G o _=>rT P 2 160 191 F G o) (fun _ _ _ o _=>2+1 - (intOf o).toNat)
        case atStart=>exact⟨1,by omega,by omega,rfl,rfl,rfl,fun t a i=>by omega⟩
        case round=>
         obtain⟨j,L,S,rfl,rfl,rfl,u⟩:=hrel;have r:=ω u;clear u;by_cases K:j<=2
         · have z:k+j<s.size:=by omega
           obtain⟨d,l⟩:∃ d:Nat,s[k+j].toNat=d:=⟨_,rfl⟩;have Q:d<256:=by rw [<- l]; exact s[k+j].toNat_lt
           have R:∀ W,(Instr.index 9 (.string s) (.int .i64 ((k:Int)+(j:Int)))).run Tryz.prog W = .ok (.int .u8 (d:Int)) W:=fun W=>by
            have:=jq z l W;rw [Int.natCast_add] at this;exact this
           have p:=drop_at z l;rw [n.z] at p;have h:=ω (qX (lo:=160) (hi:=191) p);have M:=iy (lo:=160) (j:=j) (by omega);have J:=nJ (hi:=191) (j:=j) (by omega);obtain⟨x,C⟩:∃ x,mB 160 j=x:=⟨_,rfl⟩;obtain⟨y,D⟩:∃ y,jr 191 j=y:=⟨_,rfl⟩;rw [C] at h M |-;rw [D] at h J |-;clear l p C D;by_cases g:x<=d/\d<=y
           · have N:=ω (h.z.2 g);have a:=ω g.1;have i:=ω g.2;clear h g b n
             go_wp2_with fail
             refine Calls.mono (dh _ _ _ (by have:=a.z; omega) (by have:=i.z; omega) _) ?_;rintro E H ⟨rfl,rfl⟩;go_wp2
             go_round
             case rel=>exact⟨j+1,by omega,by omega,by go_num,by unfold mB; rw [if_neg (by omega)]; rfl,by unfold jr; rw [if_neg (by omega)]; rfl,fun t a i=>by
              by_cases O:t<j
              · exact r.z t a O
              · obtain rfl:t=j:=by omega
                exact N.z⟩
             case measure=>simp [intOf]; omega
           · have e:=ω (b.bad j L K (fun I=>g (h.z.1 I)));have a:=ω (show (d:Int)<(x:Int)\/(y:Int)<(d:Int) by omega);clear h g b n
             go_wp2_with fail
             refine Calls.mono (eE _ _ _ a.z _) ?_;rintro E H ⟨rfl,rfl⟩;go_wp2;go_ret;exact⟨bB (by rw [<- q.z,e.z]),rfl⟩
         · obtain rfl:j=2+1:=by omega
           have e:=ω (b.ok (by omega) (fun t a i=>r.z t a (by omega)));clear b;go_wp2
           go_round
           case rel=>exact⟨k+3,by omega,by go_num,by rw [<- q.z,<- List.drop_drop,n.z]; exact e.z.symm⟩
           case measure=>simp [intOf]; omega
    by_cases kd:c=237
    · have b:=ω (Cls.of (m:=2) (lo:=128) (hi:=159) B v (by omega) (by unfold jR; subst kd; rfl));have _:decide ((c:Int)<128)=false:=fK (by omega);have _:decide ((194:Int)<=c)=true:=t8 (by omega);have _:decide ((c:Int)<=223)=false:=fK (by omega);have _:decide ((224:Int)<=c)=true:=t8 (by omega);have _:decide ((c:Int)<=239)=true:=t8 (by omega);have _:((c:Int) == 224)=false:=by rw [beq_eq_false_iff_ne]; omega
      have _:((c:Int) == 237)=true:=beq_iff_eq.2 (by omega);clear B v;have T:=iy (lo:=128) (j:=1) (by omega);by_cases U:s.size<k+2+1
      · have e:=ω (b.short (by omega));clear b;go_wp2;go_ret;exact⟨bB (by rw [<- q.z,e.z]),rfl⟩
      · go_wp2
        go_loop [2,6,7,8,68] (fun _ F G o _=>rT P 2 128 159 F G o) (fun _ _ _ o _=>2+1 - (intOf o).toNat)
        case atStart=>exact⟨1,by omega,by omega,rfl,rfl,rfl,fun t a i=>by omega⟩
        case round=>
         obtain⟨j,L,S,rfl,rfl,rfl,u⟩:=hrel;have r:=ω u;clear u;by_cases K:j<=2
         · have z:k+j<s.size:=by omega
           obtain⟨d,l⟩:∃ d:Nat,s[k+j].toNat=d:=⟨_,rfl⟩;have Q:d<256:=by rw [<- l]; exact s[k+j].toNat_lt
           have R:∀ W,(Instr.index 9 (.string s) (.int .i64 ((k:Int)+(j:Int)))).run Tryz.prog W = .ok (.int .u8 (d:Int)) W:=fun W=>by
            have:=jq z l W;rw [Int.natCast_add] at this;exact this
           have p:=drop_at z l;rw [n.z] at p;have h:=ω (qX (lo:=128) (hi:=159) p);have M:=iy (lo:=128) (j:=j) (by omega);have J:=nJ (hi:=159) (j:=j) (by omega);obtain⟨x,C⟩:∃ x,mB 128 j=x:=⟨_,rfl⟩;obtain⟨y,D⟩:∃ y,jr 159 j=y:=⟨_,rfl⟩;rw [C] at h M |-;rw [D] at h J |-;clear l p C D;by_cases g:x<=d/\d<=y
           · have N:=ω (h.z.2 g);have a:=ω g.1;have i:=ω g.2;clear h g b n
             go_wp2_with fail
             refine Calls.mono (dh _ _ _ (by have:=a.z; omega) (by have:=i.z; omega) _) ?_;rintro E H ⟨rfl,rfl⟩;go_wp2
             go_round
             case rel=>exact⟨j+1,by omega,by omega,by go_num,by unfold mB; rw [if_neg (by omega)]; rfl,by unfold jr; rw [if_neg (by omega)]; rfl,fun t a i=>by
              by_cases O:t<j
              · exact r.z t a O
              · obtain rfl:t=j:=by omega
                exact N.z⟩
             case measure=>simp [intOf]; omega
           · have e:=ω (b.bad j L K (fun I=>g (h.z.1 I)));have a:=ω (show (d:Int)<(x:Int)\/(y:Int)<(d:Int) by omega);clear h g b n
             go_wp2_with fail
             refine Calls.mono (eE _ _ _ a.z _) ?_;rintro E H ⟨rfl,rfl⟩;go_wp2;go_ret;exact⟨bB (by rw [<- q.z,e.z]),rfl⟩
         · obtain rfl:j=2+1:=by omega
           have e:=ω (b.ok (by omega) (fun t a i=>r.z t a (by omega)));clear b;go_wp2
           go_round
           case rel=>exact⟨k+3,by omega,by go_num,by rw [<- q.z,<- List.drop_drop,n.z]; exact e.z.symm⟩
           case measure=>simp [intOf]; omega
    by_cases ke:224<=c/\c<=239
    · have b:=ω (Cls.of (m:=2) (lo:=128) (hi:=191) B v (by omega) (by unfold jR; rw [if_neg (by omega),if_neg (by omega),if_pos (by omega),if_neg (by omega),if_neg (by omega)]));have _:decide ((c:Int)<128)=false:=fK (by omega);have _:decide ((194:Int)<=c)=true:=t8 (by omega);have _:decide ((c:Int)<=223)=false:=fK (by omega);have _:decide ((224:Int)<=c)=true:=t8 (by omega);have _:decide ((c:Int)<=239)=true:=t8 (by omega);have _:((c:Int) == 224)=false:=by rw [beq_eq_false_iff_ne]; omega
      have _:((c:Int) == 237)=false:=by rw [beq_eq_false_iff_ne]; omega
      clear B v;have T:=iy (lo:=128) (j:=1) (by omega);by_cases U:s.size<k+2+1
      · have e:=ω (b.short (by omega));clear b;go_wp2;go_ret;exact⟨bB (by rw [<- q.z,e.z]),rfl⟩
      · go_wp2
        go_loop [2,6,7,8,68] (fun _ F G o _=>rT P 2 128 191 F G o) (fun _ _ _ o _=>2+1 - (intOf o).toNat)
        case atStart=>exact⟨1,by omega,by omega,rfl,rfl,rfl,fun t a i=>by omega⟩
        case round=>
         obtain⟨j,L,S,rfl,rfl,rfl,u⟩:=hrel;have r:=ω u;clear u;by_cases K:j<=2
         · have z:k+j<s.size:=by omega
           obtain⟨d,l⟩:∃ d:Nat,s[k+j].toNat=d:=⟨_,rfl⟩;have Q:d<256:=by rw [<- l]; exact s[k+j].toNat_lt
           have R:∀ W,(Instr.index 9 (.string s) (.int .i64 ((k:Int)+(j:Int)))).run Tryz.prog W = .ok (.int .u8 (d:Int)) W:=fun W=>by
            have:=jq z l W;rw [Int.natCast_add] at this;exact this
           have p:=drop_at z l;rw [n.z] at p;have h:=ω (qX (lo:=128) (hi:=191) p);have M:=iy (lo:=128) (j:=j) (by omega);have J:=nJ (hi:=191) (j:=j) (by omega);obtain⟨x,C⟩:∃ x,mB 128 j=x:=⟨_,rfl⟩;obtain⟨y,D⟩:∃ y,jr 191 j=y:=⟨_,rfl⟩;rw [C] at h M |-;rw [D] at h J |-;clear l p C D;by_cases g:x<=d/\d<=y
           · have N:=ω (h.z.2 g);have a:=ω g.1;have i:=ω g.2;clear h g b n
             go_wp2_with fail
             refine Calls.mono (dh _ _ _ (by have:=a.z; omega) (by have:=i.z; omega) _) ?_;rintro E H ⟨rfl,rfl⟩;go_wp2
             go_round
             case rel=>exact⟨j+1,by omega,by omega,by go_num,by unfold mB; rw [if_neg (by omega)]; rfl,by unfold jr; rw [if_neg (by omega)]; rfl,fun t a i=>by
              by_cases O:t<j
              · exact r.z t a O
              · obtain rfl:t=j:=by omega
                exact N.z⟩
             case measure=>simp [intOf]; omega
           · have e:=ω (b.bad j L K (fun I=>g (h.z.1 I)));have a:=ω (show (d:Int)<(x:Int)\/(y:Int)<(d:Int) by omega);clear h g b n
             go_wp2_with fail
             refine Calls.mono (eE _ _ _ a.z _) ?_;rintro E H ⟨rfl,rfl⟩;go_wp2;go_ret;exact⟨bB (by rw [<- q.z,e.z]),rfl⟩
         · obtain rfl:j=2+1:=by omega
           have e:=ω (b.ok (by omega) (fun t a i=>r.z t a (by omega)));clear b;go_wp2
           go_round
           case rel=>exact⟨k+3,by omega,by go_num,by rw [<- q.z,<- List.drop_drop,n.z]; exact e.z.symm⟩
           case measure=>simp [intOf]; omega
    by_cases kf:c=240
    · have b:=ω (Cls.of (m:=3) (lo:=144) (hi:=191) B v (by omega) (by unfold jR; subst kf; rfl));have _:decide ((c:Int)<128)=false:=fK (by omega);have _:decide ((194:Int)<=c)=true:=t8 (by omega);have _:decide ((c:Int)<=223)=false:=fK (by omega);have _:decide ((224:Int)<=c)=true:=t8 (by omega);have _:decide ((c:Int)<=239)=false:=fK (by omega);have _:decide ((240:Int)<=c)=true:=t8 (by omega);have _:decide ((c:Int)<=244)=true:=t8 (by omega);have _:((c:Int) == 240)=true:=beq_iff_eq.2 (by omega);have _:((c:Int) == 244)=false:=by rw [beq_eq_false_iff_ne]; omega
      clear B v;have T:=iy (lo:=144) (j:=1) (by omega);by_cases U:s.size<k+3+1
      · have e:=ω (b.short (by omega));clear b;go_wp2;go_ret;exact⟨bB (by rw [<- q.z,e.z]),rfl⟩
      · go_wp2
        go_loop [2,6,7,8,68] (fun _ F G o _=>rT P 3 144 191 F G o) (fun _ _ _ o _=>3+1 - (intOf o).toNat)
        case atStart=>exact⟨1,by omega,by omega,rfl,rfl,rfl,fun t a i=>by omega⟩
        case round=>
         obtain⟨j,L,S,rfl,rfl,rfl,u⟩:=hrel;have r:=ω u;clear u;by_cases K:j<=3
         · have z:k+j<s.size:=by omega
           obtain⟨d,l⟩:∃ d:Nat,s[k+j].toNat=d:=⟨_,rfl⟩;have Q:d<256:=by rw [<- l]; exact s[k+j].toNat_lt
           have R:∀ W,(Instr.index 9 (.string s) (.int .i64 ((k:Int)+(j:Int)))).run Tryz.prog W = .ok (.int .u8 (d:Int)) W:=fun W=>by
            have:=jq z l W;rw [Int.natCast_add] at this;exact this
           have p:=drop_at z l;rw [n.z] at p;have h:=ω (qX (lo:=144) (hi:=191) p);have M:=iy (lo:=144) (j:=j) (by omega);have J:=nJ (hi:=191) (j:=j) (by omega);obtain⟨x,C⟩:∃ x,mB 144 j=x:=⟨_,rfl⟩;obtain⟨y,D⟩:∃ y,jr 191 j=y:=⟨_,rfl⟩;rw [C] at h M |-;rw [D] at h J |-;clear l p C D;by_cases g:x<=d/\d<=y
           · have N:=ω (h.z.2 g);have a:=ω g.1;have i:=ω g.2;clear h g b n
             go_wp2_with fail
             refine Calls.mono (dh _ _ _ (by have:=a.z; omega) (by have:=i.z; omega) _) ?_;rintro E H ⟨rfl,rfl⟩;go_wp2
             go_round
             case rel=>exact⟨j+1,by omega,by omega,by go_num,by unfold mB; rw [if_neg (by omega)]; rfl,by unfold jr; rw [if_neg (by omega)]; rfl,fun t a i=>by
              by_cases O:t<j
              · exact r.z t a O
              · obtain rfl:t=j:=by omega
                exact N.z⟩
             case measure=>simp [intOf]; omega
           · have e:=ω (b.bad j L K (fun I=>g (h.z.1 I)));have a:=ω (show (d:Int)<(x:Int)\/(y:Int)<(d:Int) by omega);clear h g b n
             go_wp2_with fail
             refine Calls.mono (eE _ _ _ a.z _) ?_;rintro E H ⟨rfl,rfl⟩;go_wp2;go_ret;exact⟨bB (by rw [<- q.z,e.z]),rfl⟩
         · obtain rfl:j=3+1:=by omega
           have e:=ω (b.ok (by omega) (fun t a i=>r.z t a (by omega)));clear b;go_wp2
           go_round
           case rel=>exact⟨k+4,by omega,by go_num,by rw [<- q.z,<- List.drop_drop,n.z]; exact e.z.symm⟩
           case measure=>simp [intOf]; omega
    by_cases kh:c=244
    · have b:=ω (Cls.of (m:=3) (lo:=128) (hi:=143) B v (by omega) (by unfold jR; subst kh; rfl));have _:decide ((c:Int)<128)=false:=fK (by omega);have _:decide ((194:Int)<=c)=true:=t8 (by omega);have _:decide ((c:Int)<=223)=false:=fK (by omega);have _:decide ((224:Int)<=c)=true:=t8 (by omega);have _:decide ((c:Int)<=239)=false:=fK (by omega);have _:decide ((240:Int)<=c)=true:=t8 (by omega);have _:decide ((c:Int)<=244)=true:=t8 (by omega);have _:((c:Int) == 240)=false:=by rw [beq_eq_false_iff_ne]; omega
      have _:((c:Int) == 244)=true:=beq_iff_eq.2 (by omega);clear B v;have T:=iy (lo:=128) (j:=1) (by omega);by_cases U:s.size<k+3+1
      · have e:=ω (b.short (by omega));clear b;go_wp2;go_ret;exact⟨bB (by rw [<- q.z,e.z]),rfl⟩
      · go_wp2
        go_loop [2,6,7,8,68] (fun _ F G o _=>rT P 3 128 143 F G o) (fun _ _ _ o _=>3+1 - (intOf o).toNat)
        case atStart=>exact⟨1,by omega,by omega,rfl,rfl,rfl,fun t a i=>by omega⟩
        case round=>
         obtain⟨j,L,S,rfl,rfl,rfl,u⟩:=hrel;have r:=ω u;clear u;by_cases K:j<=3
         · have z:k+j<s.size:=by omega
           obtain⟨d,l⟩:∃ d:Nat,s[k+j].toNat=d:=⟨_,rfl⟩;have Q:d<256:=by rw [<- l]; exact s[k+j].toNat_lt
           have R:∀ W,(Instr.index 9 (.string s) (.int .i64 ((k:Int)+(j:Int)))).run Tryz.prog W = .ok (.int .u8 (d:Int)) W:=fun W=>by
            have:=jq z l W;rw [Int.natCast_add] at this;exact this
           have p:=drop_at z l;rw [n.z] at p;have h:=ω (qX (lo:=128) (hi:=143) p);have M:=iy (lo:=128) (j:=j) (by omega);have J:=nJ (hi:=143) (j:=j) (by omega);obtain⟨x,C⟩:∃ x,mB 128 j=x:=⟨_,rfl⟩;obtain⟨y,D⟩:∃ y,jr 143 j=y:=⟨_,rfl⟩;rw [C] at h M |-;rw [D] at h J |-;clear l p C D;by_cases g:x<=d/\d<=y
           · have N:=ω (h.z.2 g);have a:=ω g.1;have i:=ω g.2;clear h g b n
             go_wp2_with fail
             refine Calls.mono (dh _ _ _ (by have:=a.z; omega) (by have:=i.z; omega) _) ?_;rintro E H ⟨rfl,rfl⟩;go_wp2
             go_round
             case rel=>exact⟨j+1,by omega,by omega,by go_num,by unfold mB; rw [if_neg (by omega)]; rfl,by unfold jr; rw [if_neg (by omega)]; rfl,fun t a i=>by
              by_cases O:t<j
              · exact r.z t a O
              · obtain rfl:t=j:=by omega
                exact N.z⟩
             case measure=>simp [intOf]; omega
           · have e:=ω (b.bad j L K (fun I=>g (h.z.1 I)));have a:=ω (show (d:Int)<(x:Int)\/(y:Int)<(d:Int) by omega);clear h g b n
             go_wp2_with fail
             refine Calls.mono (eE _ _ _ a.z _) ?_;rintro E H ⟨rfl,rfl⟩;go_wp2;go_ret;exact⟨bB (by rw [<- q.z,e.z]),rfl⟩
         · obtain rfl:j=3+1:=by omega
           have e:=ω (b.ok (by omega) (fun t a i=>r.z t a (by omega)));clear b;go_wp2
           go_round
           case rel=>exact⟨k+4,by omega,by go_num,by rw [<- q.z,<- List.drop_drop,n.z]; exact e.z.symm⟩
           case measure=>simp [intOf]; omega
    by_cases kg:240<=c/\c<=244
    · have b:=ω (Cls.of (m:=3) (lo:=128) (hi:=191) B v (by omega) (by unfold jR; rw [if_neg (by omega),if_neg (by omega),if_neg (by omega),if_pos (by omega),if_neg (by omega),if_neg (by omega)]));have _:decide ((c:Int)<128)=false:=fK (by omega);have _:decide ((194:Int)<=c)=true:=t8 (by omega);have _:decide ((c:Int)<=223)=false:=fK (by omega);have _:decide ((224:Int)<=c)=true:=t8 (by omega);have _:decide ((c:Int)<=239)=false:=fK (by omega);have _:decide ((240:Int)<=c)=true:=t8 (by omega);have _:decide ((c:Int)<=244)=true:=t8 (by omega);have _:((c:Int) == 240)=false:=by rw [beq_eq_false_iff_ne]; omega
      have _:((c:Int) == 244)=false:=by rw [beq_eq_false_iff_ne]; omega
      clear B v;have T:=iy (lo:=128) (j:=1) (by omega);by_cases U:s.size<k+3+1
      · have e:=ω (b.short (by omega));clear b;go_wp2;go_ret;exact⟨bB (by rw [<- q.z,e.z]),rfl⟩
      · go_wp2
        go_loop [2,6,7,8,68] (fun _ F G o _=>rT P 3 128 191 F G o) (fun _ _ _ o _=>3+1 - (intOf o).toNat)
        case atStart=>exact⟨1,by omega,by omega,rfl,rfl,rfl,fun t a i=>by omega⟩
        case round=>
         obtain⟨j,L,S,rfl,rfl,rfl,u⟩:=hrel;have r:=ω u;clear u;by_cases K:j<=3
         · have z:k+j<s.size:=by omega
           obtain⟨d,l⟩:∃ d:Nat,s[k+j].toNat=d:=⟨_,rfl⟩;have Q:d<256:=by rw [<- l]; exact s[k+j].toNat_lt
           have R:∀ W,(Instr.index 9 (.string s) (.int .i64 ((k:Int)+(j:Int)))).run Tryz.prog W = .ok (.int .u8 (d:Int)) W:=fun W=>by
            have:=jq z l W;rw [Int.natCast_add] at this;exact this
           have p:=drop_at z l;rw [n.z] at p;have h:=ω (qX (lo:=128) (hi:=191) p);have M:=iy (lo:=128) (j:=j) (by omega);have J:=nJ (hi:=191) (j:=j) (by omega);obtain⟨x,C⟩:∃ x,mB 128 j=x:=⟨_,rfl⟩;obtain⟨y,D⟩:∃ y,jr 191 j=y:=⟨_,rfl⟩;rw [C] at h M |-;rw [D] at h J |-;clear l p C D;by_cases g:x<=d/\d<=y
           · have N:=ω (h.z.2 g);have a:=ω g.1;have i:=ω g.2;clear h g b n
             go_wp2_with fail
             refine Calls.mono (dh _ _ _ (by have:=a.z; omega) (by have:=i.z; omega) _) ?_;rintro E H ⟨rfl,rfl⟩;go_wp2
             go_round
             case rel=>exact⟨j+1,by omega,by omega,by go_num,by unfold mB; rw [if_neg (by omega)]; rfl,by unfold jr; rw [if_neg (by omega)]; rfl,fun t a i=>by
              by_cases O:t<j
              · exact r.z t a O
              · obtain rfl:t=j:=by omega
                exact N.z⟩
             case measure=>simp [intOf]; omega
           · have e:=ω (b.bad j L K (fun I=>g (h.z.1 I)));have a:=ω (show (d:Int)<(x:Int)\/(y:Int)<(d:Int) by omega);clear h g b n
             go_wp2_with fail
             refine Calls.mono (eE _ _ _ a.z _) ?_;rintro E H ⟨rfl,rfl⟩;go_wp2;go_ret;exact⟨bB (by rw [<- q.z,e.z]),rfl⟩
         · obtain rfl:j=3+1:=by omega
           have e:=ω (b.ok (by omega) (fun t a i=>r.z t a (by omega)));clear b;go_wp2
           go_round
           case rel=>exact⟨k+4,by omega,by go_num,by rw [<- q.z,<- List.drop_drop,n.z]; exact e.z.symm⟩
           case measure=>simp [intOf]; omega
    have e:=ω (CF B v (by omega) (by
     unfold jR;by_cases a:c<194
     · rw [if_pos a]
     · rw [if_neg a,if_neg (by omega),if_neg (by omega),if_neg (by omega)]))
    have e0:decide ((c:Int)<128)=false:=fK (by omega);by_cases kq:c<194
    · have e1:decide ((194:Int)<=c)=false:=fK (by omega);have e2:decide ((224:Int)<=c)=false:=fK (by omega);have e3:decide ((240:Int)<=c)=false:=fK (by omega);clear B v n;go_wp2;go_ret;exact⟨bB (by rw [<- q.z,e.z]),rfl⟩
    · have e1:decide ((194:Int)<=c)=true:=t8 (by omega);have e2:decide ((224:Int)<=c)=true:=t8 (by omega);have e3:decide ((240:Int)<=c)=true:=t8 (by omega);have e4:decide ((c:Int)<=223)=false:=fK (by omega);have e5:decide ((c:Int)<=239)=false:=fK (by omega);have e6:decide ((c:Int)<=244)=false:=fK (by omega);clear B v n;go_wp2;go_ret;exact⟨bB (by rw [<- q.z,e.z]),rfl⟩
  · obtain rfl:k=s.size:=by omega
    have e:=ω (show validD s.data.toList=true by rw [<- V,List.drop_of_length_le (by rw [Array.length_toList]; exact lJ)]; rfl);clear V;go_wp2;go_ret;exact⟨bB (by rw [e.z]),rfl⟩
end Go.Proofs.YtimglglgcgpjgaaGreatDoor
