/- Of the proof of a statement: PlJp. -/
import Derived.Lib.AtoiAll
import Derived.Lib.AtoiAllCases
import Derived.Lib.Small
import Derived.Test.YtcpgnjmaampglaaGreatDoorWPlJson
set_option linter.unusedVariables false
set_option linter.unusedSimpArgs false
set_option maxRecDepth 100000
set_option maxHeartbeats 8000000
/- What the program's reader of JSON gives: plain. -/
namespace Go.Proofs.YtcpgnjmaampglaaGreatDoor
open Go.Lib (hid)
open Go.Lib (hasPrefix trimPrefix itoa atoiAll atoiSat decDigits)
def BA (l:List UInt8):ByteArray:=⟨l.toArray⟩
theorem yu (s:ByteArray):BA s.data.toList=s:=rfl
theorem ko (l:List UInt8):(BA l).data.toList=l:=rfl
theorem cT (l:List UInt8):(BA l).size=l.length:=by show l.toArray.size=l.length; simp
theorem o8 (s:ByteArray):s.data.toList.length=s.size:=by rw [Array.length_toList]; rfl
theorem LZ (s:ByteArray) (k:Nat):(s.extract k s.size).data.toList=s.data.toList.drop k:=by
 rw [ByteArray.data_extract,Array.toList_extract,List.extract_eq_take_drop,List.take_of_length_le]
 rw [List.length_drop,o8]
 exact Nat.le_refl _
theorem sD (l:List UInt8) (k:Nat):(BA l).extract k (BA l).size=BA (l.drop k):=by
 have h:=LZ (BA l) k
 rw [ko] at h
 rw [← yu ((BA l).extract k (BA l).size),h]
abbrev JS:=List UInt8 × Bool
def aX (p:List UInt8) (σ:JS):JS:=if σ.2 then (σ.1,true) else (trimPrefix σ.1 p,!hasPrefix σ.1 p)
def lE (c:UInt8):Bool:=c == 45 || (decide (48≤c) && decide (c≤57))
def bC (σ:JS):Int × JS:=match atoiAll (σ.1.takeWhile lE) with
 | .ok v=>(v,σ.1.dropWhile lE,σ.2)
 | .range=>(atoiSat (σ.1.takeWhile lE),σ.1.dropWhile lE,true)
 | _=>(0,σ.1.dropWhile lE,true)
def tU (c:UInt8):Option Nat:=if 48≤c.toNat∧c.toNat≤57 then some (c.toNat - 48) else if 97≤c.toNat∧c.toNat≤102 then some (c.toNat - 87) else if 65≤c.toNat∧c.toNat≤70 then some (c.toNat - 55) else none
def CM (l:List UInt8):Option UInt8:=match l with
 | a :: b :: _=>(tU a).bind fun x=>(tU b).map fun y=>UInt8.ofNat (16*x+y)
 | _=>none
def dQ (acc l:List UInt8):List UInt8 × JS:=
 if l=[] then (acc,[],true)
 else if hasPrefix l [92,117,48,48] then
  (if (l.drop 4).length<2 then (acc,l.drop 4,true)
   else match CM (l.drop 4) with
    | some b=>(acc ++ [b],l.drop 6,false)
    | none=>(acc ++ [0],l.drop 6,true))
 else if hasPrefix l [92] then (match l.drop 1 with
  | []=>(acc,[],true)
  | d :: r=>(acc ++ [d],r,false))
 else (acc ++ l.take 1,l.drop 1,false)
def ny:Nat→List UInt8 × JS→List UInt8 × JS
 | 0,a=>(a.1,a.2.1,true)
 | n+1,a=>if a.2.2 then (a.1,a.2.1,true) else if hasPrefix a.2.1 [34] then (a.1,a.2.1.drop 1,false) else ny n (dQ a.1 a.2.1)
def dL (σ:JS):List UInt8 × JS:=ny ((aX [34] σ).1.length+1) ([],aX [34] σ)
def fvJ (v:FV) (σ:JS):FV × JS:=match v with
 | .num _=>(.num (bC σ).1,(bC σ).2)
 | .txt _=>(.txt ⟨(dL σ).1.toArray⟩,(dL σ).2)
abbrev bY:=List (ByteArray × FV)
def jf (a:bY × JS) (f:ByteArray × FV):bY × JS:=
 (a.1 ++ [(f.1,(fvJ f.2 (aX (aV f.1.data.toList ++ [58]) (if a.1=[] then a.2 else aX [44] a.2))).1)],(fvJ f.2 (aX (aV f.1.data.toList ++ [58]) (if a.1=[] then a.2 else aX [44] a.2))).2)
def BJ (fs:bY) (σ:JS):bY × JS:=fs.foldl jf ([],aX [123] σ)
def eG (fs:bY) (σ:JS):bY × JS:=((BJ fs σ).1,aX [125] (BJ fs σ).2)
def kC (fs:bY):Nat→List bY × JS→List bY × JS
 | 0,a=>(a.1,a.2.1,true)
 | n+1,a=>if a.2.2 then (a.1,a.2.1,true) else if hasPrefix a.2.1 [93] then (a.1,a.2.1.drop 1,false)
  else kC fs n (a.1 ++ [(eG fs (if a.1=[] then a.2 else aX [44] a.2)).1],(eG fs (if a.1=[] then a.2 else aX [44] a.2)).2)
def jh (name:ByteArray) (fs:bY) (σ:JS):List bY × JS:=kC fs ((aX ([44] ++ aV name.data.toList ++ [58,91]) σ).1.length+1) ([],aX ([44] ++ aV name.data.toList ++ [58,91]) σ)
def iy:bY:=j5 ⟨⟨#[]⟩,0,0,0,⟨#[]⟩⟩
def eI:bY:=gQ ⟨⟨#[]⟩,0,⟨#[]⟩⟩
def cR:bY:=eT ⟨⟨#[]⟩,⟨#[]⟩,0⟩
def EB (f:ByteArray × FV):ByteArray:=match f.2 with | .txt s=>s | .num _=>⟨#[]⟩
def L0 (f:ByteArray × FV):Int:=match f.2 with | .num n=>n | .txt _=>0
def fAt (l:bY) (i:Nat):ByteArray × FV:=l.getD i (⟨#[]⟩,.num 0)
def kQ (l:bY):aB:=⟨EB (fAt l 0),L0 (fAt l 1),L0 (fAt l 2),L0 (fAt l 3),EB (fAt l 4)⟩
def iX (l:bY):av:=⟨EB (fAt l 0),L0 (fAt l 1),EB (fAt l 2)⟩
def gH (l:bY):ak:=⟨EB (fAt l 0),EB (fAt l 1),L0 (fAt l 2)⟩
def kS:ByteArray:=⟨#[106,111,98,115]⟩
def jr:ByteArray:=⟨#[110,111,100,101,115]⟩
def iO:ByteArray:=⟨#[108,101,97,115,101,115]⟩
def lY (t:List UInt8):ah × JS:=
 let n:=bC (aX [123,34,114,101,118,34,58] (t,false))
 let j:=jh kS iy n.2
 let o:=jh jr eI j.2
 let l:=jh iO cR o.2
 (⟨n.1,j.1.map kQ,o.1.map iX,l.1.map gH⟩,aX [125] l.2)
theorem kr (p r:List UInt8):aX p (p ++ r,false)=(r,false):=by
 unfold aX trimPrefix hasPrefix
 simp
theorem L1:∀ c:Fin 32,CM ([zW (c.val / 16),zW (c.val % 16)])=some (UInt8.ofNat c.val):=by decide +kernel
theorem L2 (a b:UInt8) (r:List UInt8):CM (a :: b :: r)=CM [a,b]:=rfl
theorem CR (acc:List UInt8) (c:UInt8) (r:List UInt8):hasPrefix (gI c ++ r) [34]=false∧dQ acc (gI c ++ r)=(acc ++ [c],r,false):=by
 by_cases h1:c.toNat=34∨c.toNat=92
 · have hc:c≠117:=by rintro rfl; revert h1; decide
   rw [zX h1]
   refine⟨by simp [hasPrefix,List.isPrefixOf],?_⟩
   unfold dQ
   rw [if_neg (by simp),if_neg (by simp [hasPrefix,List.isPrefixOf,Ne.symm hc]),if_pos (by simp [hasPrefix,List.isPrefixOf])]
   rfl
 · by_cases h2:c.toNat<32
   · rw [zY h2]
     refine⟨by simp [hasPrefix,List.isPrefixOf],?_⟩
     unfold dQ
     rw [if_neg (by simp),if_pos (by simp [hasPrefix,List.isPrefixOf])]
     have hb:=L1 ⟨c.toNat,h2⟩
     simp only at hb
     simp only [List.cons_append,List.nil_append,List.drop_succ_cons,List.drop_zero,List.length_cons]
     rw [if_neg (by omega),L2,hb]
     simp
   · have h3:c.toNat≠34:=fun h=>h1 (.inl h)
     have h4:c.toNat≠92:=fun h=>h1 (.inr h)
     have e3:¬ (34:UInt8)=c:=by rintro rfl; exact h3 rfl
     have e4:¬ (92:UInt8)=c:=by rintro rfl; exact h4 rfl
     rw [uE h3 h4 h2]
     refine⟨by simp [hasPrefix,List.isPrefixOf,e3],?_⟩
     unfold dQ
     rw [if_neg (by simp),if_neg (by simp [hasPrefix,List.isPrefixOf,e4]),if_neg (by simp [hasPrefix,List.isPrefixOf,e4])]
     rfl
theorem GA (c:UInt8):1≤(gI c).length:=by unfold gI; split <;> (try split) <;> simp
theorem xD:∀ (s:List UInt8) (n:Nat) (acc r:List UInt8),(s.flatMap gI ++ 34 :: r).length<n→ny n (acc,s.flatMap gI ++ 34 :: r,false)=(acc ++ s,r,false)
 | [],n,acc,r,h=>by
  obtain⟨m,rfl⟩:∃ m,n=m+1:=⟨n - 1,by omega⟩
  simp [ny,hasPrefix,List.isPrefixOf]
 | c :: s,n,acc,r,h=>by
  obtain⟨m,rfl⟩:∃ m,n=m+1:=⟨n - 1,by omega⟩
  have hq:=CR acc c (s.flatMap gI ++ 34 :: r)
  have hp:=GA c
  rw [List.flatMap_cons,List.append_assoc] at h ⊢
  rw [ny]
  simp only
  rw [if_neg (by simp),hq.1,if_neg (by simp),hq.2,xD s m (acc ++ [c]) r (by rw [List.length_append] at h; omega)]
  simp
theorem GB (s r:List UInt8):dL (aV s ++ r,false)=(s,r,false):=by
 have e:aX [34] (aV s ++ r,false)=(s.flatMap gI ++ 34 :: r,false):=by
  have e1:aV s ++ r=[34] ++ (s.flatMap gI ++ 34 :: r):=by simp [aV,lZ]
  rw [e1,kr]
 unfold dL
 rw [e,xD s _ [] r (Nat.lt_succ_self _)]
 rfl
theorem N7 {d:Nat} (h:d<10):(UInt8.ofNat (48+d)).toNat=48+d:=by rw [UInt8.toNat_ofNat']; omega
theorem og (u:Nat):decDigits u=if u<10 then [UInt8.ofNat (48+u)] else decDigits (u / 10) ++ [UInt8.ofNat (48+u % 10)]:=by
 rw [decDigits]
 split <;> rfl
theorem wF (u:Nat):∀ c ∈ decDigits u,48≤c.toNat∧c.toNat≤57:=by
 induction u using Nat.strongRecOn with
 | ind u ih=>
  intro c hc
  rw [og] at hc
  split at hc
  · rw [List.mem_singleton] at hc; subst hc; rw [N7 (by omega)]; omega
  · rw [List.mem_append,List.mem_singleton] at hc
    rcases hc with hc | rfl
    · exact ih (u / 10) (by omega) c hc
    · rw [N7 (by omega)]; omega
theorem L3 (u:Nat):decDigits u≠[]:=by
 rw [og]
 split <;> simp
open Go.Lib (parseUint10 parseMag) in
theorem BQ:∀ (l:List UInt8) (a v d:Nat),d<10→parseUint10 a l = .ok v→v<1000000000000000000→parseUint10 a (l ++ [UInt8.ofNat (48+d)]) = .ok (v*10+d)
 | [],a,v,d,hd,h,hv=>by
  simp only [parseUint10] at h
  injection h with h; subst h
  simp only [List.nil_append,parseUint10,N7 hd]
  rw [if_pos (by omega),if_neg (by omega),if_neg (by omega)]
  simp
 | c :: r,a,v,d,hd,h,hv=>by
  simp only [List.cons_append,parseUint10] at h ⊢
  split at h
  · rename_i h1
    split at h
    · cases h
    · rename_i h2
      split at h
      · cases h
      · rename_i h3
        rw [if_pos h1,if_neg h2,if_neg h3]
        exact BQ r _ v d hd h hv
  · cases h
open Go.Lib (parseUint10 parseMag) in
theorem BR (u:Nat) (hu:u<1000000000000000000):parseUint10 0 (decDigits u) = .ok u:=by
 induction u using Nat.strongRecOn with
 | ind u ih=>
  rw [og]
  split
  · rename_i h
    simp only [parseUint10,N7 h]
    rw [if_pos (by omega),if_neg (by omega),if_neg (by omega)]
    simp
  · rename_i h
    rw [BQ _ 0 (u / 10) (u % 10) (by omega) (ih (u / 10) (by omega) (by omega)) (by omega)]
    congr 1; omega
theorem JK (n:Int) (h0 : -1000000000000000000<n) (h1:n<1000000000000000000):atoiAll (itoa n) = .ok n:=by
 unfold itoa
 split
 · rename_i hn
   rw [Go.Lib.atoiAll_minus,Go.Lib.parseMag,if_neg (L3 _),BR _ (by omega)]
   simp only [Go.Lib.signed]
   rw [if_neg (by omega)]
   congr 1; omega
 · rename_i hn
   obtain⟨c,r,hcr⟩:=List.exists_cons_of_ne_nil (L3 n.toNat)
   have hc:=wF n.toNat c (by rw [hcr]; simp)
   have hp:=BR n.toNat (by omega)
   rw [hcr] at hp ⊢
   rw [Go.Lib.atoiAll_plain c r (by omega) (by omega),Go.Lib.parseMag,if_neg (by simp),hp]
   simp only [Go.Lib.signless]
   rw [if_neg (by omega)]
   congr 1; omega
theorem EC {c:UInt8} (h:48≤c.toNat∧c.toNat≤57):lE c=true:=by
 unfold lE
 have h1:(48:UInt8)≤c:=UInt8.le_iff_toNat_le.2 h.1
 have h2:c≤57:=UInt8.le_iff_toNat_le.2 h.2
 simp [h1,h2]
theorem JL (n:Int):∀ c ∈ itoa n,lE c=true:=by
 intro c hc
 unfold itoa at hc
 split at hc
 · rcases List.mem_cons.1 hc with rfl | hc
   · rfl
   · exact EC (wF _ c hc)
 · exact EC (wF _ c hc)
theorem sA {p:UInt8→Bool}:∀ (a:List UInt8) (c:UInt8) (r:List UInt8),(∀ x ∈ a,p x=true)→p c=false→(a ++ c :: r).takeWhile p=a∧(a ++ c :: r).dropWhile p=c :: r
 | [],c,r,_,hc=>by simp [List.takeWhile_cons,List.dropWhile_cons,hc]
 | x :: a,c,r,h,hc=>by
  have ih:=sA a c r (fun y hy=>h y (List.mem_cons_of_mem _ hy)) hc
  have hx:=h x (List.mem_cons_self)
  simp [List.takeWhile_cons,List.dropWhile_cons,hx,ih.1,ih.2]
theorem ED (n:Int) (h0 : -1000000000000000000<n) (h1:n<1000000000000000000) (c:UInt8) (r:List UInt8) (hc:lE c=false):bC (itoa n ++ c :: r,false)=(n,c :: r,false):=by
 obtain⟨e1,e2⟩:=sA (itoa n) c r (JL n) hc
 unfold bC
 simp only [e1,e2,JK n h0 h1]
theorem tK {p:UInt8→Bool}:∀ (l:List UInt8) (k:Nat),k≤l.length→(∀ i,i<k→∀ c,l[i]? = some c→p c=true)→(∀ c,l[k]? = some c→p c=false)→l.takeWhile p=l.take k∧l.dropWhile p=l.drop k
 | [],k,hk,_,_=>by simp
 | x :: l,0,hk,h1,h2=>by
  have:=h2 x rfl
  simp [List.takeWhile_cons,List.dropWhile_cons,this]
 | x :: l,k+1,hk,h1,h2=>by
  have h:=h1 0 (by omega) x rfl
  have ih:=tK l k (by simpa using hk) (fun i hi c hc=>h1 (i+1) (by omega) c hc) (fun c hc=>h2 c hc)
  simp [List.takeWhile_cons,List.dropWhile_cons,h,ih.1,ih.2]
def Mid (v:FV):Prop:=match v with
 | .num n=>-1000000000000000000<n∧n<1000000000000000000
 | .txt _=>True
def kindOf:FV→Bool
 | .num _=>true
 | .txt _=>false
theorem N8 (v z:FV) (hk:kindOf v=kindOf z) (hv:Mid v) (c:UInt8) (r:List UInt8) (hc:lE c=false):fvJ z (fvL v ++ c :: r,false)=(v,c :: r,false):=by
 cases v with
 | num n=>
  cases z with
  | txt s=>cases hk
  | num m=>
   have:=ED n hv.1 hv.2 c r hc
   simp only [fvJ,fvL,this]
 | txt s=>
  cases z with
  | num m=>cases hk
  | txt q=>
   have:=GB s.data.toList (c :: r)
   simp only [fvJ,fvL,this]
theorem L4 (a:bY) (nm:ByteArray) (v z:FV) (hk:kindOf v=kindOf z) (hv:Mid v) (c:UInt8) (r:List UInt8) (hc:lE c=false) :
 jf (a,(if a=[] then [] else [44]) ++ fN (nm,v) ++ c :: r,false) (nm,z)=(a ++ [(nm,v)],c :: r,false):=by
 have e:(if a=[] then ((if a=[] then [] else [44]) ++ fN (nm,v) ++ c :: r,false) else aX [44] ((if a=[] then [] else [44]) ++ fN (nm,v) ++ c :: r,false))=((fN (nm,v) ++ c :: r,false):JS):=by
  split
  · simp
  · rw [List.append_assoc,kr]
 unfold jf
 simp only
 rw [e,show fN (nm,v) ++ c :: r=(aV nm.data.toList ++ [58]) ++ (fvL v ++ c :: r) by simp [fN],kr,N8 v z hk hv c r hc]
def pA (first:Bool):bY→List UInt8
 | []=>[]
 | f :: l=>(if first then [] else [44]) ++ fN f ++ pA false l
theorem xE:∀ l:bY,pA false l=(l.map fN).flatMap fun y=>44 :: y
 | []=>rfl
 | f :: l=>by simp [pA,xE l]
theorem EE (l:bY):pA true l=dY (l.map fN):=by
 cases l with
 | nil=>rfl
 | cons f l=>simp [pA,xE,dY]
theorem JM (l:bY) (r:List UInt8):∃ c q,pA false l ++ 125 :: r=c :: q∧lE c=false:=by
 cases l with
 | nil=>exact⟨125,r,rfl,rfl⟩
 | cons f l=>exact⟨44,_,rfl,rfl⟩
theorem BS:∀ (zs:bY) (a:bY) (fs:bY) (r:List UInt8),fs.length=zs.length→(∀ (i:Nat) (f z:ByteArray × FV),fs[i]? = some f→zs[i]? = some z→f.1=z.1∧kindOf f.2=kindOf z.2∧Mid f.2) →
 zs.foldl jf (a,pA a.isEmpty fs ++ 125 :: r,false)=(a ++ fs,125 :: r,false)
 | [],a,fs,r,hl,_=>by
  have:fs=[]:=List.length_eq_zero_iff.1 hl
  subst this
  simp [pA]
 | (nm,z) :: zs,a,fs,r,hl,h=>by
  obtain⟨⟨nm',v⟩,fs',rfl⟩:∃ f fs',fs=f :: fs':=by
   cases fs with
   | nil=>cases hl
   | cons f fs'=>exact⟨f,fs',rfl⟩
  obtain⟨h1,h2,h3⟩:=h 0 _ _ rfl rfl
  simp only at h1 h2 h3
  subst h1
  obtain⟨c,q,hcq,hc⟩:=JM fs' r
  rw [List.foldl_cons]
  have e:pA a.isEmpty ((nm',v) :: fs') ++ 125 :: r=(if a=[] then [] else [44]) ++ fN (nm',v) ++ c :: q:=by
   rw [← hcq,pA]
   cases a <;> simp
  rw [e,L4 a nm' v z h2 h3 c q hc,← hcq]
  have ih:=BS zs (a ++ [(nm',v)]) fs' r (by simpa using hl) (fun i f z hf hz=>h (i+1) f z hf hz)
  rw [show (a ++ [(nm',v)]).isEmpty=false by simp] at ih
  rw [ih]
  simp
theorem L6 (zs fs:bY) (r:List UInt8) (hl:fs.length=zs.length) (h:∀ (i:Nat) (f z:ByteArray × FV),fs[i]? = some f→zs[i]? = some z→f.1=z.1∧kindOf f.2=kindOf z.2∧Mid f.2):eG zs (fO fs ++ r,false)=(fs,r,false):=by
 unfold eG BJ
 rw [show fO fs ++ r=[123] ++ (pA true fs ++ 125 :: r) by simp [fO,EE],kr,show pA true fs=pA ([]:bY).isEmpty fs from rfl,BS zs [] fs r hl h]
 simp only [List.nil_append]
 rw [show (125 :: r:List UInt8)=[125] ++ r from rfl,kr]
def iQ (first:Bool):List bY→List UInt8
 | []=>[]
 | f :: l=>(if first then [] else [44]) ++ fO f ++ iQ false l
theorem xF:∀ l:List bY,iQ false l=(l.map fO).flatMap fun y=>44 :: y
 | []=>rfl
 | f :: l=>by simp [iQ,xF l]
theorem EF (l:List bY):iQ true l=dY (l.map fO):=by
 cases l with
 | nil=>rfl
 | cons f l=>simp [iQ,xF,dY]
def Ix (zs fs:bY):Prop:=fs.length=zs.length∧∀ (i:Nat) (f z:ByteArray × FV),fs[i]? = some f→zs[i]? = some z→f.1=z.1∧kindOf f.2=kindOf z.2∧Mid f.2
theorem Iy (zs:bY):∀ (l:List bY) (n:Nat) (a:List bY) (r:List UInt8),(iQ a.isEmpty l ++ 93 :: r).length<n→(∀ f ∈ l,Ix zs f)→kC zs n (a,iQ a.isEmpty l ++ 93 :: r,false)=(a ++ l,r,false)
 | [],n,a,r,h,_=>by
  obtain⟨m,rfl⟩:∃ m,n=m+1:=⟨n - 1,by omega⟩
  simp [kC,iQ,hasPrefix,List.isPrefixOf]
 | f :: l,n,a,r,h,hf=>by
  obtain⟨m,rfl⟩:∃ m,n=m+1:=⟨n - 1,by omega⟩
  have hz:=hf f (List.mem_cons_self)
  have hne:hasPrefix (iQ a.isEmpty (f :: l) ++ 93 :: r) [93]=false:=by
   cases a <;> simp [iQ,fO,hasPrefix,List.isPrefixOf]
  have e:(if a=[] then (iQ a.isEmpty (f :: l) ++ 93 :: r,false) else aX [44] (iQ a.isEmpty (f :: l) ++ 93 :: r,false))=((fO f ++ (iQ false l ++ 93 :: r),false):JS):=by
   cases a with
   | nil=>simp [iQ]
   | cons x a=>
    rw [if_neg (by simp),show iQ (x :: a).isEmpty (f :: l) ++ 93 :: r=[44] ++ (fO f ++ (iQ false l ++ 93 :: r)) by simp [iQ],kr]
  rw [kC]
  simp only
  rw [if_neg (by simp),hne,if_neg (by simp),e,L6 zs f _ hz.1 hz.2]
  have ih:=Iy zs l m (a ++ [f]) r (by
   rw [show (a ++ [f]).isEmpty=false by simp]
   have hp:1≤(fO f).length:=by simp [fO]
   simp only [iQ,List.length_append,List.length_cons] at h ⊢
   omega) (fun g hg=>hf g (List.mem_cons_of_mem _ hg))
  rw [show (a ++ [f]).isEmpty=false by simp] at ih
  simp only
  rw [ih]
  simp
theorem zZ (name:ByteArray) (zs:bY) (l:List bY) (r:List UInt8) (h:∀ f ∈ l,Ix zs f):jh name zs (lX name (l.map fO) ++ r,false)=(l,r,false):=by
 have e:aX ([44] ++ aV name.data.toList ++ [58,91]) (lX name (l.map fO) ++ r,false)=(iQ true l ++ 93 :: r,false):=by
  rw [show lX name (l.map fO) ++ r=([44] ++ aV name.data.toList ++ [58,91]) ++ (iQ true l ++ 93 :: r) by simp [lX,EF],kr]
 unfold jh
 rw [e]
 have:=Iy zs l ((iQ true l ++ 93 :: r).length+1) [] r (Nat.lt_succ_self _) h
 rw [show iQ ([]:List bY).isEmpty l=iQ true l from rfl] at this
 exact this
structure MidS (st:ah):Prop where
 r:Mid (.num st.rev)
 j:∀ x ∈ st.jobs,Mid (.num x.prio)∧Mid (.num x.need)∧Mid (.num x.tries)
 n:∀ x ∈ st.nodes,Mid (.num x.room)
 l:∀ x ∈ st.leases,Mid (.num x.till)
theorem Q6 {z1 z2 z3 z4 z5 f1 f2 f3 f4 f5:ByteArray × FV} (h1:f1.1=z1.1∧kindOf f1.2=kindOf z1.2∧Mid f1.2) (h2:f2.1=z2.1∧kindOf f2.2=kindOf z2.2∧Mid f2.2) (h3:f3.1=z3.1∧kindOf f3.2=kindOf z3.2∧Mid f3.2) (h4:f4.1=z4.1∧kindOf f4.2=kindOf z4.2∧Mid f4.2) (h5:f5.1=z5.1∧kindOf f5.2=kindOf z5.2∧Mid f5.2):Ix [z1,z2,z3,z4,z5] [f1,f2,f3,f4,f5]:=by
 refine⟨rfl,fun i f z hf hz=>?_⟩
 match i with
 | 0=>injection hf with hf; injection hz with hz; subst hf; subst hz; exact h1
 | 1=>injection hf with hf; injection hz with hz; subst hf; subst hz; exact h2
 | 2=>injection hf with hf; injection hz with hz; subst hf; subst hz; exact h3
 | 3=>injection hf with hf; injection hz with hz; subst hf; subst hz; exact h4
 | 4=>injection hf with hf; injection hz with hz; subst hf; subst hz; exact h5
 | n+5=>cases hf
theorem O6 {z1 z2 z3 f1 f2 f3:ByteArray × FV} (h1:f1.1=z1.1∧kindOf f1.2=kindOf z1.2∧Mid f1.2) (h2:f2.1=z2.1∧kindOf f2.2=kindOf z2.2∧Mid f2.2) (h3:f3.1=z3.1∧kindOf f3.2=kindOf z3.2∧Mid f3.2):Ix [z1,z2,z3] [f1,f2,f3]:=by
 refine⟨rfl,fun i f z hf hz=>?_⟩
 match i with
 | 0=>injection hf with hf; injection hz with hz; subst hf; subst hz; exact h1
 | 1=>injection hf with hf; injection hz with hz; subst hf; subst hz; exact h2
 | 2=>injection hf with hf; injection hz with hz; subst hf; subst hz; exact h3
 | n+3=>cases hf
theorem wG {α:Type} {f:α→bY} {g:bY→α} (h:∀ x,g (f x)=x) (l:List α):(l.map f).map g=l:=by
 rw [List.map_map]
 exact (List.map_congr_left (fun x _=>h x)).trans (List.map_id l)
theorem tC (st:ah) (h:MidS st):lY (eU st)=(st,[],false):=by
 have e:eU st=[123,34,114,101,118,34,58] ++ (itoa st.rev ++ (lX kS ((st.jobs.map j5).map fO) ++ (lX jr ((st.nodes.map gQ).map fO) ++ (lX iO ((st.leases.map eT).map fO) ++ [125])))):=by
  simp [eU,kS,jr,iO,List.map_map,Function.comp_def]
 obtain⟨q,hq⟩:∃ q,lX kS ((st.jobs.map j5).map fO) ++ (lX jr ((st.nodes.map gQ).map fO) ++ (lX iO ((st.leases.map eT).map fO) ++ [125]))=44 :: q:=⟨_,rfl⟩
 have e1:=ED st.rev h.r.1 h.r.2 44 q rfl
 rw [← hq] at e1
 unfold lY
 simp only [e,kr,e1]
 rw [zZ kS iy (st.jobs.map j5) _ (fun f hf=>by
  obtain⟨x,hx,rfl⟩:=List.mem_map.1 hf
  obtain⟨h1,h2,h3⟩:=h.j x hx
  exact Q6 ⟨rfl,rfl,trivial⟩ ⟨rfl,rfl,h1⟩ ⟨rfl,rfl,h2⟩ ⟨rfl,rfl,h3⟩ ⟨rfl,rfl,trivial⟩)]
 simp only
 rw [zZ jr eI (st.nodes.map gQ) _ (fun f hf=>by
  obtain⟨x,hx,rfl⟩:=List.mem_map.1 hf
  exact O6 ⟨rfl,rfl,trivial⟩ ⟨rfl,rfl,h.n x hx⟩ ⟨rfl,rfl,trivial⟩)]
 simp only
 rw [zZ iO cR (st.leases.map eT) _ (fun f hf=>by
  obtain⟨x,hx,rfl⟩:=List.mem_map.1 hf
  exact O6 ⟨rfl,rfl,trivial⟩ ⟨rfl,rfl,trivial⟩ ⟨rfl,rfl,h.l x hx⟩)]
 simp only
 have em:aX [125] ([125],false)=([],false):=kr [125] []
 rw [em,wG (fun x=>rfl),wG (fun x=>rfl),wG (fun x=>rfl)]
theorem EG (l p:List UInt8):(trimPrefix l p).length≤l.length:=by
 unfold trimPrefix; split
 · rw [List.length_drop]; omega
 · exact Nat.le_refl _
theorem JN {l p:List UInt8} (h:hasPrefix l p=true) (hp:0<p.length):(trimPrefix l p).length<l.length:=by
 unfold trimPrefix
 rw [if_pos h,List.length_drop]
 have:p.length≤l.length:=(List.isPrefixOf_iff_prefix.1 h).length_le
 omega
theorem dA (p:List UInt8) (σ:JS):(aX p σ).1.length≤σ.1.length:=by
 unfold aX; split
 · exact Nat.le_refl _
 · exact EG _ _
theorem JO {p:List UInt8} {σ:JS} (h:(aX p σ).2=false) (hp:0<p.length):(aX p σ).1.length<σ.1.length:=by
 unfold aX at h ⊢
 split
 · rename_i h1; rw [if_pos h1] at h; cases h
 · rename_i h1
   rw [if_neg h1] at h
   exact JN (by simpa using h) hp
theorem Aa {p:List UInt8} {σ:JS} (h:σ.2=true):(aX p σ).2=true:=by unfold aX; rw [if_pos h]
theorem N9 (σ:JS):(bC σ).2.1.length≤σ.1.length:=by
 have:(σ.1.dropWhile lE).length≤σ.1.length:=(List.dropWhile_suffix _).length_le
 unfold bC
 split <;> exact this
theorem Oa {σ:JS} (h:σ.2=true):(bC σ).2.2=true:=by
 unfold bC
 split <;> simp [h]
theorem GC {acc l:List UInt8} (hl:l≠[]):(dQ acc l).2.1.length<l.length:=by
 have h0:0<l.length:=List.length_pos_iff.2 hl
 unfold dQ
 rw [if_neg hl]
 split
 · split
   · simp only [List.length_drop]; omega
   · split <;> (simp only [List.length_drop]; omega)
 · split
   · split
     · exact h0
     · rename_i d r hd
       have:=congrArg List.length hd
       rw [List.length_drop,List.length_cons] at this
       simp only
       omega
   · simp only [List.length_drop]; omega
theorem tu (acc:List UInt8):dQ acc []=(acc,[],true):=by unfold dQ; rw [if_pos rfl]
theorem BT:∀ (n:Nat) (a:List UInt8 × JS),(ny n a).2.1.length≤a.2.1.length
 | 0,a=>Nat.le_refl _
 | n+1,a=>by
  rw [ny]
  split
  · exact Nat.le_refl _
  · split
    · simp only [List.length_drop]; omega
    · refine Nat.le_trans (BT n _) ?_
      by_cases hl:a.2.1=[]
      · rw [hl,tu]; exact Nat.le_refl _
      · exact Nat.le_of_lt (GC hl)
theorem BM (n:Nat) {a:List UInt8 × JS} (h:a.2.2=true):ny n a=(a.1,a.2.1,true):=by
 cases n with
 | zero=>rfl
 | succ n=>rw [ny,if_pos h]
theorem L7 (σ:JS):(dL σ).2.1.length≤σ.1.length:=by
 unfold dL
 exact Nat.le_trans (BT _ _) (dA _ _)
theorem L8 {σ:JS} (h:σ.2=true):(dL σ).2.2=true:=by
 unfold dL
 rw [BM _ (Aa h)]
theorem Qi (v:FV) (σ:JS):(fvJ v σ).2.1.length≤σ.1.length:=by
 cases v with
 | num n=>exact N9 σ
 | txt s=>exact L7 σ
theorem Qj {v:FV} {σ:JS} (h:σ.2=true):(fvJ v σ).2.2=true:=by
 cases v with
 | num n=>exact Oa h
 | txt s=>exact L8 h
theorem Iz (a:bY × JS) (f:ByteArray × FV):(jf a f).2.1.length≤a.2.1.length:=by
 unfold jf
 refine Nat.le_trans (Qi _ _) (Nat.le_trans (dA _ _) ?_)
 split
 · exact Nat.le_refl _
 · exact dA _ _
theorem Ob {a:bY × JS} {f:ByteArray × FV} (h:a.2.2=true):(jf a f).2.2=true:=by
 unfold jf
 refine Qj (Aa ?_)
 split
 · exact h
 · exact Aa h
theorem Ab:∀ (fs:bY) (a:bY × JS),(fs.foldl jf a).2.1.length≤a.2.1.length∧(a.2.2=true→(fs.foldl jf a).2.2=true)
 | [],a=>⟨Nat.le_refl _,id⟩
 | f :: fs,a=>by
  have h:=Ab fs (jf a f)
  exact⟨Nat.le_trans h.1 (Iz a f),fun hb=>h.2 (Ob hb)⟩
theorem LI {fs:bY} {σ:JS} (h:(eG fs σ).2.2=false):(eG fs σ).2.1.length<σ.1.length:=by
 unfold eG at h ⊢
 unfold BJ at h ⊢
 simp only at h ⊢
 have h1:=Ab fs ([],aX [123] σ)
 have h2:=JO h (by simp)
 have h3:(aX [123] σ).1.length≤σ.1.length:=dA _ _
 have:=h1.1
 simp only at this
 omega
theorem Oc (fs:bY) (σ:JS):(eG fs σ).2.1.length≤σ.1.length:=by
 unfold eG BJ
 have h1:=(Ab fs ([],aX [123] σ)).1
 have h3:(aX [123] σ).1.length≤σ.1.length:=dA _ _
 have h2:=dA [125] (fs.foldl jf ([],aX [123] σ)).2
 simp only at *
 omega
theorem Ge (fs:bY) (n:Nat) {a:List bY × JS} (h:a.2.2=true):kC fs n a=(a.1,a.2.1,true):=by
 cases n with
 | zero=>rfl
 | succ n=>rw [kC,if_pos h]
end Go.Proofs.YtcpgnjmaampglaaGreatDoor
