/- Frame, facts and contracts for ClosePlans. -/
import Derived.Test.YtjbfmocbophmlaaGreatCClosePlansB
set_option exponentiation.threshold 600
set_option linter.unusedVariables false
set_option linter.unusedSimpArgs false
set_option maxRecDepth 20000
set_option maxHeartbeats 1000000
namespace Fw
open Go (IntKind)
theorem nval_set {l:List Nat} {k d:Nat} (h:k<l.length):nval (l.set k d)+4294967296^k*l.getD k 0=nval l+4294967296^k*d:=by
  have h1:=split_at (l:=l) (i:=k+1) (by omega) (by omega)
  have h2:=split_at (l:=l.set k d) (i:=k+1) (by simp;omega) (by omega)
  simp only [Nat.add_sub_cancel] at h1 h2
  rw [List.take_set_of_le (by omega),List.drop_set_of_lt (by omega)] at h2
  have h3:(l.set k d).getD k 0=d:=by
    rw [List.getD_eq_getElem?_getD,List.getElem?_set_self h];rfl
  rw [h3] at h2
  rw [h1,h2,Nat.mul_add,Nat.mul_add]
  omega
theorem getD_set_ne' {l:List Nat} {k j d:Nat} (h:k≠j):(l.set k d).getD j 0=l.getD j 0:=by
  rw [List.getD_eq_getElem?_getD,List.getElem?_set_ne h,←List.getD_eq_getElem?_getD]
theorem Lims.set {l:List Nat} {k d:Nat} (h:Lims l) (hd:d<4294967296):Lims (l.set k d):=fun x hx=>by
  rcases List.mem_or_eq_of_mem_set hx with hx | rfl
  · exact h x hx
  · exact hd
theorem mul_bd {a b:Nat} (ha:a<4294967296) (hb:b<4294967296):a*b≤18446744065119617025:=by
  have:a*b≤4294967295*4294967295:=Nat.mul_le_mul (by omega) (by omega)
  omega
def MulO (A B row:List Nat) (i:Nat):Prop:=Lims row∧row.length=A.length+B.length∧nval row=nval (A.take i)*nval B∧∀p,i+B.length≤p→row.getD p 0=0
def MulI (A B row:List Nat) (i j c:Nat):Prop:=Lims row∧row.length=A.length+B.length∧c<4294967296∧nval row+4294967296^(i+j)*c=nval (A.take i)*nval B+4294967296^i*(A.getD i 0*nval (B.take j))∧∀p,i+B.length≤p→row.getD p 0=0
theorem mulO_0 (A B:List Nat):MulO A B (List.replicate (A.length+B.length) 0) 0:=by
  refine ⟨fun x hx=>?_,by simp,by simp [nval_replicate0,nval],fun p hp=>?_⟩
  · have:=(List.mem_replicate.1 hx).2;omega
  · rw [List.getD_eq_getElem?_getD,List.getElem?_replicate];split <;> rfl
theorem mulI_0 {A B row:List Nat} {i:Nat} (h:MulO A B row i):MulI A B row i 0 0:=by
  obtain ⟨h1,h2,h3,h4⟩:=h
  exact ⟨h1,h2,by omega,by simp [nval,h3],h4⟩
theorem mulI_s {A B row:List Nat} {i j c:Nat} (lA:Lims A) (lB:Lims B) (hi:i<A.length) (hj:j<B.length) (h:MulI A B row i j c):MulI A B (row.set (i+j) ((c+(A.getD i 0*B.getD j 0+row.getD (i+j) 0))%4294967296)) i (j+1) ((c+(A.getD i 0*B.getD j 0+row.getD (i+j) 0))/2^32):=by
  obtain ⟨h1,h2,h3,h4,h5⟩:=h
  have a1:=getD_lt h1 (i+j)
  have a2:=mul_bd (getD_lt lA i) (getD_lt lB j)
  generalize hs:c+(A.getD i 0*B.getD j 0+row.getD (i+j) 0)=s
  have hset:=nval_set (l:=row) (k:=i+j) (d:=s%4294967296) (by omega)
  refine ⟨h1.set (by omega),by simpa using h2,by omega,?_,fun p hp=>?_⟩
  · rw [nval_take_succ,←Nat.add_assoc,Nat.pow_succ,Nat.mul_assoc]
    have e1:4294967296^(i+j)*(4294967296*(s/2^32))+4294967296^(i+j)*(s%4294967296)=4294967296^(i+j)*s:=by
      rw [←Nat.mul_add];congr 1;omega
    have e2:4294967296^(i+j)*s=4294967296^(i+j)*c+(4294967296^(i+j)*(A.getD i 0*B.getD j 0)+4294967296^(i+j)*row.getD (i+j) 0):=by
      rw [←hs,Nat.mul_add,Nat.mul_add]
    have e3:4294967296^i*(A.getD i 0*(nval (B.take j)+4294967296^j*B.getD j 0))=4294967296^i*(A.getD i 0*nval (B.take j))+4294967296^(i+j)*(A.getD i 0*B.getD j 0):=by
      rw [Nat.mul_add,Nat.mul_add,Nat.pow_add]
      congr 1
      rw [Nat.mul_assoc]
      congr 1
      rw [←Nat.mul_assoc,←Nat.mul_assoc,Nat.mul_comm (A.getD i 0)]
    rw [e3]
    omega
  · rw [getD_set_ne' (by omega)];exact h5 p hp
theorem mulI_end {A B row:List Nat} {i c:Nat} (hi:i<A.length) (h:MulI A B row i B.length c):MulO A B (row.set (i+B.length) c) (i+1):=by
  obtain ⟨h1,h2,h3,h4,h5⟩:=h
  have hset:=nval_set (l:=row) (k:=i+B.length) (d:=c) (by omega)
  rw [h5 _ (Nat.le_refl _),Nat.mul_zero,Nat.add_zero,h4,List.take_length] at hset
  refine ⟨h1.set h3,by simpa using h2,?_,fun p hp=>?_⟩
  · rw [hset,nval_take_succ,Nat.add_mul,Nat.mul_assoc]
  · rw [getD_set_ne' (by omega)];exact h5 p (by omega)
theorem mulO_end {A B row:List Nat} {i:Nat} (hi:i=A.length) (h:MulO A B row i):nval row=nval A*nval B:=by
  obtain ⟨h1,h2,h3,h4⟩:=h
  rw [h3,hi,List.take_length]
def ShortR (l row:List Nat) (d i r:Nat):Prop:=Lims row∧row.length=l.length∧r<d∧nval (l.drop i)=nval (row.drop i)*d+r
theorem drop_set {l:List Nat} {i d:Nat} (h:i<l.length):(l.set i d).drop i=d::l.drop (i+1):=by
  rw [List.drop_eq_getElem_cons (by simpa using h),List.getElem_set_self,List.drop_set_of_lt (by omega)]
theorem shortR_0 {l:List Nat} {d:Nat} (hd:d≠0):ShortR l (List.replicate l.length 0) d l.length 0:=by
  refine ⟨fun x hx=>?_,by simp,by omega,?_⟩
  · have:=(List.mem_replicate.1 hx).2;omega
  · rw [List.drop_length,List.drop_of_length_le (by simp)];simp [nval]
theorem shortR_s {l row:List Nat} {d i r:Nat} (lL:Lims l) (hd:d<4294967296) (hi:i≤l.length) (h0:0<i) (h:ShortR l row d i r):ShortR l (row.set (i-1) ((r*2^32+l.getD (i-1) 0)/d)) d (i-1) ((r*2^32+l.getD (i-1) 0)%d):=by
  obtain ⟨h1,h2,h3,h4⟩:=h
  have hx:=getD_lt lL (i-1)
  generalize hs:r*2^32+l.getD (i-1) 0=s
  have hq:s/d<4294967296:=by
    rw [Nat.div_lt_iff_lt_mul (by omega)]
    have:(r+1)*4294967296≤d*4294967296:=Nat.mul_le_mul_right _ h3
    rw [Nat.mul_comm 4294967296 d]
    omega
  refine ⟨h1.set hq,by simpa using h2,Nat.mod_lt _ (by omega),?_⟩
  rw [nval_drop,show i-1+1=i from by omega,h4,drop_set (by omega),nval,show i-1+1=i from by omega]
  have e1:=Nat.div_add_mod s d
  have e2:(s/d+4294967296*nval (row.drop i))*d=d*(s/d)+4294967296*(nval (row.drop i)*d):=by
    rw [Nat.add_mul,Nat.mul_comm (s/d),Nat.mul_assoc]
  rw [e2]
  omega
theorem short_q {r x d:Nat} (h3:r<d) (hx:x<4294967296):(r*2^32+x)/d<4294967296:=by
  rw [Nat.div_lt_iff_lt_mul (by omega)]
  have:(r+1)*4294967296≤d*4294967296:=Nat.mul_le_mul_right _ h3
  rw [Nat.mul_comm 4294967296 d]
  omega
theorem shortR_end {l row:List Nat} {d i r:Nat} (hi:i=0) (h:ShortR l row d i r):nval row=nval l/d∧r=nval l%d:=by
  obtain ⟨h1,h2,h3,h4⟩:=h
  subst hi
  simp only [List.drop_zero] at h4
  rw [h4]
  constructor
  · rw [Nat.mul_comm,Nat.mul_add_div (by omega),Nat.div_eq_of_lt h3,Nat.add_zero]
  · rw [Nat.mul_comm,Nat.mul_add_mod,Nat.mod_eq_of_lt h3]
end Fw
namespace Fw
open Go Go.Proofs
theorem c_ref01_Mul (a b:List Nat) (hAB:a.length+b.length≤1099511627776):Fn Tryz.prog 199 [kN.is a,kN.is b] (kN.is (limbs (nval a*nval b))):=by
 refine aN Tryz.func199 Z Z fun m w=>a8 (i:=0) Z cA fun la=>a8 (i:=1) Z cA fun lb=>Cr<|Wa Z<|Wr<|Wm Z<|Ws (aJ Z U27)<|Wm Z<|Ws (aJ Z U27)<|Ws (aR Z Z (c:=((a.length:Int)+(b.length:Int))) (aH (by omega)))<|bH ((((a.length:Int)+(b.length:Int))).toNat) .n Z Z (by omega) (by omega) U27 ce ef fun v1=>Wa Z<|Wn<|ab<|Cr<|Wa Z<|au ?_
 refine cw<|aF<|bU (fun (row:List Nat) (i:Nat)=>i≤a.length∧MulO a b row i) (fun (row:List Nat) (i:Nat)=>[(0,kN.is a),(1,kN.is b),(5,VP.ex v1),(6,kN6.is (i:Int))]) (fun (row:List Nat) (i:Nat)=>[OB.row v1 93 kLimb row]) (fun (row:List Nat) (i:Nat)=>a.length-i) (List.replicate (a.length+b.length) 0) 0 ⟨Nat.zero_le _,mulO_0 _ _⟩ (ac Z (ac Z (ac Z (az Z (ah (y:=(0:Int)) (by omega)) aq)))) (a9 (OS.keepLe (bi (by rfl)) OS.nil)) ?_
 intro row i ⟨hi,hO⟩
 have hrl:=hO.2.1
 refine ab<|Cr<|Wm Z<|Wm Z<|Ws (aJ Z U27)<|Ws (aX Z Z)<|Wn ?_
 refine aM Z (fun h_t18=>?_)<|fun h_t18=>?_
 ·
  refine Ck<|ab<|aF<|Cr<|Wa Z<|Wn<|ab<|Cr<|Wa Z<|Wn<|aF<|dz (fun (row:List Nat) (j:Nat) (c:Nat)=>j≤b.length∧MulI a b row i j c) (fun (row:List Nat) (j:Nat) (c:Nat)=>[(0,kN.is a),(1,kN.is b),(5,VP.ex v1),(6,kN6.is (i:Int)),(7,(kInt .u64).is (c:Int)),(8,kN6.is (j:Int))]) (fun (row:List Nat) (j:Nat) (c:Nat)=>[OB.row v1 93 kLimb row]) (fun (row:List Nat) (j:Nat) (c:Nat)=>b.length-j) row 0 0 ⟨Nat.zero_le _,mulI_0 hO⟩ (ao Z Z Z Z (az Z (ah (y:=(0:Int)) (by omega)) (az Z (ah (y:=(0:Int)) (by omega)) aq))) (aG _) ?_
  intro row j c ⟨hj,hI⟩
  have hrl:=hI.2.1
  have hc:=hI.2.2.1
  have hx:=getD_lt la i
  have hy:=getD_lt lb j
  have hz:=getD_lt hI.1 (i+j)
  have hxy:=mul_bd hx hy
  refine ab<|Cr<|Wm Z<|Wm Z<|Ws (aJ Z U27)<|Ws (aX Z Z)<|Wn ?_
  refine aM Z (fun h_t24=>?_)<|fun h_t24=>?_
  ·
   refine Ck<|ab<|aF<|ab ?_
   refine a5 (Γ:=[.fr ((kInt .u64).is (c:Int)),.fr (VP.ex v1),.fr (kN6.is (i:Int)),.fr (kN6.is (j:Int)),.fr (kN6.is ((i:Int)+(j:Int))),.fr (VP.pel v1 ((i+j)*1)),.fr ((kInt .u32).is ((row.getD (i+j) 0):Int)),.fr ((kInt .u64).is ((row.getD (i+j) 0):Int)),.fr ((kInt .u64).is ((c:Int)+((row.getD (i+j) 0):Int))),.fr (kN.is a),.fr (kN6.is (i:Int)),.fr (VP.pim kLimb (a.getD i 0)),.fr ((kInt .u32).is ((a.getD i 0):Int)),.fr ((kInt .u64).is ((a.getD i 0):Int)),.fr (kN.is b),.fr (kN6.is (j:Int)),.fr (VP.pim kLimb (b.getD j 0)),.fr ((kInt .u32).is ((b.getD j 0):Int)),.fr ((kInt .u64).is ((b.getD j 0):Int)),.fr ((kInt .u64).is ((a.getD i 0*b.getD j 0:Nat):Int)),.fr ((kInt .u64).is ((c+(a.getD i 0*b.getD j 0+row.getD (i+j) 0):Nat):Int))]) (om Z Z (om Z Z (om Z Z (om Z Z (aa Z (fun N=>aR Z Z (c:=((i:Int)+(j:Int))) (aH (by omega))) (aa Z (fun N=>bb (k:=kLimb) (xs:=row) (n:=((i:Int)+(j:Int))) (i+j) Z Z (mN N 0 Z) U27 a7 (by omega) (by omega)) (aa Z (fun N=>aV (bp (i+j) Z (mN N 0 Z) Li Z (y:=(row.getD (i+j) 0)) (gd 0 (by omega)) a7 Z) (cf _)) (aa Z (fun N=>bq Z U93 U178 (c:=((row.getD (i+j) 0):Int)) (bM (by omega))) (aa Z (fun N=>aR Z Z (c:=((c:Int)+((row.getD (i+j) 0):Int))) (bM (by omega))) (om Z Z (om Z Z (aa Z (fun N=>aU i Z Z U27 a7 Z (v:=(a.getD i 0)) (gd 0 (by omega))) (aa Z (fun N=>aV (aO Z a7) (cf _)) (aa Z (fun N=>bq Z U93 U178 (c:=((a.getD i 0):Int)) (bM (by omega))) (om Z Z (om Z Z (aa Z (fun N=>aU j Z Z U27 a7 Z (v:=(b.getD j 0)) (gd 0 (by omega))) (aa Z (fun N=>aV (aO Z a7) (cf _)) (aa Z (fun N=>bq Z U93 U178 (c:=((b.getD j 0):Int)) (bM (by omega))) (aa Z (fun N=>dX Z Z (c:=((a.getD i 0*b.getD j 0:Nat):Int)) (bM ⟨by norm_cast,by omega,by omega⟩)) (aa Z (fun N=>aR Z Z (c:=((c+(a.getD i 0*b.getD j 0+row.getD (i+j) 0):Nat):Int)) (bM (by omega))) oz)))))))))))))))))))))<|fun σ=>?_
   refine Wa Z<|Wr<|Wm Z<|Wm Z<|Wm Z<|Ws (aR Z Z (c:=((i:Int)+(j:Int))) (aH (by omega)))<|Wm Z<|Ws (e7 Z Z (by omega) (c:=(((c+(a.getD i 0*b.getD j 0+row.getD (i+j) 0))%4294967296:Nat):Int)) (tmodN 4294967296 Z Z))<|Ws (bq Z U178 U93 (c:=(((c+(a.getD i 0*b.getD j 0+row.getD (i+j) 0))%4294967296:Nat):Int)) (df (by omega)))<|Ws (bb (k:=kLimb) (xs:=row) (n:=((i:Int)+(j:Int))) (i+j) Z Z (ag 0 Z) U27 a7 (by omega) (by omega))<|aE .n (co 0 (i+j) Z Z Li Z (y0:=(row.getD (i+j) 0)) (gd 0 (by omega)) a7 Z (bP (x:=((c+(a.getD i 0*b.getD j 0+row.getD (i+j) 0))%4294967296:Nat)) (by omega)))<|Wn<|ak<|Wm Z<|Ws (eC Z Z (by omega) (c:=(((c+(a.getD i 0*b.getD j 0+row.getD (i+j) 0))/2^32:Nat):Int)) (quoN (2^32) Z Z (by omega)))<|Wa Z<|au<|Qb<|ak ?_
   refine Wm Z<|Ws (aR Z Z (c:=((j:Int)+1)) (aH (by omega)))<|Wa Z<|au ?_
   exact dd (row.set (i+j) ((c+(a.getD i 0*b.getD j 0+row.getD (i+j) 0))%4294967296)) (j+1) ((c+(a.getD i 0*b.getD j 0+row.getD (i+j) 0))/2^32) (by omega) ⟨by omega,mulI_s la lb (by omega) (by omega) hI⟩ (ao Z Z Z Z (az Z (ah (y:=((((c+(a.getD i 0*b.getD j 0+row.getD (i+j) 0))/2^32):Nat):Int)) (by omega)) (az Z (ah (y:=(((j+1):Nat):Int)) (by omega)) aq)))<|a9<|OS.keepLe (bi (by rfl)) OS.nil
  ·
   refine Ex<|ak<|Wm Z<|Wm Z<|Wm Z<|Ws (aJ Z U27)<|Ws (aR Z Z (c:=((i:Int)+(b.length:Int))) (aH (by omega)))<|Wm Z<|Ws (bq Z U178 U93 (c:=(c:Int)) (df (by omega)))<|Ws (bb (k:=kLimb) (xs:=row) (n:=((i:Int)+(b.length:Int))) (i+b.length) Z Z (ag 0 Z) U27 a7 (by omega) (by omega))<|aE .n (co 0 (i+b.length) Z Z Li Z (y0:=(row.getD (i+b.length) 0)) (gd 0 (by omega)) a7 Z (bP (x:=c) (by omega)))<|au<|Qb<|ak<|Wm Z<|Ws (aR Z Z (c:=((i:Int)+1)) (aH (by omega)))<|Wa Z<|au ?_
   have hjb:j=b.length:=by omega
   exact bS (row.set (i+b.length) c) (i+1) (by omega) ⟨by omega,mulI_end (by omega) (hjb▸hI)⟩ (ac Z (ac Z (ac Z (az Z (ah (y:=(((i+1):Nat):Int)) (by omega)) aq))))<|aG _
 ·
  refine Ex<|Cr<|Wm Z<|bL 0 Z (kp 0 Z (kp 1 Z (.hit (i:=5) Z (kp 6 Z (kp 15 Z (kp 16 Z (kp 17 Z (kp 18 Z (.hit (i:=66) Z .nil)))))))))<|Ws (f1 d5 Z (dY row))<|Wa Z<|Wn<|aA<|tl 4 Z (y:=(limbs (nval a*nval b))) (by rw [mulO_end (by omega) hO]) ?_
  exact Qd Z (aI Z ay) ⟨Z,Z⟩
abbrev f5:=@c_ref01_Mul
theorem c_ref02_Neg (z:Int):Fn Tryz.prog 209 [kZ.is z] (kC.is (-z)):=by
 refine aN Tryz.func209 Z Z fun m w=>c5 0 Z fun y y_v y_n y_l=>Cr<|aZ .n Z fun b1=>aW .n bd fun b2=>Wr<|Ws (aw Z cT Z)<|Ws (ae Z (ag 1 Z) (aD Li) cV Z)<|Ws (dh Z)<|Ws (aw Z bX Z)<|Ws (ae Z (ag 1 Z) (am Li) ca Z)<|Ws (f2 eP Z Z (eI (!y.1) y.2))<|aE .n (aC (l:=kC) (u:=ival ((!y.1),y.2)) 0 Z Z Z af Z Lr)<|Wn<|aA<|tb 0 Z (y:=(-z)) (by rw [←y_v];exact ival_not) ?_
 exact Qd Z (aY Z (ag 0 Z) af ay) ⟨Z,Z⟩
abbrev fp:=@c_ref02_Neg
theorem c_ref02_Norm (z:Int):Fn Tryz.prog 113 [kZ.is z] (kC.is z):=by
 refine aN Tryz.func113 Z Z fun m w=>c5 0 Z fun y y_v y_n y_l=>Cr<|aZ .n Z fun b1=>aW .n bd fun b2=>Wr<|Ws (aw Z cT Z)<|Ws (ae Z (ag 1 Z) (aD Li) cV Z)<|Ws (aw Z bX Z)<|Ws (ae Z (ag 1 Z) (am Li) ca Z)<|Ws (f2 eP Z Z (eI y.1 y.2))<|aE .n (aC (l:=kC) (u:=ival (y.1,y.2)) 0 Z Z Z af Z Lr)<|Wn<|aA<|tb 0 Z (y:=z) y_v ?_
 exact Qd Z (aY Z (ag 0 Z) af ay) ⟨Z,Z⟩
abbrev fX:=@c_ref02_Norm
theorem c_ref02_Sub (x y:Int):Fn Tryz.prog 161 [kZ.is x,kZ.is y] (kC.is (x-y)):=by
 refine aN Tryz.func161 Z Z fun m w=>a8 (i:=1) Z ek fun hsy=>Cr<|aZ .n Z fun b1=>aZ .n Z fun b2=>aW .n bd fun b3=>Wn<|ab ?_
 refine a5 (Γ:=[.fr (kZ.is x),.fr (kZ.is y),.fr (kC.is (-y)),.fr (kC.is (x+(-y)))]) (aa Z (fun N=>ae Z (mN N 2 Z) Li af Z) (aa Z (fun N=>ae Z (mN N 1 Z) Li af Z) (aa Z (fun N=>f1 fn209 Z (fp y)) (aa Z (fun N=>aB fm (aS Z (aj Z (aL (fl (by assumption))) ar)) (fe x (-y))) oz))))<|fun σ=>?_
 refine aE .n (aC (l:=kC) (u:=x+(-y)) 0 Z Z Z af Z Lr)<|Wn<|aA<|tb 0 Z (y:=(x-y)) (Int.sub_eq_add_neg).symm ?_
 exact Qd Z (aY Z (ag 0 Z) af ay) ⟨Z,Z⟩
theorem c_ref02_Mul (x y:Int):Fn Tryz.prog 128 [kZ.is x,kZ.is y] (kC.is (x*y)):=by
 refine aN Tryz.func128 Z Z fun m w=>c5 0 Z fun p p_v p_n p_l=>c5 1 Z fun q q_v q_n q_l=>Cr<|aZ .n Z fun b1=>aZ .n Z fun b2=>aW .n bd fun b3=>Wn<|ab ?_
 refine a5 (Γ:=[.fr (VP.pt b1 0),.fr (kBool.is p.1),.fr (VP.pt b2 0),.fr (kBool.is q.1),.fr (kBool.is (decide (p.1≠q.1))),.fr (VP.pt b1 1),.fr (kN.is p.2),.fr (VP.pt b2 1),.fr (kN.is q.2),.fr (kN.is (limbs (nval p.2*nval q.2))),.fr (kC.is (ival ((decide (p.1≠q.1)),(limbs (nval p.2*nval q.2)))))]) (aa Z (fun N=>aw Z cT Z) (aa Z (fun N=>ae Z (mN N 2 Z) (aD Li) cV Z) (aa Z (fun N=>aw Z cT Z) (aa Z (fun N=>ae Z (mN N 1 Z) (aD Li) cV Z) (aa Z (fun N=>O.neB Z Z U4) (aa Z (fun N=>aw Z bX Z) (aa Z (fun N=>ae Z (mN N 2 Z) (am Li) ca Z) (aa Z (fun N=>aw Z bX Z) (aa Z (fun N=>ae Z (mN N 1 Z) (am Li) ca Z) (aa Z (fun N=>f2 fn199 Z Z (f5 p.2 q.2 (by omega))) (aa Z (fun N=>f2 eP Z Z (eI (decide (p.1≠q.1)) (limbs (nval p.2*nval q.2)))) oz)))))))))))<|fun σ=>?_
 refine aE .n (aC (l:=kC) (u:=ival ((decide (p.1≠q.1)),(limbs (nval p.2*nval q.2)))) 0 Z Z Z af Z Lr)<|Wn<|aA<|tb 0 Z (y:=(x*y)) (by rw [←p_v,←q_v];exact ival_mul) ?_
 exact Qd Z (aY Z (ag 0 Z) af ay) ⟨Z,Z⟩
abbrev dy:=@c_ref02_Mul
theorem c_nat_Mul (a b:List Nat) (hAB:a.length+b.length≤1099511627776):Fn Tryz.prog 193 [kN.is a,kN.is b] (kN.is (limbs (nval a*nval b))):=by
 refine aN Tryz.func193 Z Z fun m w=>a8 (i:=0) Z cA fun la=>a8 (i:=1) Z cA fun lb=>?_
 have hla:=limbs_len_le la
 have hlb:=limbs_len_le lb
 refine Cr<|Wa Z<|Wr<|Wm Z<|Ws (f1 dq Z (dr a))<|Wm Z<|Ws (f1 dq Z (dr b))<|Wa Z<|Wa Z<|Wr<|Wm Z<|Ws (aJ Z U27)<|Wm Z<|Ws (aJ Z U27)<|Ws (aR Z Z (c:=(((limbs (nval a)).length:Int)+((limbs (nval b)).length:Int))) (aH (by omega)))<|bH (((((limbs (nval a)).length:Int)+((limbs (nval b)).length:Int))).toNat) .n Z Z (by omega) (by omega) U27 ce ef fun v1=>Wa Z ?_
 refine Wn<|ab<|Cr<|Wm Z<|Ws (aJ Z U27)<|Wm Z<|Wn<|aF<|dz (fun (row:List Nat) (i:Nat) (v:Value)=>i≤(limbs (nval a)).length∧MulO (limbs (nval a)) (limbs (nval b)) row i) (fun (row:List Nat) (i:Nat) (v:Value)=>[(0,kN.is (limbs (nval a))),(1,kN.is (limbs (nval b))),(5,VP.ex v),(20,kN6.is ((limbs (nval a)).length:Int)),(21,kN6.is (i:Int))]) (fun (row:List Nat) (i:Nat) (v:Value)=>[OB.row v 93 kLimb row]) (fun (row:List Nat) (i:Nat) (v:Value)=>(limbs (nval a)).length-i) (List.replicate ((limbs (nval a)).length+(limbs (nval b)).length) 0) 0 v1 ⟨Nat.zero_le _,mulO_0 _ _⟩ (ao Z Z Z Z (az Z (ah (y:=(0:Int)) (by omega)) aq)) (a9 (OS.keepLe (bi (by rfl)) OS.nil)) ?_
 intro row i v ⟨hi,hO⟩
 have hrl:=hO.2.1
 refine Cr<|Ws (aX Z Z)<|Wn<|ab ?_
 refine aM Z (fun h_t22=>?_)<|fun h_t22=>?_
 ·
  refine Ck<|ab<|aF<|Cr<|Wm Z<|Wa Z<|Wr<|Wa Z<|Wn<|ab<|Cr<|Wm Z<|Ws (aJ Z U27)<|Wm Z<|Wn<|aF ?_
  refine dz (fun (row:List Nat) (j:Nat) (c:Nat)=>j≤(limbs (nval b)).length∧MulI (limbs (nval a)) (limbs (nval b)) row i j c) (fun (row:List Nat) (j:Nat) (c:Nat)=>[(0,kN.is (limbs (nval a))),(1,kN.is (limbs (nval b))),(5,VP.ex v),(6,kN6.is (i:Int)),(7,(kInt .u64).is (c:Int)),(20,kN6.is ((limbs (nval a)).length:Int)),(21,kN6.is (i:Int)),(25,kN6.is ((limbs (nval b)).length:Int)),(26,kN6.is (j:Int))]) (fun (row:List Nat) (j:Nat) (c:Nat)=>[OB.row v 93 kLimb row]) (fun (row:List Nat) (j:Nat) (c:Nat)=>(limbs (nval b)).length-j) row 0 0 ⟨Nat.zero_le _,mulI_0 hO⟩ (ao Z Z Z Z (az Z (ah (y:=(0:Int)) (by omega)) (ac Z (ac Z (ac Z (az Z (ah (y:=(0:Int)) (by omega)) aq)))))) (aG _) ?_
  intro row j c ⟨hj,hI⟩
  have hrl:=hI.2.1
  have hc:=hI.2.2.1
  have hx:=getD_lt (limbs_lims (nval a)) i
  have hy:=getD_lt (limbs_lims (nval b)) j
  have hz:=getD_lt hI.1 (i+j)
  have hxy:=mul_bd hx hy
  refine Cr<|Ws (aX Z Z)<|Wn<|ab ?_
  refine aM Z (fun h_t27=>?_)<|fun h_t27=>?_
  ·
   refine Ck<|ab<|aF<|Cr<|Wm Z<|Wa Z<|Wn<|ab ?_
   refine a5 (Γ:=[.fr ((kInt .u64).is (c:Int)),.fr (kN.is (limbs (nval a))),.fr (kN6.is (i:Int)),.fr (VP.pim kLimb ((limbs (nval a)).getD i 0)),.fr ((kInt .u32).is (((limbs (nval a)).getD i 0):Int)),.fr ((kInt .u64).is (((limbs (nval a)).getD i 0):Int)),.fr (kN.is (limbs (nval b))),.fr (kN6.is (j:Int)),.fr (VP.pim kLimb ((limbs (nval b)).getD j 0)),.fr ((kInt .u32).is (((limbs (nval b)).getD j 0):Int)),.fr ((kInt .u64).is (((limbs (nval b)).getD j 0):Int)),.fr ((kInt .u64).is (((limbs (nval a)).getD i 0*(limbs (nval b)).getD j 0:Nat):Int)),.fr (VP.ex v),.fr (kN6.is (i:Int)),.fr (kN6.is (j:Int)),.fr (kN6.is ((i:Int)+(j:Int))),.fr (VP.pel v ((i+j)*1)),.fr ((kInt .u32).is ((row.getD (i+j) 0):Int)),.fr ((kInt .u64).is ((row.getD (i+j) 0):Int)),.fr ((kInt .u64).is (((limbs (nval a)).getD i 0*(limbs (nval b)).getD j 0+row.getD (i+j) 0:Nat):Int)),.fr ((kInt .u64).is (((c+((limbs (nval a)).getD i 0*(limbs (nval b)).getD j 0+row.getD (i+j) 0)):Nat):Int))]) (om Z Z (om Z Z (om Z Z (aa Z (fun N=>aU i Z Z U27 a7 Z (v:=((limbs (nval a)).getD i 0)) (gd 0 (by omega))) (aa Z (fun N=>aV (aO Z a7) (cf _)) (aa Z (fun N=>bq Z U93 U178 (c:=(((limbs (nval a)).getD i 0):Int)) (bM (by omega))) (om Z Z (om Z Z (aa Z (fun N=>aU j Z Z U27 a7 Z (v:=((limbs (nval b)).getD j 0)) (gd 0 (by omega))) (aa Z (fun N=>aV (aO Z a7) (cf _)) (aa Z (fun N=>bq Z U93 U178 (c:=(((limbs (nval b)).getD j 0):Int)) (bM (by omega))) (aa Z (fun N=>dX Z Z (c:=(((limbs (nval a)).getD i 0*(limbs (nval b)).getD j 0:Nat):Int)) (bM ⟨by norm_cast,by omega,by omega⟩)) (om Z Z (om Z Z (om Z Z (aa Z (fun N=>aR Z Z (c:=((i:Int)+(j:Int))) (aH (by omega))) (aa Z (fun N=>bb (k:=kLimb) (xs:=row) (n:=((i:Int)+(j:Int))) (i+j) Z Z (mN N 0 Z) U27 a7 (by omega) (by omega)) (aa Z (fun N=>aV (bp (i+j) Z (mN N 0 Z) Li Z (y:=(row.getD (i+j) 0)) (gd 0 (by omega)) a7 Z) (cf _)) (aa Z (fun N=>bq Z U93 U178 (c:=((row.getD (i+j) 0):Int)) (bM (by omega))) (aa Z (fun N=>aR Z Z (c:=(((limbs (nval a)).getD i 0*(limbs (nval b)).getD j 0+row.getD (i+j) 0:Nat):Int)) (bM (by omega))) (aa Z (fun N=>aR Z Z (c:=(((c+((limbs (nval a)).getD i 0*(limbs (nval b)).getD j 0+row.getD (i+j) 0)):Nat):Int)) (bM (by omega))) oz)))))))))))))))))))))<|fun σ=>?_
   refine Wa Z<|Wr<|Wm Z<|Wm Z<|Wm Z<|Ws (aR Z Z (c:=((i:Int)+(j:Int))) (aH (by omega)))<|Wm Z<|Ws (bq Z U178 U93 (c:=(((c+((limbs (nval a)).getD i 0*(limbs (nval b)).getD j 0+row.getD (i+j) 0))%4294967296:Nat):Int)) (dF Z))<|Ws (bb (k:=kLimb) (xs:=row) (n:=((i:Int)+(j:Int))) (i+j) Z Z (ag 0 Z) U27 a7 (by omega) (by omega))<|aE .n (co 0 (i+j) Z Z Li Z (y0:=(row.getD (i+j) 0)) (gd 0 (by omega)) a7 Z (bP (x:=((c+((limbs (nval a)).getD i 0*(limbs (nval b)).getD j 0+row.getD (i+j) 0))%4294967296:Nat)) (by omega)))<|Wn<|ak<|Wm Z<|Ws (dl Z Z (by omega) (c:=(((c+((limbs (nval a)).getD i 0*(limbs (nval b)).getD j 0+row.getD (i+j) 0))/2^32:Nat):Int)) (dm 32 Z Z (by decide)))<|Wa Z<|au<|Qb<|ak<|Ws (aR Z Z (c:=((j:Int)+1)) (aH (by omega))) ?_
   refine Wm Z<|au ?_
   exact dd (row.set (i+j) ((c+((limbs (nval a)).getD i 0*(limbs (nval b)).getD j 0+row.getD (i+j) 0))%4294967296)) (j+1) ((c+((limbs (nval a)).getD i 0*(limbs (nval b)).getD j 0+row.getD (i+j) 0))/2^32) (by omega) ⟨by omega,mulI_s (limbs_lims _) (limbs_lims _) (by omega) (by omega) hI⟩ (ao Z Z Z Z (az Z (ah (y:=((((c+((limbs (nval a)).getD i 0*(limbs (nval b)).getD j 0+row.getD (i+j) 0))/2^32):Nat):Int)) (by omega)) (ac Z (ac Z (ac Z (az Z (ah (y:=(((j+1):Nat):Int)) (by omega)) aq))))))<|a9<|OS.keepLe (bi (by rfl)) OS.nil
  ·
   refine Ex<|ak<|Wm Z<|Wm Z<|Wm Z<|Ws (aJ Z U27)<|Ws (aR Z Z (c:=((i:Int)+((limbs (nval b)).length:Int))) (aH (by omega)))<|Wm Z<|Ws (bq Z U178 U93 (c:=(c:Int)) (df (by omega)))<|Ws (bb (k:=kLimb) (xs:=row) (n:=((i:Int)+((limbs (nval b)).length:Int))) (i+(limbs (nval b)).length) Z Z (ag 0 Z) U27 a7 (by omega) (by omega))<|aE .n (co 0 (i+(limbs (nval b)).length) Z Z Li Z (y0:=(row.getD (i+(limbs (nval b)).length) 0)) (gd 0 (by omega)) a7 Z (bP (x:=c) (by omega)))<|au<|Qb<|ak<|Ws (aR Z Z (c:=((i:Int)+1)) (aH (by omega)))<|Wm Z<|au ?_
   have hjb:j=(limbs (nval b)).length:=by omega
   exact dd (row.set (i+(limbs (nval b)).length) c) (i+1) v (by omega) ⟨by omega,mulI_end (by omega) (hjb▸hI)⟩ (ao Z Z Z Z (az Z (ah (y:=(((i+1):Nat):Int)) (by omega)) aq))<|aG _
 ·
  refine Ex<|Cr<|Wm Z<|bL 0 Z (kp 0 Z (kp 1 Z (.hit (i:=5) Z (kp 20 Z (kp 21 Z (kp 22 Z (.hit (i:=69) Z .nil)))))))<|Ws (f1 dq Z (dr row))<|Wa Z<|Wn<|aA<|tl 4 Z (y:=(limbs (nval a*nval b))) (by rw [mulO_end (by omega) hO,nval_limbs,nval_limbs]) ?_
  exact Qd Z (aI Z ay) ⟨Z,Z⟩
theorem c_nat_short (l:List Nat) (d:Nat) (hd:d≠0):Fn Tryz.prog 271 [kN.is l,kLimb.is d] (VP.tup [kN.is (limbs (nval l/d)),(kInt .u32).is ((nval l%d:Nat):Int)]):=by
 refine aN Tryz.func271 Z Z fun m w=>a8 (i:=0) Z bF fun hB=>a8 (i:=0) Z cA fun hL=>a8 (i:=1) Z limb_lt fun hdl=>dA (q:=(kInt .u32).is (d:Int)) 1 Z (cf _)<|Cr<|Wa Z<|Wa Z<|Wr<|Wm Z<|Ws (aJ Z U27)<|bH l.length .n Z Z Z (by omega) U27 ce ef fun v1=>Wa Z<|Wr<|Wa Z<|Wn ?_
 refine ab<|Cr<|Wm Z<|Ws (aJ Z U27)<|Ws (bj Z Z (c:=((l.length:Int)-1)) (aH (by omega)))<|Wa Z<|Wn<|aF<|dz (fun (row:List Nat) (i:Nat) (r:Nat)=>i≤l.length∧ShortR l row d i r) (fun (row:List Nat) (i:Nat) (r:Nat)=>[(0,kN.is l),(1,(kInt .u32).is (d:Int)),(6,VP.ex v1),(7,(kInt .u64).is (r:Int)),(8,kN6.is ((i:Int)-1))]) (fun (row:List Nat) (i:Nat) (r:Nat)=>[OB.row v1 93 kLimb row]) (fun (row:List Nat) (i:Nat) (r:Nat)=>i) (List.replicate l.length 0) l.length 0 ⟨Nat.le_refl _,shortR_0 hd⟩ (ac Z (ac Z (ac Z (az Z (ah (y:=(0:Int)) (by omega)) (az Z (ah (y:=((l.length:Nat):Int)-1) (by omega)) aq))))) (aG _) ?_
 intro row i r ⟨hi,hS⟩
 have hrl:=hS.2.1
 have hr:=hS.2.2.1
 have hx:=getD_lt hL (i-1)
 have hq:=short_q hr hx
 refine ab<|Cr<|Wm Z<|Ws (di Z Z)<|Wn ?_
 refine aM Z (fun h_t16=>?_)<|fun h_t16=>?_
 ·
  refine Ck<|ab<|aF<|Cr<|Wm Z<|Ws (O.shl Z Z (by omega) (c:=((r*2^32:Nat):Int)) (shlN 32 Z Z (by decide) (by omega)))<|Wm Z<|Wm Z<|Ws (aU (i-1) Z Z U27 a7 (by omega) (v:=(l.getD (i-1) 0)) (gd 0 (by omega)))<|Ws (aV (aO Z a7) (cf _))<|Ws (bq Z U93 U178 (c:=((l.getD (i-1) 0):Int)) (bM (by omega)))<|Ws (O.or Z Z (c:=((r*2^32+l.getD (i-1) 0:Nat):Int)) (orN 32 Z Z hx (by omega)))<|Wa Z<|Wr<|Wm Z<|Wm Z<|Wm Z<|Wm Z<|Ws (bq Z U93 U178 (c:=(d:Int)) (bM (by omega))) ?_
  refine Ws (eC Z Z (by omega) (c:=(((r*2^32+l.getD (i-1) 0)/d:Nat):Int)) (quoN d Z Z (by omega)))<|Ws (bq Z U178 U93 (c:=(((r*2^32+l.getD (i-1) 0)/d:Nat):Int)) (df ⟨Z,short_q hr hx⟩))<|Ws (bb (k:=kLimb) (xs:=row) (n:=(i:Int)-1) (i-1) Z Z (ag 0 Z) U27 a7 (by omega) (by omega))<|aE .n (co 0 (i-1) Z Z Li Z (y0:=(row.getD (i-1) 0)) (gd 0 (by omega)) a7 Z (bP (x:=((r*2^32+l.getD (i-1) 0)/d:Nat)) (by omega)))<|Wn<|ak<|Wm Z<|Wm Z<|Ws (bq Z U93 U178 (c:=(d:Int)) (bM (by omega)))<|Ws (e7 Z Z (by omega) (c:=(((r*2^32+l.getD (i-1) 0)%d:Nat):Int)) (tmodN d Z Z))<|Wa Z<|au<|Qb<|ak<|Wm Z<|Ws (bj Z Z (c:=(((i:Int)-1)-1)) (aH (by omega)))<|Wa Z<|au ?_
  exact dd (row.set (i-1) ((r*2^32+l.getD (i-1) 0)/d)) (i-1) ((r*2^32+l.getD (i-1) 0)%d) (by omega) ⟨by omega,shortR_s hL hdl (by omega) (by omega) hS⟩ (ac Z (ac Z (ac Z (az Z (ah (y:=((((r*2^32+l.getD (i-1) 0)%d):Nat):Int)) (by omega)) (az Z (ah (y:=(((i-1):Nat):Int)-1) (by omega)) aq)))))<|a9<|OS.keepLe (bi (by rfl)) OS.nil
 ·
  refine Ex<|Cr<|Wm Z<|bL 0 Z (kp 0 Z (kp 1 Z (.hit (i:=6) Z (kp 7 Z (kp 8 Z (kp 15 Z (kp 16 Z (.hit (i:=39) Z .nil))))))))<|Ws (f1 dq Z (dr row))<|Wm Z<|Ws (bq Z U178 U93 (c:=(r:Int)) (df (by omega)))<|Wa Z<|Wa Z<|Wn<|aA<|tl 4 Z (y:=(limbs (nval l/d))) (by rw [(shortR_end (by omega) hS).1])<|tl 5 Z (y:=((nval l%d:Nat):Int)) (by rw [(shortR_end (by omega) hS).2]) ?_
  exact Qd Z (aI Z (aI Z ay)) ⟨Z,Z⟩
end Fw
namespace Fw
open Go (IntKind)
theorem ST.rowfact {C:Ctx} {K:Go.Act→Go.World→Prop} {ρ:Env} {L:List OB} {v:Go.Value} {e:Go.TypeId} {l:List Nat} (j:Nat) (hj:L[j]?=some (OB.row v e kLimb l)) (h:l.length≤1099511627776→Lims l→ST C K ρ L):ST C K ρ L:=fun m w a s t=>by
  obtain ⟨cells,h1,h2,h3⟩:=row_own s (List.mem_of_getElem? hj)
  exact h h3 (rows_lims h2) m w a s t
theorem win_get {l w r:List Nat} {o i:Nat} (ho:o≤l.length) (hi:i<w.length):(l.take o++w++r)[o+i]?=some (w.getD i 0):=by
  rw [List.append_assoc,List.getElem?_append_right (by simp;omega),List.getElem?_append_left (by simp;omega)]
  simp only [List.length_take,Nat.min_eq_left ho,Nat.add_sub_cancel_left]
  exact gd 0 hi
abbrev gj:=@win_get
theorem win_set {l w r:List Nat} {o i d:Nat} (ho:o≤l.length) (hi:i<w.length):(l.take o++w++r).set (o+i) d=l.take o++w.set i d++r:=by
  rw [List.append_assoc,List.set_append_right _ _ (by simp;omega),List.set_append_left _ _ (by simp;omega),List.append_assoc]
  simp only [List.length_take,Nat.min_eq_left ho,Nat.add_sub_cancel_left]
theorem win_len {l w:List Nat} {o n:Nat} (ho:o+n≤l.length) (hw:w.length=n):(l.take o++w++l.drop (o+n)).length=l.length:=by
  simp [hw];omega
theorem win_self {l:List Nat} {o n:Nat}:l=l.take o++(l.drop o).take n++l.drop (o+n):=by
  rw [List.append_assoc,←List.drop_drop,List.take_append_drop,List.take_append_drop]
theorem minN {a b:Nat}:min (a:Int) (b:Int)=((min a b:Nat):Int):=by omega
theorem dsub1 {x y:Nat} (hx:x<4294967296) (hy:y<4294967296):IntKind.u64.wrap ((x:Int)-(y:Int))=((lessV 0 x y:Nat):Int):=by
  unfold lessV
  simp [IntKind.wrap,IntKind.signed,IntKind.bits]
  split <;> omega
theorem dsub2 {c x y:Nat} (hc:c≤1) (hx:x<4294967296) (hy:y<4294967296):IntKind.u64.wrap (((lessV 0 x y:Nat):Int)-(c:Int))=((lessV c x y:Nat):Int):=by
  unfold lessV
  simp [IntKind.wrap,IntKind.signed,IntKind.bits]
  split <;> split <;> omega
theorem nval_take_set {w:List Nat} {i d:Nat} (h:i<w.length):nval ((w.set i d).take (i+1))=nval (w.take i)+4294967296^i*d:=by
  rw [nval_take_succ,List.take_set_of_le (Nat.le_refl _)]
  congr 2
  rw [List.getD_eq_getElem?_getD,List.getElem?_set_self h];rfl
theorem drop_set_succ {w w0:List Nat} {i d:Nat} (h:w.drop i=w0.drop i):(w.set i d).drop (i+1)=w0.drop (i+1):=by
  rw [List.drop_set_of_lt (by omega),←List.drop_drop,h,List.drop_drop]
theorem getD_drop_eq {w w0:List Nat} {i:Nat} (h:w.drop i=w0.drop i):w.getD i 0=w0.getD i 0:=by
  have:=congrArg (fun l=>l.getD 0 0) h
  simpa [List.getD_eq_getElem?_getD] using this
def DigR (w0 vs:List Nat) (q:Nat) (w:List Nat) (i c b:Nat):Prop:=i≤vs.length+1∧w.length=vs.length+1∧Lims w∧c<4294967296∧b≤1∧(i≤vs.length∨c=0)∧nval (w.take i)+q*nval (vs.take i)=nval (w0.take i)+4294967296^i*(c+b)∧w.drop i=w0.drop i
theorem digR_0 {w0 vs:List Nat} {q:Nat} (h:w0.length=vs.length+1) (hl:Lims w0):DigR w0 vs q w0 0 0 0:=⟨by omega,h,hl,by omega,by omega,.inl (by omega),by simp [nval],rfl⟩
theorem dig_p {q c v:Nat} (hq:q<4294967296) (hc:c<4294967296) (hv:v<4294967296):(c+q*v)/2^32<4294967296∧c+q*v<18446744073709551616:=by
  have:=mul_bd hq hv
  omega
theorem digR_s {w0 vs w:List Nat} {q i c b:Nat} (lv:Lims vs) (hq:q<4294967296) (hi:i<vs.length+1) (h:DigR w0 vs q w i c b) :
    DigR w0 vs q (w.set i (lessV b (w.getD i 0) ((c+q*vs.getD i 0)%4294967296)%4294967296)) (i+1) ((c+q*vs.getD i 0)/2^32) (lessV b (w.getD i 0) ((c+q*vs.getD i 0)%4294967296)/2^63):=by
  obtain ⟨h1,h2,h3,h4,h5,h6,h7,h8⟩:=h
  have hv:=getD_lt lv i
  have hx:=getD_lt h3 i
  have hxx:=getD_drop_eq h8
  obtain ⟨hp1,hp2⟩:=dig_p hq h4 hv
  have hlv:lessV b (w.getD i 0) ((c+q*vs.getD i 0)%4294967296)%4294967296+(b+(c+q*vs.getD i 0)%4294967296)=w.getD i 0+4294967296*(lessV b (w.getD i 0) ((c+q*vs.getD i 0)%4294967296)/2^63)∧lessV b (w.getD i 0) ((c+q*vs.getD i 0)%4294967296)/2^63≤1:=by
    have:(c+q*vs.getD i 0)%4294967296<4294967296:=Nat.mod_lt _ (by omega)
    generalize (c+q*vs.getD i 0)%4294967296=y at this ⊢
    unfold lessV;split <;> omega
  generalize lessV b (w.getD i 0) ((c+q*vs.getD i 0)%4294967296)=V at hlv ⊢
  obtain ⟨hV1,hV2⟩:=hlv
  refine ⟨by omega,by simpa using h2,h3.set (by omega),hp1,hV2,?_,?_,drop_set_succ h8⟩
  · by_cases hin:i<vs.length
    · left;omega
    · right
      have:vs.getD i 0=0:=getD_out (by omega)
      rw [this,Nat.mul_zero,Nat.add_zero]
      rcases h6 with h6 | h6 <;> omega
  · rw [nval_take_set (by omega),nval_take_succ,nval_take_succ,Nat.pow_succ,Nat.mul_assoc]
    rw [←hxx]
    generalize hs:c+q*vs.getD i 0=s at *
    have e1:q*(nval (vs.take i)+4294967296^i*vs.getD i 0)=q*nval (vs.take i)+4294967296^i*(q*vs.getD i 0):=by
      rw [Nat.mul_add];congr 1;rw [←Nat.mul_assoc,←Nat.mul_assoc,Nat.mul_comm q]
    rw [e1]
    have e2:V%4294967296+(q*vs.getD i 0)+(c+b)=w.getD i 0+4294967296*(s/2^32+V/2^63):=by
      have:=Nat.div_add_mod s 4294967296
      omega
    have e3:=congrArg (4294967296^i*·) e2
    simp only [Nat.mul_add] at e3 h7 ⊢
    omega
theorem dig_top {w0 vs:List Nat} (lw:Lims w0) (hl:w0.length=vs.length+1) (hn:1≤vs.length) (hv:vs.getD (vs.length-1) 0≠0) (hU:nval w0<nval vs*4294967296):nval w0/nval vs≤min ((w0.getD vs.length 0*2^32+w0.getD (vs.length-1) 0)/vs.getD (vs.length-1) 0) 4294967295:=by
  have hv1:=split_at (l:=vs) (Nat.le_refl _) hn
  rw [List.drop_length,nval,Nat.mul_zero,Nat.add_zero] at hv1
  have hV:4294967296^(vs.length-1)*vs.getD (vs.length-1) 0≤nval vs:=by omega
  have hpos:0<4294967296^(vs.length-1):=Nat.pow_pos (by omega)
  have hVp:0<nval vs:=by
    have:0<4294967296^(vs.length-1)*vs.getD (vs.length-1) 0:=Nat.mul_pos hpos (by omega)
    omega
  have h1:nval w0/nval vs<4294967296:=by
    rw [Nat.div_lt_iff_lt_mul hVp,Nat.mul_comm];exact hU
  have h2:nval w0<4294967296^(vs.length-1)*(w0.getD vs.length 0*2^32+w0.getD (vs.length-1) 0+1):=by
    have a1:=split_at (l:=w0) (i:=vs.length+1) (by omega) (by omega)
    have a2:=split_at (l:=w0.take vs.length) (i:=vs.length) (by simp;omega) hn
    rw [Nat.add_sub_cancel,List.drop_of_length_le (by omega),nval,Nat.mul_zero,Nat.add_zero] at a1
    rw [List.drop_of_length_le (by simp;omega),nval,Nat.mul_zero,Nat.add_zero,List.take_take,Nat.min_eq_left (by omega),getD_take (by omega)] at a2
    have a3:=nval_lt (lw.take (vs.length-1))
    rw [List.length_take,Nat.min_eq_left (by omega)] at a3
    have e:(4294967296:Nat)^vs.length=4294967296^(vs.length-1)*4294967296:=by
      conv=>lhs;rw [show vs.length=vs.length-1+1 from by omega,Nat.pow_succ]
    rw [e,Nat.mul_assoc] at a1
    rw [Nat.mul_add,Nat.mul_add,Nat.mul_one,Nat.mul_comm _ (2^32),show (2:Nat)^32=4294967296 from rfl]
    generalize 4294967296^(vs.length-1)*(4294967296*w0.getD vs.length 0)=u1 at a1 ⊢
    generalize 4294967296^(vs.length-1)*w0.getD (vs.length-1) 0=u2 at a2 ⊢
    omega
  refine Nat.le_min.2 ⟨?_,by omega⟩
  rw [Nat.le_div_iff_mul_le (by omega)]
  have h3:=Nat.div_mul_le_self (nval w0) (nval vs)
  have h4:nval w0/nval vs*(4294967296^(vs.length-1)*vs.getD (vs.length-1) 0)≤nval w0/nval vs*nval vs:=Nat.mul_le_mul_left _ hV
  have h5:4294967296^(vs.length-1)*(nval w0/nval vs*vs.getD (vs.length-1) 0)<4294967296^(vs.length-1)*(w0.getD vs.length 0*2^32+w0.getD (vs.length-1) 0+1):=by
    rw [Nat.mul_left_comm]
    omega
  have:=Nat.lt_of_mul_lt_mul_left h5
  omega
def DigS (w0 vs w:List Nat) (q b:Nat):Prop:=w.length=vs.length+1∧Lims w∧b≤1∧q<4294967296∧nval w+q*nval vs=nval w0+4294967296^(vs.length+1)*b∧nval w0/nval vs≤q
theorem digS_0 {w0 vs w:List Nat} {q i c b:Nat} (hi:i=vs.length+1) (hl:w0.length=vs.length+1) (hq:q<4294967296) (hq2:nval w0/nval vs≤q) (h:DigR w0 vs q w i c b):DigS w0 vs w q b:=by
  obtain ⟨h1,h2,h3,h4,h5,h6,h7,h8⟩:=h
  subst hi
  rw [List.take_of_length_le (by omega),List.take_of_length_le (by omega),List.take_of_length_le (by omega)] at h7
  have:c=0:=by rcases h6 with h6 | h6 <;> omega
  subst this
  rw [Nat.zero_add] at h7
  exact ⟨h2,h3,h5,hq,h7,hq2⟩
def DigA (w1 vs w:List Nat) (i c:Nat):Prop:=i≤vs.length+1∧w.length=vs.length+1∧Lims w∧c≤1∧nval (w.take i)+4294967296^i*c=nval (w1.take i)+nval (vs.take i)∧w.drop i=w1.drop i
theorem digA_0 {w0 vs w:List Nat} {q b:Nat} (h:DigS w0 vs w q b):DigA w vs w 0 0:=⟨by omega,h.1,h.2.1,by omega,by simp [nval],rfl⟩
theorem digA_s {w1 vs w:List Nat} {i c:Nat} (lv:Lims vs) (hi:i<vs.length+1) (h:DigA w1 vs w i c):DigA w1 vs (w.set i ((c+w.getD i 0+vs.getD i 0)%4294967296)) (i+1) ((c+w.getD i 0+vs.getD i 0)/2^32):=by
  obtain ⟨h1,h2,h3,h4,h5,h6⟩:=h
  have hv:=getD_lt lv i
  have hx:=getD_lt h3 i
  have hxx:=getD_drop_eq h6
  refine ⟨by omega,by simpa using h2,h3.set (by omega),by omega,?_,drop_set_succ h6⟩
  rw [nval_take_set (by omega),nval_take_succ,nval_take_succ,Nat.pow_succ,Nat.mul_assoc,←hxx]
  generalize hs:c+w.getD i 0+vs.getD i 0=s
  have e2:s%4294967296+4294967296*(s/2^32)=c+w.getD i 0+vs.getD i 0:=by
    have:=Nat.div_add_mod s 4294967296
    omega
  have e3:=congrArg (4294967296^i*·) e2
  simp only [Nat.mul_add] at e3
  omega
theorem dig_core {W W1 V U q P c:Nat} (h5:W+P*c=W1+V) (s5:W1+q*V=U+P) (hw:W1<P) (hc:c≤1):W+(q-1)*V=U+P*(1-c)∧U/V<q:=by
  have hqv:U<q*V:=by omega
  have hVp:0<V:=by
    rcases Nat.eq_zero_or_pos V with h | h
    · rw [h,Nat.mul_zero] at hqv;omega
    · exact h
  have hlt:U/V<q:=(Nat.div_lt_iff_lt_mul hVp).2 hqv
  refine ⟨?_,hlt⟩
  have hq0:=Nat.zero_lt_of_lt hlt
  clear hlt
  obtain ⟨k,rfl⟩:∃k,q=k+1:=⟨q-1,by omega⟩
  rw [Nat.succ_mul] at s5
  rw [Nat.add_sub_cancel]
  have:c=0∨c=1:=by omega
  rcases this with rfl | rfl
  · rw [Nat.mul_zero] at h5;rw [Nat.sub_zero,Nat.mul_one];omega
  · rw [Nat.mul_one] at h5;rw [Nat.sub_self,Nat.mul_zero];omega
theorem digA_end {w0 w1 vs w:List Nat} {q b i c:Nat} (hi:i=vs.length+1) (hb:0<b) (hs:DigS w0 vs w1 q b) (h:DigA w1 vs w i c):DigS w0 vs w (q-1) (b-c)∧1≤q:=by
  obtain ⟨h1,h2,h3,h4,h5,h6⟩:=h
  obtain ⟨s1,s2,s3,s4,s5,s6⟩:=hs
  subst hi
  rw [List.take_of_length_le (Nat.le_of_eq h2),List.take_of_length_le (Nat.le_of_eq s1),List.take_of_length_le (Nat.le_succ _)] at h5
  have hb1:b=1:=Nat.le_antisymm s3 hb
  subst hb1
  have hw:=nval_lt s2
  rw [s1] at hw
  rw [Nat.mul_one] at s5
  obtain ⟨k1,k2⟩:=dig_core h5 s5 hw h4
  exact ⟨⟨h2,h3,Nat.sub_le _ _,Nat.lt_of_le_of_lt (Nat.sub_le _ _) s4,k1,Nat.le_sub_one_of_lt k2⟩,Nat.one_le_of_lt k2⟩
theorem digS_end {w0 vs w:List Nat} {q b:Nat} (hb:b=0) (h:DigS w0 vs w q b) (hV:nval vs≠0):q=nval w0/nval vs∧w.length=vs.length+1∧Lims w∧nval w=nval w0%nval vs:=by
  obtain ⟨s1,s2,s3,s4,s5,s6⟩:=h
  subst hb
  rw [Nat.mul_zero,Nat.add_zero] at s5
  have h1:q≤nval w0/nval vs:=by
    rw [Nat.le_div_iff_mul_le (by omega)];omega
  have h2:q=nval w0/nval vs:=by omega
  refine ⟨h2,s1,s2,?_⟩
  have:=Nat.div_add_mod (nval w0) (nval vs)
  rw [←h2,Nat.mul_comm] at this
  omega
theorem top_ne {vs:List Nat} (hv:vs.getD (vs.length-1) 0≠0) (hn:1≤vs.length):nval vs≠0:=by
  have hv1:=split_at (l:=vs) (Nat.le_refl _) hn
  rw [List.drop_length,nval,Nat.mul_zero,Nat.add_zero] at hv1
  have:0<4294967296^(vs.length-1)*vs.getD (vs.length-1) 0:=Nat.mul_pos (Nat.pow_pos (by omega)) (by omega)
  omega
theorem min_lt32 {a:Nat}:min a 4294967295<4294967296:=by omega
theorem offs1 {o i:Nat}:o+i*1=(o+i)*1+0:=by omega
abbrev eY:=@offs1
theorem digS_pos {w0 vs w:List Nat} {q b:Nat} (hs:DigS w0 vs w q b) (hb:0<b):1≤q:=by
  obtain ⟨s1,s2,s3,s4,s5,s6⟩:=hs
  have hb1:b=1:=Nat.le_antisymm s3 hb
  subst hb1
  have hw:=nval_lt s2
  rw [s1] at hw
  rw [Nat.mul_one] at s5
  generalize 4294967296^(vs.length+1)=P at s5 hw
  rcases Nat.eq_zero_or_pos q with h | h
  · subst h;rw [Nat.zero_mul] at s5;omega
  · exact h
theorem quo32 {n:Nat} (h:n<32):IntKind.i64.wrap ((n:Int).tdiv 32)=0:=by
  have:(n:Int).tdiv 32=((n/32:Nat):Int):=rfl
  rw [this,Nat.div_eq_of_lt h];rfl
theorem rem32 {n:Nat} (h:n<32):(n:Int).tmod 32=(n:Int):=by
  have:(n:Int).tmod 32=((n%32:Nat):Int):=rfl
  rw [this,Nat.mod_eq_of_lt h]
theorem orN32 (j:Nat) {a b:Int} {s t:Nat} (ha:a=t) (hb:b=((s*2^j:Nat):Int)) (ht:t<2^j) (hs:s*2^j+t<4294967296):IntKind.u32.wrap ((BitVec.ofInt IntKind.u32.bits a ||| BitVec.ofInt IntKind.u32.bits b).toNat)=((s*2^j+t:Nat):Int):=by
  subst ha hb
  have h1:(BitVec.ofInt IntKind.u32.bits ((s*2^j:Nat):Int)).toNat=s*2^j:=by
    rw [BitVec.ofInt_natCast,BitVec.toNat_ofNat]
    exact Nat.mod_eq_of_lt (Nat.lt_of_le_of_lt (Nat.le_add_right _ t) hs)
  have h2:(BitVec.ofInt IntKind.u32.bits (t:Int)).toNat=t:=by
    rw [BitVec.ofInt_natCast,BitVec.toNat_ofNat]
    exact Nat.mod_eq_of_lt (Nat.lt_of_le_of_lt (Nat.le_add_left t _) hs)
  rw [BitVec.toNat_or,h1,h2,Nat.or_comm,Nat.mul_comm s,←Nat.two_pow_add_eq_or_of_lt ht,Nat.mul_comm,wr32 rfl,Nat.mod_eq_of_lt hs]
theorem pow32 {n:Nat} (h:n<32):1≤2^n∧2^n≤2147483648∧2^n*2^(32-n)=4294967296:=by
  refine ⟨Nat.two_pow_pos n,?_,?_⟩
  · exact Nat.pow_le_pow_right (n:=2) (by decide) (Nat.le_of_lt_succ h:n≤31)
  · rw [←Nat.pow_add,Nat.add_sub_cancel' (Nat.le_of_lt h)]
theorem shl_lo {x n:Nat} (h:n<32):x*2^n%4294967296=x%2^(32-n)*2^n:=by
  rw [←(pow32 h).2.2,Nat.mul_comm (2^n),Nat.mul_mod_mul_right]
theorem shl_hi {x n:Nat} (h:n<32) (hx:x<4294967296):x*2^n/2^32<2^n∧x*2^n<18446744073709551616:=by
  obtain ⟨h1,h2,h3⟩:=pow32 h
  constructor
  · rw [Nat.div_lt_iff_lt_mul (by decide),Nat.mul_comm]
    exact Nat.mul_lt_mul_of_pos_left hx h1
  · have:x*2^n≤4294967295*2147483648:=Nat.mul_le_mul (Nat.le_of_lt_succ hx) h2
    exact Nat.lt_of_le_of_lt this (by decide)
theorem shl_or {x n t:Nat} (h:n<32) (ht:t<2^n):x%2^(32-n)*2^n+t<4294967296:=by
  obtain ⟨h1,h2,h3⟩:=pow32 h
  have h4:x%2^(32-n)+1≤2^(32-n):=Nat.mod_lt _ (Nat.two_pow_pos _)
  have h5:=Nat.mul_le_mul_right (2^n) h4
  rw [Nat.succ_mul,Nat.mul_comm (2^(32-n)),h3] at h5
  omega
def ShlR (l row:List Nat) (n i:Nat):Prop:=i≤l.length∧row.length=l.length+1∧Lims row∧row.getD i 0<2^n∧nval (row.take (i+1))=nval (l.take i)*2^n
theorem shlR_0 (l:List Nat) (n:Nat):ShlR l (List.replicate (l.length+1) 0) n 0:=by
  refine ⟨by omega,by simp,fun x hx=>?_,?_,?_⟩
  · have:=(List.mem_replicate.1 hx).2;omega
  · rw [List.getD_eq_getElem?_getD,List.getElem?_replicate]
    have:=Nat.two_pow_pos n
    split <;> simpa using this
  · rw [List.take_replicate,nval_replicate0];simp [nval]
theorem shlR_s {l row:List Nat} {n i:Nat} (lL:Lims l) (hn:n<32) (hi:i<l.length) (h:ShlR l row n i) :
    ShlR l ((row.set i (l.getD i 0%2^(32-n)*2^n+row.getD i 0)).set (i+1) (l.getD i 0*2^n/2^32)) n (i+1):=by
  obtain ⟨h1,h2,h3,h4,h5⟩:=h
  have hx:=getD_lt lL i
  obtain ⟨k1,k2⟩:=shl_hi hn hx
  have k3:=shl_or (x:=l.getD i 0) hn h4
  have k4:l.getD i 0*2^n/2^32<4294967296:=Nat.lt_of_lt_of_le k1 (Nat.le_trans (pow32 hn).2.1 (by decide))
  refine ⟨by omega,by simpa using h2,(h3.set k3).set k4,?_,?_⟩
  · rw [List.getD_eq_getElem?_getD,List.getElem?_set_self (by simp;omega)];exact k1
  · rw [nval_take_set (by simp;omega),nval_take_set (by omega),nval_take_succ,Nat.add_mul,←h5,nval_take_succ,←shl_lo hn,Nat.pow_succ]
    rw [Nat.mul_assoc _ (l.getD i 0),Nat.mul_assoc (4294967296^i) 4294967296]
    generalize l.getD i 0*2^n=s
    have e2:s%4294967296+4294967296*(s/2^32)=s:=by
      have:=Nat.div_add_mod s 4294967296
      omega
    have e3:=congrArg (4294967296^i*·) e2
    simp only [Nat.mul_add] at e3 ⊢
    omega
theorem shlR_end {l row:List Nat} {n i:Nat} (hi:i=l.length) (h:ShlR l row n i):nval row=nval l*2^n:=by
  obtain ⟨h1,h2,h3,h4,h5⟩:=h
  subst hi
  rwa [List.take_length,List.take_of_length_le (Nat.le_of_eq h2)] at h5
def ShrR (l r:List Nat) (n:Nat):Prop:=r.length≤l.length∧Lims r∧nval r=(nval l/2^n)%4294967296^r.length
theorem shrR_0 (l:List Nat) (n:Nat):ShrR l [] n:=⟨by simp,fun x h=>(by cases h),by simp [nval,Nat.mod_one]⟩
theorem limb_at (l:List Nat) (hl:Lims l) (i:Nat):l.getD i 0=nval l/4294967296^i%4294967296:=by
  have h1:=nval_split l i
  rw [nval_drop] at h1
  have h2:=nval_lt' hl i
  have h3:=getD_lt hl i
  have hp:0<4294967296^i:=Nat.pow_pos (by decide)
  rw [h1,Nat.add_mul_div_left _ _ hp,Nat.div_eq_of_lt h2,Nat.zero_add,Nat.add_mul_mod_self_left,Nat.mod_eq_of_lt h3]
theorem two_limbs (l:List Nat) (hl:Lims l) (i:Nat):l.getD (i+1) 0*2^32+l.getD i 0=nval l/4294967296^i%18446744073709551616:=by
  rw [limb_at l hl i,limb_at l hl (i+1),Nat.pow_succ,←Nat.div_div_eq_div_mul]
  generalize nval l/4294967296^i=z
  omega
theorem shr_dig {z n:Nat} (hn:n<32):z%18446744073709551616/2^n%4294967296=z/2^n%4294967296:=by
  obtain ⟨h1,h2,h3⟩:=pow32 hn
  have e:18446744073709551616=2^n*(2^(32-n)*4294967296):=by
    rw [←Nat.mul_assoc,h3]
  rw [e,Nat.mod_mul_right_div_self,Nat.mul_comm (2^(32-n)),Nat.mod_mul_right_mod]
theorem shrR_s {l r:List Nat} {n:Nat} (lL:Lims l) (hn:n<32) (hi:r.length<l.length) (h:ShrR l r n) :
    ShrR l (r++[(l.getD (r.length+1) 0*2^32+l.getD r.length 0)/2^n%4294967296]) n:=by
  obtain ⟨h1,h2,h3⟩:=h
  refine ⟨by simp;omega,h2.concat (Nat.mod_lt _ (by decide)),?_⟩
  rw [nval_concat,two_limbs l lL,shr_dig hn,h3,List.length_append,List.length_singleton,Nat.div_div_eq_div_mul,Nat.mul_comm (4294967296^r.length) (2^n),←Nat.div_div_eq_div_mul,Nat.pow_succ,Nat.mod_mul]
theorem shrR_end {l r:List Nat} {n:Nat} (lL:Lims l) (hr:r.length=l.length) (h:ShrR l r n):nval r=nval l/2^n:=by
  obtain ⟨h1,h2,h3⟩:=h
  rw [h3,hr,Nat.mod_eq_of_lt]
  exact Nat.lt_of_le_of_lt (Nat.div_le_self _ _) (nval_lt lL)
theorem orN' (j:Nat) {a b:Int} {s t:Nat} (ha:a=t) (hb:b=((s*2^j:Nat):Int)) (ht:t<2^j) (hs:s*2^j+t<18446744073709551616):IntKind.u64.wrap ((BitVec.ofInt IntKind.u64.bits a ||| BitVec.ofInt IntKind.u64.bits b).toNat)=((s*2^j+t:Nat):Int):=by
  rw [BitVec.or_comm]
  exact orN j hb ha ht hs
end Fw
namespace Fw
open Go Go.Proofs
theorem c_trimO (v:Value) (l:List Nat):Con Tryz.prog 191 [VP.ex v] [OB.row v 93 kLimb l] (fun p Lo=>∃(u:Value),p=VP.ex u∧Lo=[OB.row u 93 kLimb (limbs (nval l))]∧True):=by
 refine aN Tryz.func191 Z Z fun m w=>ab<|ST.rowfact 0 Z fun hB hL=>ak<|Wa Z<|Wn<|ab<|aF<|tr 0 Z (y:=(l.take l.length)) (by rw [List.take_length])<|bU (fun (i:Nat) (u:Value)=>i≤l.length∧nval (l.take i)=nval l) (fun (i:Nat) (u:Value)=>[(0,VP.ex u)]) (fun (i:Nat) (u:Value)=>[OB.row u 93 kLimb (l.take i)]) (fun (i:Nat) (u:Value)=>i) l.length v ⟨Nat.le_refl _,by rw [List.take_length]⟩ (ac Z aq) (aG _) ?_
 intro i u ⟨hi,hr⟩
 have hlen:(l.take i).length=i:=by simp;omega
 refine ab<|Cr<|Wm Z<|Ws (de Z (ag 0 Z) U27)<|Ws (cF Z Z)<|Wm Z ?_
 refine cG 6 Z (fun h_t6=>?_)<|fun h_t6=>?_
 ·
  have h_t6':0<i:=by omega
  refine Wg Z Z (cd Z)<|Wg Z Z (cd Z)<|Wg Z Z (de Z (ag 0 Z) U27)<|Wg Z Z (bj Z Z (c:=(((l.take i).length:Int)-1)) (aH (by omega)))<|Wg Z Z (bb (k:=kLimb) (xs:=(l.take i)) (n:=(((l.take i).length:Int)-1)) (i-1) Z Z (ag 0 Z) U27 a7 (by omega) (by omega))<|Wg Z Z (aV (bp (i-1) Z (ag 0 Z) Li Z (y:=((l.take i).getD (i-1) 0)) (gd 0 (by omega)) a7 Z) (cf _))<|Wg Z Z (cq Z Z)<|Ws (cE Z Z)<|Wn ?_
  refine aM Z (fun h_t14=>?_)<|fun h_t14=>?_
  ·
   refine Ck<|aF<|ak<|Wm Z<|Wm Z<|Ws (de Z (ag 0 Z) U27)<|Ws (bj Z Z (c:=(((l.take i).length:Int)-1)) (aH (by omega)))<|WP.slR 0 (i-1) .n Z Z Z U27 a7 (by omega) (by omega) fun v1=>Wa Z<|au<|d4<|tr 0 Z (y:=(l.take (i-1))) (take_take1 hi) ?_
   exact bS (i-1) v1 (by omega) ⟨by omega,(gC hi h_t6' h_t14).trans hr⟩ (ac Z aq)<|aG _
  ·
   refine Ex<|Cr<|Wm Z<|Wa Z<|Wn<|aA<|tr 0 Z (y:=(limbs (nval l))) (trim_stop hL hi h_t6' h_t14 hr) ?_
   exact cg (.inl Z) Z (aI Z ay) (aG _) ⟨u,Z,Z,trivial⟩
 ·
  refine cU (b:=false) Z Z<|cU (b:=false) Z Z<|cU (b:=false) Z Z<|cU (b:=false) Z Z<|cU (b:=false) Z Z<|cU (b:=false) Z Z<|cU (b:=false) Z Z<|Ws (cb Z Z)<|Wn<|dj Z<|Ex<|Cr<|Wm Z<|Wa Z<|Wn<|aA<|tr 0 Z (y:=(limbs (nval l))) (trim_stop0 hr (by omega)) ?_
  exact cg (.inl Z) Z (aI Z ay) (aG _) ⟨u,Z,Z,trivial⟩
theorem c_nat_digit (v:Value) (l vs:List Nat) (o:Nat) (ho:o+(vs.length+1)≤l.length) (hn:1≤vs.length) (hv:vs.getD (vs.length-1) 0≠0) (hU:nval ((l.drop o).take (vs.length+1))<nval vs*4294967296):Con Tryz.prog 274 [VP.win v o (vs.length+1),kN.is vs] [OB.row v 93 kLimb l] (fun p Lo=>∃(w:List Nat),p=(kInt .u32).is ((nval ((l.drop o).take (vs.length+1))/nval vs:Nat):Int)∧Lo=[OB.row v 93 kLimb (l.take o++w++l.drop (o+(vs.length+1)))]∧w.length=vs.length+1∧Lims w∧nval w=nval ((l.drop o).take (vs.length+1))%nval vs):=by
 refine aN Tryz.func274 Z Z fun m w=>ST.rowfact 0 Z fun hB hL=>a8 (i:=1) Z cA fun lv=>a8 (i:=1) Z bF fun hBv=>?_
 obtain ⟨w0,hw0⟩:∃w0,w0=(l.drop o).take (vs.length+1):=⟨_,rfl⟩
 have lw0:Lims w0:=by rw [hw0];exact (hL.drop _).take _
 have hw0l:w0.length=vs.length+1:=by rw [hw0];simp;omega
 have hU0:nval w0<nval vs*4294967296:=by rw [hw0];exact hU
 have hol:o≤l.length:=by omega
 refine tr 0 Z (y:=(l.take o++w0++l.drop (o+(vs.length+1)))) (by rw [hw0];exact win_self) ?_
 have hx1:=getD_lt lw0 vs.length
 have hx2:=getD_lt lw0 (vs.length-1)
 have hx3:=getD_lt lv (vs.length-1)
 have hrl:=win_len (o:=o) ho hw0l
 refine Cr<|Wa Z<|Wr<|Wm Z<|Ws (aJ Z U27)<|Wa Z<|Wn<|ab ?_
 refine a5 (Γ:=[.fr (VP.win v o (vs.length+1)),.fr (kN6.is (vs.length:Int)),.fr (VP.pel v (o+vs.length*1)),.fr ((kInt .u32).is ((w0.getD vs.length 0):Int)),.fr ((kInt .u64).is ((w0.getD vs.length 0):Int)),.fr ((kInt .u64).is ((w0.getD vs.length 0*2^32:Nat):Int)),.fr (VP.win v o (vs.length+1)),.fr (kN6.is (vs.length:Int)),.fr (kN6.is ((vs.length:Int)-1)),.fr (VP.pel v (o+(vs.length-1)*1)),.fr ((kInt .u32).is ((w0.getD (vs.length-1) 0):Int)),.fr ((kInt .u64).is ((w0.getD (vs.length-1) 0):Int)),.fr ((kInt .u64).is ((w0.getD vs.length 0*2^32+w0.getD (vs.length-1) 0:Nat):Int))]) (om Z Z (om Z Z (aa Z (fun N=>e9 (sz:=1) vs.length Z Z U27 a7 Z (by omega)) (aa Z (fun N=>aV (bp (k:=kLimb) (xs:=(l.take o++w0++l.drop (o+(vs.length+1)))) (o+vs.length) Z (mN N 0 Z) Li (ho:=eY) (y:=(w0.getD vs.length 0)) (gj hol (by omega)) a7 Z) (cf _)) (aa Z (fun N=>bq Z U93 U178 (c:=((w0.getD vs.length 0):Int)) (bM (by omega))) (aa Z (fun N=>O.shl Z Z (by omega) (c:=((w0.getD vs.length 0*2^32:Nat):Int)) (shlN 32 Z Z (by decide) (by omega))) (om Z Z (om Z Z (aa Z (fun N=>bj Z Z (c:=((vs.length:Int)-1)) (aH (by omega))) (aa Z (fun N=>e9 (sz:=1) (vs.length-1) Z Z U27 a7 (by omega) (by omega)) (aa Z (fun N=>aV (bp (k:=kLimb) (xs:=(l.take o++w0++l.drop (o+(vs.length+1)))) (o+(vs.length-1)) Z (mN N 0 Z) Li (ho:=eY) (y:=(w0.getD (vs.length-1) 0)) (gj hol (by omega)) a7 Z) (cf _)) (aa Z (fun N=>bq Z U93 U178 (c:=((w0.getD (vs.length-1) 0):Int)) (bM (by omega))) (aa Z (fun N=>O.or Z Z (c:=((w0.getD vs.length 0*2^32+w0.getD (vs.length-1) 0:Nat):Int)) (orN 32 Z Z hx2 (by omega))) oz)))))))))))))<|fun σ=>?_
 refine Wa Z<|Wr<|Wm Z<|Wm Z<|Wm Z<|Ws (bj Z Z (c:=((vs.length:Int)-1)) (aH (by omega)))<|Ws (aU (vs.length-1) Z Z U27 a7 (by omega) (v:=(vs.getD (vs.length-1) 0)) (gd 0 (by omega)))<|Ws (aV (aO Z a7) (cf _))<|Ws (bq Z U93 U178 (c:=((vs.getD (vs.length-1) 0):Int)) (bM (by omega)))<|Ws (eC Z Z (by omega) (c:=(((w0.getD vs.length 0*2^32+w0.getD (vs.length-1) 0)/vs.getD (vs.length-1) 0:Nat):Int)) (quoN (vs.getD (vs.length-1) 0) Z Z (by omega)))<|Ws (O.mn Z Z)<|Wa Z<|Wn<|ab ?_
 obtain ⟨q,hqd⟩:∃q,q=min ((w0.getD vs.length 0*2^32+w0.getD (vs.length-1) 0)/vs.getD (vs.length-1) 0) 4294967295:=⟨_,rfl⟩
 have hq:q<4294967296:=by rw [hqd];exact min_lt32
 have hq2:nval w0/nval vs≤q:=by rw [hqd];exact dig_top lw0 hw0l hn hv hU0
 refine tl 7 Z (y:=(q:Int)) (by rw [hqd];exact minN)<|ak<|Wa Z<|Wa Z<|Wn<|ab<|Cr<|Wm Z<|Ws (aR Z Z (c:=((vs.length:Int)+1)) (aH (by omega)))<|Wm Z<|Wn<|aF<|CW.loop4 (fun (w:List Nat) (i:Nat) (c:Nat) (b:Nat)=>DigR w0 vs q w i c b) (fun (w:List Nat) (i:Nat) (c:Nat) (b:Nat)=>[(0,VP.win v o (vs.length+1)),(1,kN.is vs),(5,kN6.is (vs.length:Int)),(7,(kInt .u64).is (q:Int)),(8,(kInt .u64).is (c:Int)),(9,(kInt .u64).is (b:Int)),(40,kN6.is ((vs.length:Int)+1)),(41,kN6.is (i:Int))]) (fun (w:List Nat) (i:Nat) (c:Nat) (b:Nat)=>[OB.row v 93 kLimb (l.take o++w++l.drop (o+(vs.length+1)))]) (fun (w:List Nat) (i:Nat) (c:Nat) (b:Nat)=>vs.length+1-i) w0 0 0 0 (digR_0 hw0l lw0) (ao Z Z Z Z (az Z (ah (y:=(0:Int)) (by omega)) (az Z (ah (y:=(0:Int)) (by omega)) (ac Z (az Z (ah (y:=(0:Int)) (by omega)) aq))))) (aG _) ?_
 intro w i c b hD
 have hwl:=hD.2.1
 have hx:=getD_lt hD.2.2.1 i
 have hc:=hD.2.2.2.1
 have hb:=hD.2.2.2.2.1
 have hy:=getD_lt lv i
 have hqy:=mul_bd hq hy
 have hpm:(c+q*vs.getD i 0)%4294967296<4294967296:=Nat.mod_lt _ (by omega)
 have hrl:=win_len (o:=o) ho hwl
 have hi:=hD.1
 refine Cr<|Ws (aX Z Z)<|Wn<|ab ?_
 refine aM Z (fun h_t42=>?_)<|fun h_t42=>?_
 ·
  refine Ck<|ab<|aF<|Cr<|Wm Z<|Wa Z<|Wr<|Wm Z<|Wa Z<|Wn<|ab<|Cr<|Wm Z<|Wm Z<|Ws (aX Z Z)<|Wn ?_
  refine aM Z (fun h_t47=>?_)<|fun h_t47=>?_
  ·
   refine ak<|Wm Z<|Wm Z<|Wm Z<|Wm Z<|Ws (aU i Z Z U27 a7 Z (v:=(vs.getD i 0)) (gd 0 (by omega)))<|Ws (aV (aO Z a7) (cf _))<|Ws (bq Z U93 U178 (c:=((vs.getD i 0):Int)) (bM (by omega)))<|Ws (dX Z Z (c:=((q*vs.getD i 0:Nat):Int)) (bM ⟨by norm_cast,by omega,by omega⟩))<|Ws (aR Z Z (c:=((c+q*vs.getD i 0:Nat):Int)) (bM (by omega)))<|Wa Z<|Wr<|Wm Z<|Ws (dl Z Z (by omega) (c:=(((c+q*vs.getD i 0)/2^32:Nat):Int)) (dm 32 Z Z (by decide)))<|Wa Z<|Wr<|Wm Z<|Wm Z ?_
   refine Ws (e9 (sz:=1) i Z Z U27 a7 Z (by omega))<|Ws (aV (bp (k:=kLimb) (xs:=(l.take o++w++l.drop (o+(vs.length+1)))) (o+i) Z (ag 0 Z) Li (ho:=eY) (y:=(w.getD i 0)) (gj hol (by omega)) a7 Z) (cf _))<|Ws (bq Z U93 U178 (c:=((w.getD i 0):Int)) (bM (by omega)))<|Wm Z<|Ws (bq Z U178 U93 (c:=(((c+q*vs.getD i 0)%4294967296:Nat):Int)) (dF Z))<|Ws (bq Z U93 U178 (c:=(((c+q*vs.getD i 0)%4294967296:Nat):Int)) (bM (by omega)))<|Ws (bj Z Z (c:=((lessV 0 (w.getD i 0) ((c+q*vs.getD i 0)%4294967296):Nat):Int)) (dsub1 hx hpm))<|Wm Z<|Ws (bj Z Z (c:=((lessV b (w.getD i 0) ((c+q*vs.getD i 0)%4294967296):Nat):Int)) (dsub2 hb hx hpm))<|Wa Z<|Wr<|Wm Z<|Wm Z<|Wm Z<|Ws (bq Z U178 U93 (c:=((lessV b (w.getD i 0) ((c+q*vs.getD i 0)%4294967296)%4294967296:Nat):Int)) (dF Z))<|Ws (e9 (sz:=1) i Z Z U27 a7 Z (by omega))<|aE .n (co 0 (o+i) Z Z Li eY (y0:=((l.take o++w++l.drop (o+(vs.length+1))).getD (o+i) 0)) (gd 0 (by omega)) a7 Z (bP (x:=(lessV b (w.getD i 0) ((c+q*vs.getD i 0)%4294967296)%4294967296:Nat)) (by omega)))<|Wn<|ak<|Wm Z ?_
   refine Ws (dl Z Z (by omega) (c:=((lessV b (w.getD i 0) ((c+q*vs.getD i 0)%4294967296)/2^63:Nat):Int)) (dm 63 Z Z (by decide)))<|Wa Z<|au<|Qb<|ak<|Ws (aR Z Z (c:=((i:Int)+1)) (aH (by omega)))<|Wm Z<|au<|tr 0 Z (y:=(l.take o++(w.set i (lessV b (w.getD i 0) ((c+q*vs.getD i 0)%4294967296)%4294967296))++l.drop (o+(vs.length+1)))) (win_set hol (by omega)) ?_
   exact eT (w.set i (lessV b (w.getD i 0) ((c+q*vs.getD i 0)%4294967296)%4294967296)) (i+1) ((c+q*vs.getD i 0)/2^32) (lessV b (w.getD i 0) ((c+q*vs.getD i 0)%4294967296)/2^63) (by omega) (digR_s lv hq (by omega) hD) (ao Z Z Z Z (az Z (ah (y:=((((c+q*vs.getD i 0)/2^32):Nat):Int)) (by omega)) (az Z (ah (y:=(((lessV b (w.getD i 0) ((c+q*vs.getD i 0)%4294967296)/2^63):Nat):Int)) (by omega)) (ac Z (az Z (ah (y:=(((i+1):Nat):Int)) (by omega)) aq)))))<|aG _
  ·
   have hy0:=getD_out (l:=vs) (i:=i) (by omega)
   refine tl 11 Z (y:=((c+q*vs.getD i 0:Nat):Int)) (by rw [hy0];rfl)<|Ck<|Cr<|Wm Z<|Ws (dl Z Z (by omega) (c:=(((c+q*vs.getD i 0)/2^32:Nat):Int)) (dm 32 Z Z (by decide)))<|Wa Z<|Wr<|Wm Z<|Wm Z<|Ws (e9 (sz:=1) i Z Z U27 a7 Z (by omega))<|Ws (aV (bp (k:=kLimb) (xs:=(l.take o++w++l.drop (o+(vs.length+1)))) (o+i) Z (ag 0 Z) Li (ho:=eY) (y:=(w.getD i 0)) (gj hol (by omega)) a7 Z) (cf _))<|Ws (bq Z U93 U178 (c:=((w.getD i 0):Int)) (bM (by omega)))<|Wm Z<|Ws (bq Z U178 U93 (c:=(((c+q*vs.getD i 0)%4294967296:Nat):Int)) (dF Z))<|Ws (bq Z U93 U178 (c:=(((c+q*vs.getD i 0)%4294967296:Nat):Int)) (bM (by omega)))<|Ws (bj Z Z (c:=((lessV 0 (w.getD i 0) ((c+q*vs.getD i 0)%4294967296):Nat):Int)) (dsub1 hx hpm))<|Wm Z<|Ws (bj Z Z (c:=((lessV b (w.getD i 0) ((c+q*vs.getD i 0)%4294967296):Nat):Int)) (dsub2 hb hx hpm))<|Wa Z ?_
   refine Wr<|Wm Z<|Wm Z<|Wm Z<|Ws (bq Z U178 U93 (c:=((lessV b (w.getD i 0) ((c+q*vs.getD i 0)%4294967296)%4294967296:Nat):Int)) (dF Z))<|Ws (e9 (sz:=1) i Z Z U27 a7 Z (by omega))<|aE .n (co 0 (o+i) Z Z Li eY (y0:=((l.take o++w++l.drop (o+(vs.length+1))).getD (o+i) 0)) (gd 0 (by omega)) a7 Z (bP (x:=(lessV b (w.getD i 0) ((c+q*vs.getD i 0)%4294967296)%4294967296:Nat)) (by omega)))<|Wn<|ak<|Wm Z<|Ws (dl Z Z (by omega) (c:=((lessV b (w.getD i 0) ((c+q*vs.getD i 0)%4294967296)/2^63:Nat):Int)) (dm 63 Z Z (by decide)))<|Wa Z<|au<|Qb<|ak<|Ws (aR Z Z (c:=((i:Int)+1)) (aH (by omega)))<|Wm Z<|au<|tr 0 Z (y:=(l.take o++(w.set i (lessV b (w.getD i 0) ((c+q*vs.getD i 0)%4294967296)%4294967296))++l.drop (o+(vs.length+1)))) (win_set hol (by omega)) ?_
   exact eT (w.set i (lessV b (w.getD i 0) ((c+q*vs.getD i 0)%4294967296)%4294967296)) (i+1) ((c+q*vs.getD i 0)/2^32) (lessV b (w.getD i 0) ((c+q*vs.getD i 0)%4294967296)/2^63) (by omega) (digR_s lv hq (by omega) hD) (ao Z Z Z Z (az Z (ah (y:=((((c+q*vs.getD i 0)/2^32):Nat):Int)) (by omega)) (az Z (ah (y:=(((lessV b (w.getD i 0) ((c+q*vs.getD i 0)%4294967296)/2^63):Nat):Int)) (by omega)) (ac Z (az Z (ah (y:=(((i+1):Nat):Int)) (by omega)) aq)))))<|aG _
 ·
  refine Ex<|ab<|aF<|dz (fun (w:List Nat) (q:Nat) (b:Nat)=>DigS w0 vs w q b) (fun (w:List Nat) (q:Nat) (b:Nat)=>[(0,VP.win v o (vs.length+1)),(1,kN.is vs),(5,kN6.is (vs.length:Int)),(7,(kInt .u64).is (q:Int)),(9,(kInt .u64).is (b:Int))]) (fun (w:List Nat) (q:Nat) (b:Nat)=>[OB.row v 93 kLimb (l.take o++w++l.drop (o+(vs.length+1)))]) (fun (w:List Nat) (q:Nat) (b:Nat)=>q) w q b (digS_0 (by omega) hw0l hq hq2 hD) (ao Z Z Z Z (ac Z aq)) (aG _) ?_
  intro w q b hS
  have hq:=hS.2.2.2.1
  have hb:=hS.2.2.1
  refine ab<|Cr<|Wm Z<|Ws (cF Z Z)<|Wn ?_
  refine aM Z (fun h_t79=>?_)<|fun h_t79=>?_
  ·
   refine Ck<|aF<|ab ?_
   have hq1:=digS_pos hS (by omega)
   refine ak<|Wm Z<|Ws (bj Z Z (c:=((q-1:Nat):Int)) (bM (by omega)))<|Wa Z<|Wn<|ab ?_
   obtain ⟨w1,hw1⟩:∃w1,w1=w:=⟨_,rfl⟩
   refine tr 0 Z (y:=(l.take o++w1++l.drop (o+(vs.length+1)))) (by rw [hw1]) ?_
   rw [←hw1] at hS
   refine ak<|Wa Z<|Wn<|ab<|Cr<|Wm Z<|Ws (aR Z Z (c:=((vs.length:Int)+1)) (aH (by omega)))<|Wm Z<|Wn<|aF<|dz (fun (w:List Nat) (i:Nat) (c:Nat)=>DigA w1 vs w i c) (fun (w:List Nat) (i:Nat) (c:Nat)=>[(0,VP.win v o (vs.length+1)),(1,kN.is vs),(5,kN6.is (vs.length:Int)),(7,(kInt .u64).is ((q-1:Nat):Int)),(9,(kInt .u64).is (b:Int)),(13,(kInt .u64).is (c:Int)),(83,kN6.is ((vs.length:Int)+1)),(84,kN6.is (i:Int))]) (fun (w:List Nat) (i:Nat) (c:Nat)=>[OB.row v 93 kLimb (l.take o++w++l.drop (o+(vs.length+1)))]) (fun (w:List Nat) (i:Nat) (c:Nat)=>vs.length+1-i) w1 0 0 (digA_0 hS) (ao Z Z Z Z (ac Z (az Z (ah (y:=(0:Int)) (by omega)) (ac Z (az Z (ah (y:=(0:Int)) (by omega)) aq))))) (aG _) ?_
   intro w i c hA
   have hwl:=hA.2.1
   have hx:=getD_lt hA.2.2.1 i
   have hc:=hA.2.2.2.1
   have hy:=getD_lt lv i
   have hrl:=win_len (o:=o) ho hwl
   have hi:=hA.1
   refine Cr<|Ws (aX Z Z)<|Wn<|ab ?_
   refine aM Z (fun h_t85=>?_)<|fun h_t85=>?_
   ·
    refine Ck<|ab<|aF<|Cr<|Wm Z<|Wa Z<|Wr<|Wm Z<|Wm Z<|Wm Z<|Ws (e9 (sz:=1) i Z Z U27 a7 Z (by omega))<|Ws (aV (bp (k:=kLimb) (xs:=(l.take o++w++l.drop (o+(vs.length+1)))) (o+i) Z (ag 0 Z) Li (ho:=eY) (y:=(w.getD i 0)) (gj hol (by omega)) a7 Z) (cf _))<|Ws (bq Z U93 U178 (c:=((w.getD i 0):Int)) (bM (by omega)))<|Ws (aR Z Z (c:=((c:Int)+((w.getD i 0):Int))) (bM (by omega)))<|Wa Z<|Wn<|ab<|ab ?_
    refine ak<|Wm Z<|Wm Z<|Ws (aX Z Z)<|Wn ?_
    refine aM Z (fun h_t96=>?_)<|fun h_t96=>?_
    ·
     refine ak<|Wm Z<|Wm Z<|Wm Z<|Ws (aU i Z Z U27 a7 Z (v:=(vs.getD i 0)) (gd 0 (by omega)))<|Ws (aV (aO Z a7) (cf _))<|Ws (bq Z U93 U178 (c:=((vs.getD i 0):Int)) (bM (by omega)))<|Ws (aR Z Z (c:=(((c:Int)+((w.getD i 0):Int))+((vs.getD i 0):Int))) (bM (by omega)))<|Wa Z<|Wr<|Wm Z<|Wm Z<|Wm Z<|Ws (bq Z U178 U93 (c:=(((c+w.getD i 0+vs.getD i 0)%4294967296:Nat):Int)) (dF (by omega)))<|Ws (e9 (sz:=1) i Z Z U27 a7 Z (by omega))<|aE .n (co 0 (o+i) Z Z Li eY (y0:=((l.take o++w++l.drop (o+(vs.length+1))).getD (o+i) 0)) (gd 0 (by omega)) a7 Z (bP (x:=((c+w.getD i 0+vs.getD i 0)%4294967296:Nat)) (by omega)))<|Wn<|ak<|Wm Z<|Ws (dl Z Z (by omega) (c:=(((c+w.getD i 0+vs.getD i 0)/2^32:Nat):Int)) (dm 32 (by omega) Z (by decide))) ?_
     refine Wa Z<|au<|Qb<|ak<|Ws (aR Z Z (c:=((i:Int)+1)) (aH (by omega)))<|Wm Z<|au<|tr 0 Z (y:=(l.take o++(w.set i ((c+w.getD i 0+vs.getD i 0)%4294967296))++l.drop (o+(vs.length+1)))) (win_set hol (by omega)) ?_
     exact dd (w.set i ((c+w.getD i 0+vs.getD i 0)%4294967296)) (i+1) ((c+w.getD i 0+vs.getD i 0)/2^32) (by omega) (digA_s lv (by omega) hA) (ao Z Z Z Z (ac Z (az Z (ah (y:=((((c+w.getD i 0+vs.getD i 0)/2^32):Nat):Int)) (by omega)) (ac Z (az Z (ah (y:=(((i+1):Nat):Int)) (by omega)) aq)))))<|aG _
    ·
     have hy0:=getD_out (l:=vs) (i:=i) (by omega)
     refine Ck<|Cr<|Wm Z<|Wm Z<|Wm Z<|Ws (bq Z U178 U93 (c:=(((c+w.getD i 0+vs.getD i 0)%4294967296:Nat):Int)) (dF (by omega)))<|Ws (e9 (sz:=1) i Z Z U27 a7 Z (by omega))<|aE .n (co 0 (o+i) Z Z Li eY (y0:=((l.take o++w++l.drop (o+(vs.length+1))).getD (o+i) 0)) (gd 0 (by omega)) a7 Z (bP (x:=((c+w.getD i 0+vs.getD i 0)%4294967296:Nat)) (by omega)))<|Wn<|ak<|Wm Z<|Ws (dl Z Z (by omega) (c:=(((c+w.getD i 0+vs.getD i 0)/2^32:Nat):Int)) (dm 32 (by omega) Z (by decide)))<|Wa Z<|au<|Qb<|ak<|Ws (aR Z Z (c:=((i:Int)+1)) (aH (by omega)))<|Wm Z<|au<|tr 0 Z (y:=(l.take o++(w.set i ((c+w.getD i 0+vs.getD i 0)%4294967296))++l.drop (o+(vs.length+1)))) (win_set hol (by omega)) ?_
     exact dd (w.set i ((c+w.getD i 0+vs.getD i 0)%4294967296)) (i+1) ((c+w.getD i 0+vs.getD i 0)/2^32) (by omega) (digA_s lv (by omega) hA) (ao Z Z Z Z (ac Z (az Z (ah (y:=((((c+w.getD i 0+vs.getD i 0)/2^32):Nat):Int)) (by omega)) (ac Z (az Z (ah (y:=(((i+1):Nat):Int)) (by omega)) aq)))))<|aG _
   ·
    refine Ex<|ak<|Wm Z<|Wm Z<|Ws (bj Z Z (c:=((b-c:Nat):Int)) (bM (by omega)))<|Wa Z<|au<|d4 ?_
    exact dd w (q-1) (b-c) (by have:=(digA_end (by omega) (by omega) hS hA).2;omega) (digA_end (by omega) (by omega) hS hA).1 (ac Z (ac Z (ac Z (az Z (ah (y:=(((q-1):Nat):Int)) (by omega)) (az Z (ah (y:=(((b-c):Nat):Int)) (by omega)) aq)))))<|aG _
  ·
   refine Ex<|Cr<|Wm Z<|Ws (bq Z U178 U93 (c:=(q:Int)) (df (by omega)))<|Wa Z<|Wn<|aA ?_
   have hend:=digS_end (by omega) hS (top_ne hv hn)
   refine tl 4 Z (y:=((nval ((l.drop o).take (vs.length+1))/nval vs:Nat):Int)) (by rw [hend.1,hw0]) ?_
   exact cg (.inl Z) Z (aI Z ay) (aG _) ⟨w,Z,Z,(by rw [←hw0];exact hend.2)⟩
theorem c_nat_shl (l:List Nat) (n:Nat) (hn:n<32) (hB:l.length≤1099511627000):Con Tryz.prog 273 [kN.is l,kN6.is (n:Int)] [] (fun p Lo=>∃(u:Value),p=VP.ex u∧Lo=[OB.row u 93 kLimb (limbs (nval l*2^n))]∧True):=by
 refine aN Tryz.func273 Z Z fun m w=>a8 (i:=0) Z cA fun hL=>?_
 have hll:=limbs_len_le hL
 have lA:=limbs_lims (nval l)
 refine Cr<|Wa Z<|Wr<|Wm Z<|Ws (f1 dq Z (dr l))<|Wa Z<|Wn<|ab<|Cr<|Wm Z<|Ws (aJ Z U27)<|Ws (cq Z Z)<|Wn ?_
 refine aM Z (fun h_t14=>?_)<|fun h_t14=>?_
 ·
  refine Cr<|Wa Z<|Wn<|aA<|a6<|bT 93 kLimb<|tr 0 Z (y:=(limbs (nval l*2^n))) (by rw [limbs0 (n:=nval l) (by omega),Nat.zero_mul,limbs_zero]) ?_
  exact cg (.inl Z) Z (aI Z ay) (aG _) ⟨(.slice none 0 0),Z,Z,trivial⟩
 ·
  refine Ck<|Cr<|Wm Z<|Ws (eC Z Z (by omega) (c:=0) (quo32 hn))<|Wm Z<|Ws (e7 Z Z (by omega) (c:=(n:Int)) (rem32 hn))<|Ws (bq Z U3 U180 (c:=(n:Int)) (bM (by omega)))<|Wa Z<|Wa Z<|Wr<|Wm Z<|Ws (aJ Z U27)<|Wm Z<|Ws (aR Z Z (c:=(((limbs (nval l)).length:Int)+0)) (aH (by omega)))<|Ws (aR Z Z (c:=((((limbs (nval l)).length:Int)+0)+1)) (aH (by omega)))<|bH ((limbs (nval l)).length+1) .n Z Z (by omega) (by omega) U27 ce ef fun v1=>Wa Z<|Wn ?_
  refine ab<|Cr<|Wm Z<|Ws (aJ Z U27)<|Wm Z<|Wn<|aF<|bU (fun (row:List Nat) (i:Nat)=>ShlR (limbs (nval l)) row n i) (fun (row:List Nat) (i:Nat)=>[(0,kN.is (limbs (nval l))),(5,kN6.is 0),(6,(kInt .u64).is (n:Int)),(7,VP.ex v1),(27,kN6.is ((limbs (nval l)).length:Int)),(28,kN6.is (i:Int))]) (fun (row:List Nat) (i:Nat)=>[OB.row v1 93 kLimb row]) (fun (row:List Nat) (i:Nat)=>(limbs (nval l)).length-i) (List.replicate ((limbs (nval l)).length+1) 0) 0 (shlR_0 _ _) (ao Z Z Z Z (ac Z (az Z (ah (y:=(0:Int)) (by omega)) aq))) (aG _) ?_
  intro row i hS
  have hrl:=hS.2.1
  have hi:=hS.1
  have hx:=getD_lt lA i
  have ht:=hS.2.2.2.1
  have k1:=shl_hi hn hx
  have k3:=shl_or (x:=(limbs (nval l)).getD i 0) hn ht
  have k4:=(pow32 hn).2.1
  refine Cr<|Ws (aX Z Z)<|Wn<|ab ?_
  refine aM Z (fun h_t29=>?_)<|fun h_t29=>?_
  ·
   refine Ck<|ab<|aF<|Cr<|Wm Z<|Wa Z<|Wr<|Wm Z<|Wm Z<|Ws (aU i Z Z U27 a7 Z (v:=((limbs (nval l)).getD i 0)) (gd 0 (by omega)))<|Ws (aV (aO Z a7) (cf _))<|Ws (bq Z U93 U178 (c:=(((limbs (nval l)).getD i 0):Int)) (bM (by omega)))<|Wm Z<|Ws (O.shl Z Z (by omega) (c:=(((limbs (nval l)).getD i 0*2^n:Nat):Int)) (shlN n Z Z (by omega) k1.2))<|Wa Z<|Wr ?_
   refine Wm Z<|Wm Z<|Wm Z<|Ws (aR Z Z (c:=((i:Int)+0)) (aH (by omega)))<|Ws (bb (k:=kLimb) (xs:=row) (n:=((i:Int)+0)) i Z Z (ag 0 Z) U27 a7 (by omega) (by omega))<|Ws (aV (bp i Z (ag 0 Z) Li Z (y:=(row.getD i 0)) (gd 0 (by omega)) a7 Z) (cf _))<|Wm Z<|Ws (bq Z U178 U93 (c:=(((limbs (nval l)).getD i 0%2^(32-n)*2^n:Nat):Int)) (by rw [wr32 rfl,shl_lo hn]))<|Ws (O.or Z Z (c:=(((limbs (nval l)).getD i 0%2^(32-n)*2^n+row.getD i 0:Nat):Int)) (orN32 n Z Z ht k3))<|Ws (bb (k:=kLimb) (xs:=row) (n:=((i:Int)+0)) i Z Z (ag 0 Z) U27 a7 (by omega) (by omega))<|aE .n (co 0 i Z Z Li Z (y0:=(row.getD i 0)) (gd 0 (by omega)) a7 Z (bP (x:=((limbs (nval l)).getD i 0%2^(32-n)*2^n+row.getD i 0:Nat)) (by omega)))<|Wn<|ak<|Wm Z<|Wm Z<|Wm Z<|Ws (aR Z Z (c:=((i:Int)+0)) (aH (by omega)))<|Ws (aR Z Z (c:=(((i:Int)+0)+1)) (aH (by omega)))<|Wm Z<|Ws (dl Z Z (by omega) (c:=(((limbs (nval l)).getD i 0*2^n/2^32:Nat):Int)) (dm 32 Z Z (by decide)))<|Ws (bq Z U178 U93 (c:=(((limbs (nval l)).getD i 0*2^n/2^32:Nat):Int)) (df ⟨Z,by omega⟩))<|Ws (bb (k:=kLimb) (xs:=(row.set i ((limbs (nval l)).getD i 0%2^(32-n)*2^n+row.getD i 0:Nat))) (n:=(((i:Int)+0)+1)) (i+1) Z Z (ag 0 Z) U27 a7 (by omega) (by simp;omega))<|aE .n (co 0 (i+1) Z Z Li Z (y0:=((row.set i ((limbs (nval l)).getD i 0%2^(32-n)*2^n+row.getD i 0:Nat)).getD (i+1) 0)) (gd 0 (by simp;omega)) a7 Z (bP (x:=((limbs (nval l)).getD i 0*2^n/2^32:Nat)) (by omega))) ?_
   refine au<|Qb<|ak<|Ws (aR Z Z (c:=((i:Int)+1)) (aH (by omega)))<|Wm Z<|au ?_
   exact bS ((row.set i ((limbs (nval l)).getD i 0%2^(32-n)*2^n+row.getD i 0)).set (i+1) ((limbs (nval l)).getD i 0*2^n/2^32)) (i+1) (by omega) (shlR_s lA hn (by omega) hS) (ao Z Z Z Z (ac Z (az Z (ah (y:=(((i+1):Nat):Int)) (by omega)) aq)))<|a9<|OS.keepLe (bi (by rfl)) OS.nil
  ·
   refine Ex<|Cr<|Wm Z<|cC (Li:=[OB.row v1 93 kLimb row]) (L:=[]) .n dq (aS Z ar) (c_trimO v1 row) fun p_ Lo_ hp_=>?_
   obtain ⟨v2,rfl,rfl,hx_t59⟩:=hp_
   refine Wa Z<|Wn<|aA<|tr 0 Z (y:=(limbs (nval l*2^n))) (by rw [shlR_end (by omega) hS,nval_limbs]) ?_
   exact cg (.inl Z) Z (aI Z ay) (aG _) ⟨v2,Z,Z,trivial⟩
theorem c_nat_shr (l:List Nat) (n:Nat) (hn:n<32):Fn Tryz.prog 275 [kN.is l,kN6.is (n:Int)] (kN.is (limbs (nval l/2^n))):=by
 refine aN Tryz.func275 Z Z fun m w=>a8 (i:=0) Z cA fun hL=>?_
 have hll:=limbs_len_le hL
 have lA:=limbs_lims (nval l)
 refine a8 (i:=0) Z bF fun hB=>Cr<|Wa Z<|Wr<|Wm Z<|Ws (f1 dq Z (dr l))<|Wa Z<|Wr<|Wm Z<|Ws (eC Z Z (by omega) (c:=0) (quo32 hn))<|Wm Z<|Ws (e7 Z Z (by omega) (c:=(n:Int)) (rem32 hn))<|Ws (bq Z U3 U180 (c:=(n:Int)) (bM (by omega)))<|Wa Z<|Wa Z<|Wn ?_
 refine ab<|Cr<|Wm Z<|Wm Z<|Ws (aJ Z U27)<|Ws (di Z Z)<|Wn ?_
 refine aM Z (fun h_t20=>?_)<|fun h_t20=>?_
 ·
  refine Cr<|Wa Z<|Wn<|aA<|a6<|dA (q:=kN.is ([]:List Nat)) 4 Z (dU _)<|tl 4 Z (y:=(limbs (nval l/2^n))) (by rw [limbs0 (n:=nval l) (by omega),Nat.zero_div,limbs_zero]) ?_
  exact Qd Z (aI Z ay) ⟨Z,Z⟩
 ·
  refine Ck<|Cr<|Wm Z<|Ws (aJ Z U27)<|Wm Z<|Ws (bj Z Z (c:=(((limbs (nval l)).length:Int)-0)) (aH (by omega)))<|bH ((limbs (nval l)).length) .n Z Z (by omega) (by omega) U27 ce ef fun v1=>Wa Z<|Wn<|ab<|Cr<|Wm Z<|Ws (de Z (ag 0 Z) U27)<|Wm Z<|Wn<|aF<|bJ (fun (r:List Nat)=>ShrR (limbs (nval l)) r n) (fun (r:List Nat)=>[(0,kN.is (limbs (nval l))),(5,kN6.is 0),(6,(kInt .u64).is (n:Int)),(7,VP.ex v1),(27,kN6.is ((limbs (nval l)).length:Int)),(28,kN6.is (r.length:Int))]) (fun (r:List Nat)=>[OB.row v1 93 kLimb (fil (limbs (nval l)).length r)]) (fun (r:List Nat)=>(limbs (nval l)).length-r.length) [] (shrR_0 _ _) (ao Z Z Z Z (az Z (ah (y:=((limbs (nval l)).length:Int)) (by simp)) (az Z (ah (y:=([].length:Int)) (by rfl)) aq))) (a9 (.keepLe (bi (fil_nil _)) .nil)) ?_
  intro r hS
  have hi:=hS.1
  have hx:=getD_lt lA r.length
  have hy:=getD_lt lA (r.length+1)
  have hfl:=fil_len (n:=(limbs (nval l)).length) (r:=r) (by omega)
  refine Cr<|Ws (aX Z Z)<|Wn<|ab ?_
  refine aM Z (fun h_t29=>?_)<|fun h_t29=>?_
  ·
   refine Ck<|ab<|aF<|Cr<|Wm Z<|Wa Z<|Wr<|Wm Z<|Wm Z<|Wm Z<|Ws (aR Z Z (c:=((r.length:Int)+0)) (aH (by omega)))<|Ws (aU r.length Z Z U27 a7 (by omega) (v:=((limbs (nval l)).getD r.length 0)) (gd 0 (by omega)))<|Ws (aV (aO Z a7) (cf _))<|Ws (bq Z U93 U178 (c:=(((limbs (nval l)).getD r.length 0):Int)) (bM (by omega)))<|Wa Z<|Wn<|ab<|ab ?_
   refine ak<|Wm Z<|Wm Z<|Ws (aR Z Z (c:=((r.length:Int)+0)) (aH (by omega)))<|Ws (aR Z Z (c:=(((r.length:Int)+0)+1)) (aH (by omega)))<|Wm Z<|Ws (aJ Z U27)<|Ws (aX Z Z)<|Wn ?_
   refine aM Z (fun h_t44=>?_)<|fun h_t44=>?_
   ·
    refine ak<|Wm Z<|Wm Z<|Wm Z<|Wm Z<|Ws (aR Z Z (c:=((r.length:Int)+0)) (aH (by omega)))<|Ws (aR Z Z (c:=(((r.length:Int)+0)+1)) (aH (by omega)))<|Ws (aU (r.length+1) Z Z U27 a7 (by omega) (v:=((limbs (nval l)).getD (r.length+1) 0)) (gd 0 (by omega)))<|Ws (aV (aO Z a7) (cf _))<|Ws (bq Z U93 U178 (c:=(((limbs (nval l)).getD (r.length+1) 0):Int)) (bM (by omega)))<|Ws (O.shl Z Z (by omega) (c:=(((limbs (nval l)).getD (r.length+1) 0*2^32:Nat):Int)) (shlN 32 Z Z (by decide) (by omega)))<|Ws (O.or Z Z (c:=(((limbs (nval l)).getD (r.length+1) 0*2^32+(limbs (nval l)).getD r.length 0:Nat):Int)) (orN' 32 Z Z hx (by omega)))<|Wa Z<|Wn<|ak<|Wm Z<|Wm Z<|Wm Z<|Wm Z<|Ws (dl Z Z (by omega) (c:=((((limbs (nval l)).getD (r.length+1) 0*2^32+(limbs (nval l)).getD r.length 0)/2^n:Nat):Int)) (dm n Z Z (show n≤64 by omega)))<|Ws (bq Z U178 U93 (c:=((((limbs (nval l)).getD (r.length+1) 0*2^32+(limbs (nval l)).getD r.length 0)/2^n%4294967296:Nat):Int)) (dF Z))<|Ws (bb (k:=kLimb) (xs:=(fil (limbs (nval l)).length r)) (n:=(r.length:Int)) r.length Z Z (ag 0 Z) U27 a7 Z (by omega))<|aE .n (co 0 r.length Z Z Li Z (y0:=((fil (limbs (nval l)).length r).getD r.length 0)) (gd 0 (by omega)) a7 Z (bP (x:=(((limbs (nval l)).getD (r.length+1) 0*2^32+(limbs (nval l)).getD r.length 0)/2^n%4294967296:Nat)) (by omega))) ?_
    refine au<|Qb<|ak<|Ws (aR Z Z (c:=((r.length:Int)+1)) (aH (by omega)))<|Wm Z<|au ?_
    exact bE (r++[((limbs (nval l)).getD (r.length+1) 0*2^32+(limbs (nval l)).getD r.length 0)/2^n%4294967296]) (by simp;omega) (shrR_s lA hn (by omega) hS) (ao Z Z Z Z (ac Z (az Z (ah (y:=((r++[((limbs (nval l)).getD (r.length+1) 0*2^32+(limbs (nval l)).getD r.length 0)/2^n%4294967296]).length:Int)) (by simp)) aq)))<|a9<|.keepLe (bi (fM (by omega))) .nil
   ·
    have hy0:=getD_out (l:=limbs (nval l)) (i:=r.length+1) (by omega)
    refine tl 9 Z (y:=(((limbs (nval l)).getD (r.length+1) 0*2^32+(limbs (nval l)).getD r.length 0:Nat):Int)) (by rw [hy0];simp)<|Ck<|ak<|Wm Z<|Wm Z<|Wm Z<|Wm Z<|Ws (dl Z Z (by omega) (c:=((((limbs (nval l)).getD (r.length+1) 0*2^32+(limbs (nval l)).getD r.length 0)/2^n:Nat):Int)) (dm n Z Z (show n≤64 by omega)))<|Ws (bq Z U178 U93 (c:=((((limbs (nval l)).getD (r.length+1) 0*2^32+(limbs (nval l)).getD r.length 0)/2^n%4294967296:Nat):Int)) (dF Z))<|Ws (bb (k:=kLimb) (xs:=(fil (limbs (nval l)).length r)) (n:=(r.length:Int)) r.length Z Z (ag 0 Z) U27 a7 Z (by omega))<|aE .n (co 0 r.length Z Z Li Z (y0:=((fil (limbs (nval l)).length r).getD r.length 0)) (gd 0 (by omega)) a7 Z (bP (x:=(((limbs (nval l)).getD (r.length+1) 0*2^32+(limbs (nval l)).getD r.length 0)/2^n%4294967296:Nat)) (by omega)))<|au<|Qb<|ak<|Ws (aR Z Z (c:=((r.length:Int)+1)) (aH (by omega)))<|Wm Z<|au ?_
    exact bE (r++[((limbs (nval l)).getD (r.length+1) 0*2^32+(limbs (nval l)).getD r.length 0)/2^n%4294967296]) (by simp;omega) (shrR_s lA hn (by omega) hS) (ao Z Z Z Z (ac Z (az Z (ah (y:=((r++[((limbs (nval l)).getD (r.length+1) 0*2^32+(limbs (nval l)).getD r.length 0)/2^n%4294967296]).length:Int)) (by simp)) aq)))<|a9<|.keepLe (bi (fM (by omega))) .nil
  ·
   refine Ex<|ab<|tr 0 Z (y:=r) (fil_full (by omega))<|ak<|Wm Z<|bL 0 Z (kp 0 Z (kp 5 Z (kp 6 Z (.hit (i:=7) Z (kp 27 Z (kp 28 Z (kp 29 Z (.hit (i:=64) Z .nil))))))))<|Ws (f1 dq Z (dr r))<|Wa Z<|Wn<|aA<|tl 4 Z (y:=(limbs (nval l/2^n))) (by rw [shrR_end lA (by omega) hS,nval_limbs]) ?_
   exact Qd Z (aI Z ay) ⟨Z,Z⟩
end Fw
namespace Fw
open Go (IntKind)
theorem limbs_len_pos {n:Nat} (h:n≠0):1≤(limbs n).length:=by rw [limbs_pos h];simp
theorem limbs_top {n:Nat} (h:n≠0):(limbs n).getD ((limbs n).length-1) 0≠0:=by
  have h1:=limbs_len_pos h
  have h2:=split_at (l:=limbs n) (Nat.le_refl _) h1
  rw [List.drop_length,nval_limbs,nval,Nat.mul_zero,Nat.add_zero] at h2
  intro h0
  rw [h0,Nat.mul_zero,Nat.add_zero] at h2
  have h3:=nval_lt ((limbs_lims n).take ((limbs n).length-1))
  rw [List.length_take,Nat.min_eq_left (Nat.sub_le _ _),←h2] at h3
  have h4:=limbs_last h
  omega
theorem one_limb {n:Nat} (h:(limbs n).length=1):(limbs n).getD 0 0=n:=by
  have h1:=nval_limbs n
  match hl:limbs n,h with
  | [x],_=>rw [hl] at h1;simp [nval] at h1;simpa using h1
theorem div_sh {b:Nat} (hb:b≠0):∃s:Nat,(32:Int)-(bitlen ((limbs b).getD ((limbs b).length-1) 0):Int)=s∧s<32∧(limbs (b*2^s)).length=(limbs b).length:=by
  have ht:=limbs_top hb
  have hx:=getD_lt (limbs_lims b) ((limbs b).length-1)
  have h1:=@bitlen_le ((limbs b).getD ((limbs b).length-1) 0) 32 hx
  have h2:bitlen ((limbs b).getD ((limbs b).length-1) 0)≠0:=fun h=>ht (bitlen_0.1 h)
  refine ⟨32-bitlen ((limbs b).getD ((limbs b).length-1) 0),by omega,by omega,?_⟩
  have hp:=limbs_len_pos hb
  have h3:=split_at (l:=limbs b) (Nat.le_refl _) hp
  rw [List.drop_length,nval_limbs,nval,Nat.mul_zero,Nat.add_zero] at h3
  have h4:=nval_lt ((limbs_lims b).take ((limbs b).length-1))
  rw [List.length_take,Nat.min_eq_left (Nat.sub_le _ _)] at h4
  have h5:=lt_bitlen ((limbs b).getD ((limbs b).length-1) 0)
  generalize hq:bitlen ((limbs b).getD ((limbs b).length-1) 0)=q at *
  generalize (limbs b).getD ((limbs b).length-1) 0=t at *
  apply Nat.le_antisymm
  · apply limbs_len_lt
    have h6:b<4294967296^((limbs b).length-1)*2^q:=by
      have:4294967296^((limbs b).length-1)*(t+1)≤4294967296^((limbs b).length-1)*2^q:=Nat.mul_le_mul_left _ h5
      rw [Nat.mul_add,Nat.mul_one] at this
      omega
    have h7:b*2^(32-q)<4294967296^((limbs b).length-1)*2^q*2^(32-q):=Nat.mul_lt_mul_of_pos_right h6 (Nat.two_pow_pos _)
    rw [Nat.mul_assoc,←Nat.pow_add,Nat.add_sub_cancel' h1,show (2:Nat)^32=4294967296 from rfl,←Nat.pow_succ,show ((limbs b).length-1).succ=(limbs b).length from by omega] at h7
    exact h7
  · exact limbs_mono (Nat.le_mul_of_pos_right _ (Nat.two_pow_pos _))
theorem take_pad {L:List Nat} {k:Nat} (h:L.length≤k) (hk:k≤L.length+2):((L++[0,0]).take k).length=k∧nval ((L++[0,0]).take k)=nval L:=by
  refine ⟨by simp;omega,?_⟩
  rw [List.take_append,List.take_of_length_le h,nval_append]
  have:nval (([0,0]:List Nat).take (k-L.length))=0:=by
    have:[0,0]=List.replicate 2 0:=rfl
    rw [this,List.take_replicate,nval_replicate0]
  rw [this];rfl
def DivR (D V la lb:Nat) (us qs:List Nat) (k:Nat):Prop:=us.length=la+1∧Lims us∧qs.length=la-lb+1∧Lims qs∧k≤la-lb+1∧nval us+V*(4294967296^k*nval (qs.drop k))=D∧nval (us.drop k)<V
theorem divR_0 {a b s:Nat} {us:List Nat} (hb:b≠0) (hab:b≤a) (hu:us.length=(limbs a).length+1) (lu:Lims us) (hv:nval us=a*2^s) :
    DivR (a*2^s) (b*2^s) (limbs a).length (limbs b).length us (List.replicate ((limbs a).length-(limbs b).length+1) 0) ((limbs a).length-(limbs b).length+1):=by
  have hl:=limbs_mono hab
  have hp:=limbs_len_pos hb
  obtain ⟨K,hK⟩:∃K,K=(limbs a).length-(limbs b).length+1:=⟨_,rfl⟩
  rw [←hK]
  refine ⟨hu,lu,by simp [hK],fun x hx=>?_,Nat.le_of_eq hK,?_,?_⟩
  · have:=(List.mem_replicate.1 hx).2;omega
  · rw [List.drop_of_length_le (by simp),hv];simp [nval]
  · have h1:=nval_split us K
    rw [hv] at h1
    have h2:=lt_limbs a
    have h3:=limbs_last hb
    have h4:4294967296^K*nval (us.drop K)<4294967296^K*(b*2^s):=by
      have h5:a*2^s<4294967296^(limbs a).length*2^s:=Nat.mul_lt_mul_of_pos_right h2 (Nat.two_pow_pos _)
      have h6:4294967296^(limbs a).length*2^s≤4294967296^K*(b*2^s):=by
        rw [←Nat.mul_assoc]
        apply Nat.mul_le_mul_right
        have h7:4294967296^(limbs a).length=4294967296^K*4294967296^((limbs b).length-1):=by
          rw [←Nat.pow_add];congr 1;omega
        rw [h7]
        exact Nat.mul_le_mul_left _ h3
      omega
    exact Nat.lt_of_mul_lt_mul_left h4
theorem divR_win {D V la lb:Nat} {us qs:List Nat} {k:Nat} (hlb:lb=(limbs V).length) (hl:lb≤la) (hk:0<k) (h:DivR D V la lb us qs k) :
    nval ((us.drop (k-1)).take (lb+1))<V*4294967296∧nval (us.drop (k-1))=nval ((us.drop (k-1)).take (lb+1))∧nval (us.drop (k-1+(lb+1)))=0:=by
  obtain ⟨h1,h2,h3,h4,h5,h6,h7⟩:=h
  have e1:=nval_drop us (k-1)
  rw [show k-1+1=k from by omega] at e1
  have e2:=getD_lt h2 (k-1)
  have e3:nval (us.drop (k-1))<V*4294967296:=by omega
  have e4:=nval_split (us.drop (k-1)) (lb+1)
  rw [List.drop_drop] at e4
  have e5:=lt_limbs V
  rw [←hlb] at e5
  have e6:nval (us.drop (k-1+(lb+1)))=0:=by
    rcases Nat.eq_zero_or_pos (nval (us.drop (k-1+(lb+1)))) with h | h
    · exact h
    · exfalso
      have:4294967296^(lb+1)*1≤4294967296^(lb+1)*nval (us.drop (k-1+(lb+1))):=Nat.mul_le_mul_left _ h
      rw [Nat.mul_one] at this
      have h8:V*4294967296<4294967296^(lb+1):=by
        rw [Nat.pow_succ];exact Nat.mul_lt_mul_of_pos_right e5 (by decide)
      omega
  rw [e6,Nat.mul_zero,Nat.add_zero] at e4
  exact ⟨by rw [←e4];exact e3,e4,e6⟩
theorem divR_q {D V la lb:Nat} {us qs:List Nat} {k:Nat} (hlb:lb=(limbs V).length) (hl:lb≤la) (hk:0<k) (h:DivR D V la lb us qs k):nval ((us.drop (k-1)).take (lb+1))/V<4294967296:=by
  have g1:=(divR_win hlb hl hk h).1
  have hVp:0<V:=by have:=h.2.2.2.2.2.2;omega
  rw [Nat.div_lt_iff_lt_mul hVp,Nat.mul_comm];exact g1
theorem divR_s {D V la lb:Nat} {us qs w:List Nat} {k:Nat} (hlb:lb=(limbs V).length) (hl:lb≤la) (hk:0<k) (h:DivR D V la lb us qs k) (hw:w.length=lb+1) (lw:Lims w) (hwv:nval w=nval ((us.drop (k-1)).take (lb+1))%V) :
    DivR D V la lb (us.take (k-1)++w++us.drop (k-1+(lb+1))) (qs.set (k-1) (nval ((us.drop (k-1)).take (lb+1))/V)) (k-1):=by
  obtain ⟨g1,g2,g3⟩:=divR_win hlb hl hk h
  obtain ⟨h1,h2,h3,h4,h5,h6,h7⟩:=h
  have hVp:0<V:=by omega
  have hq:nval ((us.drop (k-1)).take (lb+1))/V<4294967296:=by
    rw [Nat.div_lt_iff_lt_mul hVp,Nat.mul_comm];exact g1
  generalize hU:nval ((us.drop (k-1)).take (lb+1))=U at *
  have htl:(us.take (k-1)).length=k-1:=by simp;omega
  have hnv:nval (us.take (k-1)++w++us.drop (k-1+(lb+1)))=nval (us.take (k-1))+4294967296^(k-1)*(U%V):=by
    rw [List.append_assoc,nval_append,nval_append,g3,Nat.mul_zero,Nat.add_zero,hwv,htl]
  have hus:=nval_split us (k-1)
  rw [g2] at hus
  refine ⟨?_,?_,by simpa using h3,h4.set hq,by omega,?_,?_⟩
  · simp [htl,hw];omega
  · intro x hx
    rcases List.mem_append.1 hx with hx | hx
    · rcases List.mem_append.1 hx with hx | hx
      · exact h2.take _ x hx
      · exact lw x hx
    · exact h2.drop _ x hx
  · rw [hnv,drop_set (by omega),nval,show k-1+1=k from by omega,←h6,hus]
    have e1:=Nat.div_add_mod U V
    have e2:4294967296^(k-1)*(4294967296*nval (qs.drop k))=4294967296^k*nval (qs.drop k):=by
      rw [←Nat.mul_assoc,←Nat.pow_succ,show (k-1).succ=k from by omega]
    rw [Nat.mul_add (4294967296^(k-1)) (U/V),e2,Nat.mul_add V]
    have e3:V*(4294967296^(k-1)*(U/V))+4294967296^(k-1)*(U%V)=4294967296^(k-1)*U:=by
      rw [Nat.mul_left_comm,←Nat.mul_add,e1]
    omega
  · rw [List.append_assoc,List.drop_append_of_le_length (by omega),List.drop_of_length_le (by omega),List.nil_append,nval_append,g3,Nat.mul_zero,Nat.add_zero,hwv]
    exact Nat.mod_lt _ hVp
theorem divR_end {a b s la lb:Nat} {us qs:List Nat} {k:Nat} (hk:k=0) (h:DivR (a*2^s) (b*2^s) la lb us qs k):nval qs=a/b∧nval us/2^s=a%b:=by
  obtain ⟨h1,h2,h3,h4,h5,h6,h7⟩:=h
  subst hk
  simp only [List.drop_zero,Nat.pow_zero,Nat.one_mul] at h6 h7
  have hp:=Nat.two_pow_pos s
  have e1:nval qs=a*2^s/(b*2^s):=by
    rw [←h6,Nat.add_mul_div_left _ _ (by omega),Nat.div_eq_of_lt h7,Nat.zero_add]
  have e2:nval us=a*2^s%(b*2^s):=by
    rw [←h6,Nat.add_mul_mod_self_left,Nat.mod_eq_of_lt h7]
  refine ⟨?_,?_⟩
  · rw [e1,Nat.mul_div_mul_right _ _ hp]
  · rw [e2,Nat.mul_mod_mul_right,Nat.mul_div_cancel _ hp]
end Fw
namespace Fw
open Go Go.Proofs
theorem c_nat_Div (a b:List Nat) (hA:a.length≤549755813000) (hB:b.length≤549755813000):Fn Tryz.prog 257 [kN.is a,kN.is b] (VP.tup [kN.is (limbs (nval a/nval b)),kN.is (if nval b=0 then [] else limbs (nval a%nval b)),kN6.is (if nval b=0 then 11 else 0)]):=by
 refine aN Tryz.func257 Z Z fun m w=>a8 (i:=0) Z cA fun la=>a8 (i:=1) Z cA fun lb=>?_
 have hla:=limbs_len_le la
 have hlb:=limbs_len_le lb
 have lA:=limbs_lims (nval a)
 have lB:=limbs_lims (nval b)
 refine Cr<|Wa Z<|Wa Z<|Wa Z<|Wr<|Wm Z<|Ws (f1 dq Z (dr a))<|Wm Z<|Ws (f1 dq Z (dr b))<|Wa Z<|Wa Z<|Wn<|ab<|aF<|Cr<|Wm Z<|Ws (aJ Z U27)<|Ws (cq Z Z) ?_
 refine Wa Z<|Wn ?_
 refine aM Z (fun h_t18=>?_)<|fun h_t18=>?_
 ·
  have hb0:nval b=0:=limbs0 (by omega)
  refine Cr<|Wa Z<|Wa Z<|Wa Z<|Wn<|aA<|bQ<|a6<|dA (q:=kN.is ([]:List Nat)) 4 Z (dU _)<|dA (q:=kN.is ([]:List Nat)) 5 Z (dU _)<|tl 4 Z (y:=(limbs (nval a/nval b))) (by rw [hb0,Nat.div_zero,limbs_zero])<|tl 5 Z (y:=(if nval b=0 then [] else limbs (nval a%nval b))) (by rw [if_pos hb0])<|tl 6 Z (y:=(if nval b=0 then 11 else 0)) (by rw [if_pos hb0]) ?_
  exact Qd Z (aI Z (aI Z (aI Z ay))) ⟨Z,Z⟩
 ·
  have hb0:nval b≠0:=fun h=>by rw [h,limbs_zero] at h_t18;exact h_t18 rfl
  have hlbp:=limbs_len_pos hb0
  refine Cr<|Wm Z<|Wm Z<|Ws (f2 fn190 Z Z (gF (limbs (nval a)) (limbs (nval b))))<|Ws (aX Z Z)<|Wa Z<|Wn ?_
  refine aM Z (fun h_t22=>?_)<|fun h_t22=>?_
  ·
   refine Cr<|Wm Z<|Ws (f1 fn270 Z (c_nat_Norm (limbs (nval a))))<|Wa Z<|Wa Z<|Wa Z<|Wn<|aA<|bQ<|a6 ?_
   have hlt:nval a<nval b:=by have:=cmpI_lt h_t22;rwa [nval_limbs,nval_limbs] at this
   refine dA (q:=kN.is ([]:List Nat)) 4 Z (dU _)<|tl 4 Z (y:=(limbs (nval a/nval b))) (by rw [Nat.div_eq_of_lt hlt,limbs_zero])<|tl 5 Z (y:=(if nval b=0 then [] else limbs (nval a%nval b))) (by rw [if_neg hb0,nval_limbs,Nat.mod_eq_of_lt hlt])<|tl 6 Z (y:=(if nval b=0 then 11 else 0)) (by rw [if_neg hb0]) ?_
   exact Qd Z (aI Z (aI Z (aI Z ay))) ⟨Z,Z⟩
  ·
   have hab:nval b≤nval a:=by have:=cmpI_ge h_t22;rwa [nval_limbs,nval_limbs] at this
   have hll:=limbs_mono hab
   refine Cr<|Wm Z<|Ws (aJ Z U27)<|Ws (cq Z Z)<|Wa Z<|Wn ?_
   refine aM Z (fun h_t29=>?_)<|fun h_t29=>?_
   ·
    refine ab ?_
    have hx0:=getD_lt lB 0
    refine ak<|Wm Z<|Wm Z<|Ws (aU 0 Z Z U27 a7 Z (v:=((limbs (nval b)).getD 0 0)) (gd 0 (by omega)))<|Ws (aV (aO Z a7) (cf _))<|Ws (aB fn271 (aS Z (aj Z (bP (x:=((limbs (nval b)).getD 0 0)) (by omega)) ar)) (c_nat_short (limbs (nval a)) ((limbs (nval b)).getD 0 0) (by rw [one_limb (by omega)];exact hb0)))<|Wm Z<|Ws (aP Z Z)<|Ws (aP Z Z)<|Wa Z<|Wa Z<|Wn<|ab ?_
    have hm:nval (limbs (nval a))%(limbs (nval b)).getD 0 0<4294967296:=Nat.lt_of_lt_of_le (Nat.mod_lt _ (by rw [one_limb (by omega)];omega)) (Nat.le_of_lt hx0)
    refine ak<|Wm Z<|Wm Z<|Ws (bB U27 ce (cz Z (bP (x:=(nval (limbs (nval a))%((limbs (nval b)).getD 0 0):Nat)) (by omega)) bA) Z (by decide))<|Ws (f1 dq Z (dr [(nval (limbs (nval a))%((limbs (nval b)).getD 0 0):Nat)]))<|Wa Z<|Wa Z<|Wa Z<|Wn<|aA<|bQ<|a6<|tl 4 Z (y:=(limbs (nval a/nval b))) (by rw [one_limb (by omega),nval_limbs])<|tl 5 Z (y:=(if nval b=0 then [] else limbs (nval a%nval b))) (by rw [if_neg hb0,one_limb (by omega),nval_limbs];simp [nval])<|tl 6 Z (y:=(if nval b=0 then 11 else 0)) (by rw [if_neg hb0]) ?_
    exact Qd Z (aI Z (aI Z (aI Z ay))) ⟨Z,Z⟩
   ·
    refine cx<|Qb<|ab ?_
    have hx9:=getD_lt lB ((limbs (nval b)).length-1)
    refine ak<|Wm Z<|Wm Z<|Ws (aJ Z U27)<|Ws (bj Z Z (c:=(((limbs (nval b)).length:Int)-1)) (aH (by omega)))<|Ws (aU ((limbs (nval b)).length-1) Z Z U27 a7 (by omega) (v:=((limbs (nval b)).getD ((limbs (nval b)).length-1) 0)) (gd 0 (by omega)))<|Ws (aV (aO Z a7) (cf _))<|Ws (aB fn272 (aj Z (bP (x:=((limbs (nval b)).getD ((limbs (nval b)).length-1) 0)) (by omega)) ar) (c_bits_LeadingZeros32 ((limbs (nval b)).getD ((limbs (nval b)).length-1) 0)))<|Wa Z<|Wn<|ab ?_
    obtain ⟨s,hsv,hs,hvl⟩:=div_sh hb0
    refine tl 9 Z (y:=(s:Int)) hsv ?_
    have hV:nval b*2^s≠0:=Nat.mul_ne_zero hb0 (Nat.ne_of_gt (Nat.two_pow_pos s))
    refine ak<|Wm Z<|Wm Z<|cC (Li:=[]) (L:=[]) .n fn273 (aS Z (aS Z ar)) (c_nat_shl (limbs (nval b)) s hs (by omega)) fun p_ Lo_ hp_=>?_
    obtain ⟨v1,rfl,rfl,hx_t54⟩:=hp_
    refine Wa Z<|Wn<|ab<|tr 0 Z (y:=(limbs (nval b*2^s))) (by rw [nval_limbs])<|bL 0 Z (kp 0 Z (kp 1 Z (kp 4 Z (kp 5 Z (kp 6 Z (kp 9 Z (.hit (i:=10) Z (kp 14 Z (kp 15 Z (kp 16 Z (kp 17 Z (kp 18 Z (kp 19 Z (kp 20 Z (kp 21 Z (kp 22 Z (kp 23 Z (kp 24 Z (kp 25 Z (kp 26 Z (kp 29 Z (kp 30 Z (kp 31 Z (kp 32 Z (kp 45 Z (kp 46 Z (kp 47 Z (kp 48 Z (kp 49 Z (kp 50 Z (kp 51 Z (kp 52 Z (kp 53 Z (.hit (i:=54) Z .nil)))))))))))))))))))))))))))))))))) ?_
    have hul0:(limbs (nval a*2^s)).length≤(limbs (nval a)).length+1:=limbs_len_lt (by rw [Nat.pow_succ];exact Nat.mul_lt_mul_of_lt_of_le (lt_limbs _) (Nat.le_trans (pow32 hs).2.1 (by decide)) (by decide))
    have hul1:(limbs (nval a)).length≤(limbs (nval a*2^s)).length:=limbs_mono (Nat.le_mul_of_pos_right _ (Nat.two_pow_pos s))
    refine ak<|Wm Z<|Wm Z<|cC (Li:=[]) (L:=[]) .n fn273 (aS Z (aS Z ar)) (c_nat_shl (limbs (nval a)) s hs (by omega)) fun p_ Lo_ hp_=>?_
    obtain ⟨v2,rfl,rfl,hx_t57⟩:=hp_
    refine Ws (bB U27 ce (cz Z (bP (x:=0) (by omega)) (cz Z (bP (x:=0) (by omega)) bA)) Z (by decide))<|tr 0 Z (y:=(limbs (nval a*2^s))) (by rw [nval_limbs])<|bI 0 .n Z Z Z Lr U27 ce (by simp;omega) fun v3=>Wm Z<|Ws (aJ Z U27)<|Ws (aR Z Z (c:=(((limbs (nval a)).length:Int)+1)) (aH (by omega)))<|WP.slR 0 ((limbs (nval a)).length+1) .n Z Z Z U27 a7 (by omega) (by simp;omega) fun v4=>Wa Z<|Wn<|ab ?_
    obtain ⟨us0,hus0⟩:∃us0,us0=(limbs (nval a*2^s)++[0,0]).take ((limbs (nval a)).length+1):=⟨_,rfl⟩
    refine tr 0 Z (y:=us0) (by rw [hus0]) ?_
    have hp1:=take_pad (L:=limbs (nval a*2^s)) (k:=(limbs (nval a)).length+1) hul0 (by omega)
    rw [←hus0] at hp1
    have lus:Lims us0:=by rw [hus0];exact Lims.take (fun x hx=>(List.mem_append.1 hx).elim (limbs_lims _ x) (fun h=>by simp at h;omega)) _
    refine ak<|Wm Z<|Ws (aJ Z U27)<|Wm Z<|Ws (aJ Z U27)<|Ws (bj Z Z (c:=(((limbs (nval a)).length:Int)-((limbs (nval b)).length:Int))) (aH (by omega)))<|Ws (aR Z Z (c:=((((limbs (nval a)).length:Int)-((limbs (nval b)).length:Int))+1)) (aH (by omega)))<|bH ((limbs (nval a)).length-(limbs (nval b)).length+1) .n Z Z (by omega) (by omega) U27 ce ef fun v5=>Wa Z<|Wn<|ab<|Cr<|Wm Z<|Ws (aJ Z U27)<|Wm Z<|Ws (aJ Z U27)<|Ws (bj Z Z (c:=(((limbs (nval a)).length:Int)-((limbs (nval b)).length:Int))) (aH (by omega)))<|Wa Z<|Wn<|aF<|CW.loop5 (fun (us:List Nat) (qs:List Nat) (k:Nat) (vq:Value) (vu:Value)=>DivR (nval a*2^s) (nval b*2^s) (limbs (nval a)).length (limbs (nval b)).length us qs k) (fun (us:List Nat) (qs:List Nat) (k:Nat) (vq:Value) (vu:Value)=>[(0,kN.is (limbs (nval a))),(1,kN.is (limbs (nval b))),(9,kN6.is (s:Int)),(10,kN.is (limbs (nval b*2^s))),(11,VP.ex vu),(12,VP.ex vq),(13,kN6.is ((k:Int)-1))]) (fun (us:List Nat) (qs:List Nat) (k:Nat) (vq:Value) (vu:Value)=>[OB.row vq 93 kLimb qs,OB.row vu 93 kLimb us]) (fun (us:List Nat) (qs:List Nat) (k:Nat) (vq:Value) (vu:Value)=>k) us0 (List.replicate ((limbs (nval a)).length-(limbs (nval b)).length+1) 0) ((limbs (nval a)).length-(limbs (nval b)).length+1) v5 v4 (divR_0 hb0 hab hp1.1 lus (by rw [hp1.2,nval_limbs])) (ao Z Z Z Z (ac Z (ac Z (az Z (ah (y:=((((limbs (nval a)).length-(limbs (nval b)).length+1):Nat):Int)-1) (by omega)) aq)))) (aG _) ?_
    intro us qs k vq vu hD
    have hul:=hD.1
    have hql:=hD.2.2.1
    have hk:=hD.2.2.2.2.1
    refine ab<|Cr<|Wm Z<|Ws (di Z Z)<|Wn ?_
    refine aM Z (fun h_t77=>?_)<|fun h_t77=>?_
    ·
     refine Ck<|ab<|aF<|ak<|Wm Z<|Wm Z<|Wm Z<|Wm Z<|Wm Z<|Wm Z<|Ws (aJ Z U27)<|Ws (aR Z Z (c:=(((k:Int)-1)+((limbs (nval b*2^s)).length:Int))) (aH (by omega)))<|Ws (aR Z Z (c:=((((k:Int)-1)+((limbs (nval b*2^s)).length:Int))+1)) (aH (by omega)))<|Ws (O.slW (k-1) (k-1+((limbs (nval b*2^s)).length+1)) Z Z Z (ag 1 Z) U27 a7 (by omega) (by omega) (by omega) (by omega))<|Wm Z<|bg (bm [1,0] (by decide) Z)<|cC (Li:=[OB.row vu 93 kLimb us]) (L:=[OB.row vq 93 kLimb qs]) .n fn274 (aj Z (win_le (by simp [kLimb]) (by omega)) (aS Z ar)) (c_nat_digit vu us (limbs (nval b*2^s)) (k-1) (by omega) (by omega) (limbs_top hV) (by rw [nval_limbs,hvl];exact (divR_win (lb:=(limbs (nval b)).length) hvl.symm (by omega) (by omega) hD).1)) fun p_ Lo_ hp_=>?_
     obtain ⟨w,rfl,rfl,hw⟩:=hp_
     have hqd:nval ((us.drop (k-1)).take ((limbs (nval b*2^s)).length+1))/nval (limbs (nval b*2^s))<4294967296:=by rw [nval_limbs,hvl];exact divR_q (lb:=(limbs (nval b)).length) hvl.symm (by omega) (by omega) hD
     refine Ws (bb (k:=kLimb) (xs:=qs) (n:=(k:Int)-1) (k-1) Z Z (ag 1 Z) U27 a7 (by omega) (by omega))<|aE .n (co 1 (k-1) Z Z Li Z (y0:=(qs.getD (k-1) 0)) (gd 0 (by omega)) a7 Z (bP (x:=(nval ((us.drop (k-1)).take ((limbs (nval b*2^s)).length+1))/nval (limbs (nval b*2^s)):Nat)) (by omega)))<|au<|Qb<|ak<|Wm Z<|Ws (bj Z Z (c:=(((k:Int)-1)-1)) (aH (by omega)))<|Wa Z<|au<|bg (bm [1,0] (by decide) Z) ?_
     exact QE.round5 (us.take (k-1)++w++us.drop (k-1+((limbs (nval b*2^s)).length+1))) (qs.set (k-1) (nval ((us.drop (k-1)).take ((limbs (nval b*2^s)).length+1))/nval (limbs (nval b*2^s)))) (k-1) vq vu (by omega) (by rw [hvl] at hw ⊢;rw [nval_limbs] at hw ⊢;exact divR_s (lb:=(limbs (nval b)).length) hvl.symm (by omega) (by omega) hD hw.1 hw.2.1 hw.2.2) (ao Z Z Z Z (ac Z (ac Z (az Z (ah (y:=(((k-1):Nat):Int)-1) (by omega)) aq))))<|a9<|OS.keepLe (bi (by rfl))<|OS.keepLe (bi (by rfl)) OS.nil
    ·
     refine Ex<|Cr<|Wm Z<|bL 0 Z (kp 0 Z (kp 1 Z (kp 9 Z (kp 10 Z (kp 11 Z (.hit (i:=12) Z (kp 13 Z (kp 76 Z (kp 77 Z (.hit (i:=93) Z .nil))))))))))<|Ws (f1 dq Z (dr qs))<|Wm Z<|bL 0 Z (kp 0 Z (kp 1 Z (kp 9 Z (kp 10 Z (.hit (i:=11) Z (kp 12 Z (kp 13 Z (kp 76 Z (kp 77 Z (kp 93 Z (kp 94 Z (.hit (i:=95) Z .nil))))))))))))<|Ws (f1 dq Z (dr us))<|Wm Z<|Ws (f2 fn275 Z Z (c_nat_shr (limbs (nval us)) s hs))<|Wa Z<|Wa Z<|Wa Z<|Wn<|aA ?_
     have hend:=divR_end (by omega) hD
     refine tl 4 Z (y:=(limbs (nval a/nval b))) (by rw [hend.1])<|tl 5 Z (y:=(if nval b=0 then [] else limbs (nval a%nval b))) (by rw [if_neg hb0,nval_limbs,hend.2])<|tl 6 Z (y:=(if nval b=0 then 11 else 0)) (by rw [if_neg hb0]) ?_
     exact Qd Z (aI Z (aI Z (aI Z ay))) ⟨Z,Z⟩
theorem c_nat_Gcd (a b:List Nat) (hA:a.length≤549755813000) (hB:b.length≤549755813000):Fn Tryz.prog 253 [kN.is a,kN.is b] (kN.is (limbs (Nat.gcd (nval a) (nval b)))):=by
 refine aN Tryz.func253 Z Z fun m w=>a8 (i:=0) Z cA fun la=>a8 (i:=1) Z cA fun lb=>?_
 have hla:=limbs_len_le la
 have hlb:=limbs_len_le lb
 refine Cr<|Wa Z<|Wr<|Wm Z<|Ws (f1 fn270 Z (c_nat_Norm a))<|Wm Z<|Ws (f1 fn270 Z (c_nat_Norm b))<|Wa Z<|Wa Z<|Wn<|ab<|aF<|bU (fun (x:Nat) (y:Nat)=>Nat.gcd x y=Nat.gcd (nval a) (nval b)∧(limbs x).length≤549755813000∧(limbs y).length≤549755813000) (fun (x:Nat) (y:Nat)=>[(5,kN.is (limbs x)),(6,kN.is (limbs y))]) (fun (x:Nat) (y:Nat)=>[]) (fun (x:Nat) (y:Nat)=>y) (nval a) (nval b) ⟨Z,by omega,by omega⟩ (ac Z (ac Z aq)) (aG _) ?_
 intro x y ⟨hg,hx,hy⟩
 refine ab<|Cr<|Wm Z<|Ws (aJ Z U27)<|Ws (cF Z Z)<|Wn ?_
 refine aM Z (fun h_t16=>?_)<|fun h_t16=>?_
 ·
  have hy0:y≠0:=fun h=>by rw [h,limbs_zero] at h_t16;simp at h_t16
  refine Ck<|aF<|Cr<|Wm Z<|Wm Z<|Ws (f2 fn257 Z Z (c_nat_Div (limbs x) (limbs y) (by omega) (by omega)))<|Wm Z<|Ws (aP Z Z)<|Ws (aP Z Z)<|Ws (aP Z Z)<|Wa Z<|Wa Z<|Wa Z<|Wn<|ak<|Wm Z<|Wm Z<|Wa Z<|Wa Z<|au<|d4 ?_
  refine tl 6 Z (y:=(limbs (x%y))) (by rw [nval_limbs,nval_limbs,if_neg hy0]) ?_
  exact bS y (x%y) (by exact Nat.mod_lt _ (Nat.pos_of_ne_zero hy0)) ⟨by rw [←hg,Nat.gcd_comm x y,Nat.gcd_rec y x,Nat.gcd_comm],hy,Nat.le_trans (limbs_mono (Nat.le_of_lt (Nat.mod_lt _ (Nat.pos_of_ne_zero hy0)))) hy⟩ (ac Z (ac Z aq))<|aG _
 ·
  refine Ex<|Cr<|Wm Z<|Wa Z<|Wn<|aA ?_
  have hy0:y=0:=limbs0 (by omega)
  refine tl 4 Z (y:=(limbs (Nat.gcd (nval a) (nval b)))) (by rw [←hg,hy0,Nat.gcd_zero_right]) ?_
  exact Qd Z (aI Z ay) ⟨Z,Z⟩
theorem c_zint_Of (n:Int):Fn Tryz.prog 71 [kI64.is n] (kC.is n):=by
 refine aN Tryz.func71 Z Z fun m w=>a8 (i:=0) Z int_rng fun hn=>dA (q:=kN6.is n) 0 Z (i64_le _)<|Cr<|aW .n bd fun b1=>Wr<|Wm Z<|Ws (bq Z U2 U178 Z)<|Wa Z<|Wn<|ab<|Cr<|Wm Z<|Ws (aX Z Z)<|Wn ?_
 refine aM Z (fun h_t7=>?_)<|fun h_t7=>?_
 ·
  refine ak<|Wm Z<|Ws (O.neg Z (c:=((n.natAbs:Nat):Int)) (of_neg h_t7 hn.1))<|Wa Z<|Wr<|Wm Z<|Ws (aX Z Z)<|Wm Z<|Ws (bq Z U178 U93 (c:=((n.natAbs%4294967296:Nat):Int)) (dF Z))<|Wm Z<|Ws (dl Z Z (by omega) (c:=((n.natAbs/2^32:Nat):Int)) (dm 32 Z Z (by decide)))<|Ws (bq Z U178 U93 (c:=((n.natAbs/2^32:Nat):Int)) (df (by omega)))<|Ws (bB U27 ce (cz Z (bP (x:=(n.natAbs%4294967296:Nat)) (by omega)) (cz Z (bP (x:=(n.natAbs/2^32:Nat)) (by omega)) bA)) Z (by decide))<|Ws (f2 eB Z Z (et (decide (n<0)) [(n.natAbs%4294967296:Nat),(n.natAbs/2^32:Nat)]))<|aE .n (aC (l:=kC) (u:=ival ((decide (n<0)),[(n.natAbs%4294967296:Nat),(n.natAbs/2^32:Nat)])) 0 Z Z Z af Z Lr)<|Wn<|aA<|tb 0 Z (y:=n) of_val ?_
  exact Qd Z (aY Z (ag 0 Z) af ay) ⟨Z,Z⟩
 ·
  refine tl 3 Z (y:=((n.natAbs:Nat):Int)) (of_pos h_t7 hn.2)<|Ck<|Cr<|Wm Z<|Ws (aX Z Z)<|Wm Z<|Ws (bq Z U178 U93 (c:=((n.natAbs%4294967296:Nat):Int)) (dF Z))<|Wm Z<|Ws (dl Z Z (by omega) (c:=((n.natAbs/2^32:Nat):Int)) (dm 32 Z Z (by decide)))<|Ws (bq Z U178 U93 (c:=((n.natAbs/2^32:Nat):Int)) (df (by omega)))<|Ws (bB U27 ce (cz Z (bP (x:=(n.natAbs%4294967296:Nat)) (by omega)) (cz Z (bP (x:=(n.natAbs/2^32:Nat)) (by omega)) bA)) Z (by decide))<|Ws (f2 eB Z Z (et (decide (n<0)) [(n.natAbs%4294967296:Nat),(n.natAbs/2^32:Nat)]))<|aE .n (aC (l:=kC) (u:=ival ((decide (n<0)),[(n.natAbs%4294967296:Nat),(n.natAbs/2^32:Nat)])) 0 Z Z Z af Z Lr)<|Wn<|aA<|tb 0 Z (y:=n) of_val ?_
  exact Qd Z (aY Z (ag 0 Z) af ay) ⟨Z,Z⟩
abbrev ew:=@c_zint_Of
theorem c_zint_Neg (z:Int):Fn Tryz.prog 145 [kZ.is z] (kC.is (-z)):=by
 refine aN Tryz.func145 Z Z fun m w=>c5 0 Z fun y y_v y_n y_l=>Cr<|aZ .n Z fun b1=>aW .n bd fun b2=>Wr<|Ws (aw Z cT Z)<|Ws (ae Z (ag 1 Z) (aD Li) cV Z)<|Ws (dh Z)<|Ws (aw Z bX Z)<|Ws (ae Z (ag 1 Z) (am Li) ca Z)<|Ws (f2 eB Z Z (et (!y.1) y.2))<|aE .n (aC (l:=kC) (u:=ival ((!y.1),y.2)) 0 Z Z Z af Z Lr)<|Wn<|aA<|tb 0 Z (y:=(-z)) (by rw [←y_v];exact ival_not) ?_
 exact Qd Z (aY Z (ag 0 Z) af ay) ⟨Z,Z⟩
abbrev ga:=@c_zint_Neg
theorem c_zint_Form (z:Int):Fn Tryz.prog 132 [kZ.is z] (kC.is z):=by
 refine aN Tryz.func132 Z Z fun m w=>c5 0 Z fun y y_v y_n y_l=>Cr<|aZ .n Z fun b1=>aW .n bd fun b2=>Wr<|Ws (aw Z cT Z)<|Ws (ae Z (ag 1 Z) (aD Li) cV Z)<|Ws (aw Z bX Z)<|Ws (ae Z (ag 1 Z) (am Li) ca Z)<|Ws (f2 eB Z Z (et y.1 y.2))<|aE .n (aC (l:=kC) (u:=ival (y.1,y.2)) 0 Z Z Z af Z Lr)<|Wn<|aA<|tb 0 Z (y:=z) y_v ?_
 exact Qd Z (aY Z (ag 0 Z) af ay) ⟨Z,Z⟩
theorem c_zint_Sub (x y:Int):Fn Tryz.prog 213 [kZ.is x,kZ.is y] (kC.is (x-y)):=by
 refine aN Tryz.func213 Z Z fun m w=>a8 (i:=1) Z ek fun hsy=>Cr<|aZ .n Z fun b1=>aZ .n Z fun b2=>aW .n bd fun b3=>Wn<|ab ?_
 refine a5 (Γ:=[.fr (kZ.is x),.fr (kZ.is y),.fr (kC.is (-y)),.fr (kC.is (x+(-y)))]) (aa Z (fun N=>ae Z (mN N 2 Z) Li af Z) (aa Z (fun N=>ae Z (mN N 1 Z) Li af Z) (aa Z (fun N=>f1 fn145 Z (ga y)) (aa Z (fun N=>aB el (aS Z (aj Z (aL (fl (by assumption))) ar)) (ed x (-y))) oz))))<|fun σ=>?_
 refine aE .n (aC (l:=kC) (u:=x+(-y)) 0 Z Z Z af Z Lr)<|Wn<|aA<|tb 0 Z (y:=(x-y)) (Int.sub_eq_add_neg).symm ?_
 exact Qd Z (aY Z (ag 0 Z) af ay) ⟨Z,Z⟩
abbrev f9:=@c_zint_Sub
theorem c_zint_Mul (x y:Int):Fn Tryz.prog 122 [kZ.is x,kZ.is y] (kC.is (x*y)):=by
 refine aN Tryz.func122 Z Z fun m w=>c5 0 Z fun p p_v p_n p_l=>c5 1 Z fun q q_v q_n q_l=>Cr<|aZ .n Z fun b1=>aZ .n Z fun b2=>aW .n bd fun b3=>Wn<|ab ?_
 refine a5 (Γ:=[.fr (VP.pt b1 0),.fr (kBool.is p.1),.fr (VP.pt b2 0),.fr (kBool.is q.1),.fr (kBool.is (decide (p.1≠q.1))),.fr (VP.pt b1 1),.fr (kN.is p.2),.fr (VP.pt b2 1),.fr (kN.is q.2),.fr (kN.is (limbs (nval p.2*nval q.2))),.fr (kC.is (ival ((decide (p.1≠q.1)),(limbs (nval p.2*nval q.2)))))]) (aa Z (fun N=>aw Z cT Z) (aa Z (fun N=>ae Z (mN N 2 Z) (aD Li) cV Z) (aa Z (fun N=>aw Z cT Z) (aa Z (fun N=>ae Z (mN N 1 Z) (aD Li) cV Z) (aa Z (fun N=>O.neB Z Z U4) (aa Z (fun N=>aw Z bX Z) (aa Z (fun N=>ae Z (mN N 2 Z) (am Li) ca Z) (aa Z (fun N=>aw Z bX Z) (aa Z (fun N=>ae Z (mN N 1 Z) (am Li) ca Z) (aa Z (fun N=>f2 fn193 Z Z (c_nat_Mul p.2 q.2 (by omega))) (aa Z (fun N=>f2 eB Z Z (et (decide (p.1≠q.1)) (limbs (nval p.2*nval q.2)))) oz)))))))))))<|fun σ=>?_
 refine aE .n (aC (l:=kC) (u:=ival ((decide (p.1≠q.1)),(limbs (nval p.2*nval q.2)))) 0 Z Z Z af Z Lr)<|Wn<|aA<|tb 0 Z (y:=(x*y)) (by rw [←p_v,←q_v];exact ival_mul) ?_
 exact Qd Z (aY Z (ag 0 Z) af ay) ⟨Z,Z⟩
abbrev cW:=@c_zint_Mul
theorem c_zint_Compare (x y:Int):Fn Tryz.prog 119 [kZ.is x,kZ.is y] (kN6.is ((x-y).sign)):=by
 refine aN Tryz.func119 Z Z fun m w=>c5 0 Z fun p p_v p_n p_l=>c5 1 Z fun q q_v q_n q_l=>Cr<|aZ .n Z fun b1=>aZ .n Z fun b2=>Wa Z<|Wn<|ab ?_
 refine a5 (Γ:=[.fr (kI.is (p.1,p.2)),.fr (kN6.is ((ival (p.1,p.2)).sign)),.fr (kI.is (q.1,q.2)),.fr (kN6.is ((ival (q.1,q.2)).sign))]) (aa Z (fun N=>ae Z (mN N 1 Z) Li af Z) (aa Z (fun N=>aB db (aj Z (kI_Z Z (by omega)) ar) (c9 (ival (p.1,p.2)))) (aa Z (fun N=>ae Z (mN N 0 Z) Li af Z) (aa Z (fun N=>aB db (aj Z (kI_Z Z (by omega)) ar) (c9 (ival (q.1,q.2)))) oz))))<|fun σ=>?_
 refine Wa Z<|Wa Z<|Wn<|ab<|aF<|Cr<|Wm Z<|Wm Z<|Ws (aX Z Z)<|Wa Z<|Wn ?_
 refine aM Z (fun h_t11=>?_)<|fun h_t11=>?_
 ·
  refine Cr<|Wa Z<|Wn<|aA<|bQ<|a6<|tl 4 Z (y:=(x-y).sign) (zcmp_lt p_v q_v h_t11) ?_
  exact Qd Z (aI Z ay) ⟨Z,Z⟩
 ·
  refine Cr<|Wm Z<|Wm Z<|Ws (cF Z Z)<|Wa Z<|Wn ?_
  refine aM Z (fun h_t15=>?_)<|fun h_t15=>?_
  ·
   refine Cr<|Wa Z<|Wn<|aA<|bQ<|a6<|tl 4 Z (y:=(x-y).sign) (zcmp_gt p_v q_v h_t15) ?_
   exact Qd Z (aI Z ay) ⟨Z,Z⟩
  ·
   refine cx<|Qb<|Cr<|Wm Z<|Ws (aw Z bX Z)<|Ws (ae Z (ag 1 Z) (am Li) ca Z)<|Ws (aw Z bX Z)<|Ws (ae Z (ag 0 Z) (am Li) ca Z)<|Ws (f2 fn190 Z Z (gF p.2 q.2))<|Ws (dX Z Z (c:=((x-y).sign)) (zcmp_same p_v q_v h_t11 h_t15))<|Wa Z<|Wn<|aA ?_
   exact Qd Z (aI Z ay) ⟨Z,Z⟩
theorem c_zint_Gcd (x y:Int):Fn Tryz.prog 207 [kZ.is x,kZ.is y] (kC.is (Int.gcd x y:Int)):=by
 refine aN Tryz.func207 Z Z fun m w=>c5 0 Z fun p p_v p_n p_l=>c5 1 Z fun q q_v q_n q_l=>Cr<|aZ .n Z fun b1=>aZ .n Z fun b2=>aW .n bd fun b3=>Wr<|Ws (aw Z bX Z)<|Ws (ae Z (ag 2 Z) (am Li) ca Z)<|Ws (aw Z bX Z)<|Ws (ae Z (ag 1 Z) (am Li) ca Z)<|Ws (f2 fn253 Z Z (c_nat_Gcd p.2 q.2 (by omega) (by omega)))<|Ws (f2 eB Z Z (et false (limbs (Nat.gcd (nval p.2) (nval q.2)))))<|aE .n (aC (l:=kC) (u:=ival (false,(limbs (Nat.gcd (nval p.2) (nval q.2))))) 0 Z Z Z af Z Lr)<|Wn<|aA<|tb 0 Z (y:=(Int.gcd x y:Int)) (by rw [←p_v,←q_v,Int.gcd,ival_abs,ival_abs,ival_pos rfl,nval_limbs]) ?_
 exact Qd Z (aY Z (ag 0 Z) af ay) ⟨Z,Z⟩
end Fw
namespace Fw
open Go (IntKind)
theorem shl1_32 {n:Nat} (h:n<32) {b:Int} (hb:b=n):IntKind.u32.wrap ((1:Int)*2^(min b.toNat IntKind.u32.bits))=((2^n:Nat):Int):=by
  subst hb
  show IntKind.u32.wrap (1*2^(min _ 32))=_
  rw [Int.toNat_natCast,Nat.min_eq_left (Nat.le_of_lt h),Int.one_mul,wrs32 (s:=2^n) ⟨by norm_cast,Nat.lt_of_le_of_lt (pow32 h).2.1 (by decide)⟩]
theorem rdiv_top {R V:Nat} {n:Nat} (hn:n=(limbs V).length) (hV:V≠0) (hR:R<V*4294967296):R/V≤((limbs R).getD n 0*4294967296+(limbs R).getD (n-1) 0)/(limbs V).getD (n-1) 0:=by
  have hp:1≤n:=by rw [hn];exact limbs_len_pos hV
  have ht:=limbs_top hV
  rw [←hn] at ht
  have h1:=two_limbs (limbs R) (limbs_lims R) (n-1)
  rw [nval_limbs,show n-1+1=n from by omega] at h1
  have h2:=lt_limbs V
  rw [←hn] at h2
  have hpos:0<4294967296^(n-1):=Nat.pow_pos (by decide)
  have h3:R/4294967296^(n-1)<18446744073709551616:=by
    rw [Nat.div_lt_iff_lt_mul hpos]
    have e:18446744073709551616*4294967296^(n-1)=4294967296^n*4294967296:=by
      have:4294967296^n=4294967296^(n-1)*4294967296:=by
        conv=>lhs;rw [show n=n-1+1 from by omega,Nat.pow_succ]
      rw [this]
      generalize 4294967296^(n-1)=P
      omega
    rw [e]
    exact Nat.lt_trans hR (Nat.mul_lt_mul_of_pos_right h2 (by decide))
  rw [Nat.mod_eq_of_lt h3] at h1
  rw [show (4294967296:Nat)=2^32 from rfl] at *
  rw [h1,Nat.div_div_eq_div_mul]
  have h4:=split_at (l:=limbs V) (i:=n) (Nat.le_of_eq hn) hp
  rw [hn,List.drop_length,←hn,nval,Nat.mul_zero,Nat.add_zero,nval_limbs] at h4
  refine Nat.div_le_div_left ?_ (Nat.mul_pos (Nat.pow_pos (by decide)) (Nat.pos_of_ne_zero ht))
  exact Nat.le_trans (Nat.le_add_left _ _) (Nat.le_of_eq h4.symm)
def RDiv (U:List Nat) (V:Nat) (qs:List Nat) (k rest:Nat):Prop:=qs.length=U.length∧Lims qs∧k≤U.length∧rest<V∧nval (U.drop k)=nval (qs.drop k)*V+rest∧∀p,p<k→qs.getD p 0=0
theorem rdiv_0 {U:List Nat} {V:Nat} (hV:V≠0):RDiv U V (List.replicate U.length 0) U.length 0:=by
  refine ⟨by simp,fun x hx=>?_,Nat.le_refl _,Nat.pos_of_ne_zero hV,?_,fun p _=>?_⟩
  · have:=(List.mem_replicate.1 hx).2;omega
  · rw [List.drop_length,List.drop_of_length_le (by simp)];simp [nval]
  · rw [List.getD_eq_getElem?_getD,List.getElem?_replicate];split <;> rfl
theorem rdiv_R {U qs:List Nat} {V k rest:Nat} (lU:Lims U) (hk:0<k) (h:RDiv U V qs k rest):U.getD (k-1) 0+4294967296*rest<V*4294967296:=by
  have:=getD_lt lU (k-1)
  have:=h.2.2.2.1
  omega
theorem rdiv_lt {U qs:List Nat} {V k rest:Nat} (hk:0<k) (h:RDiv U V qs k rest) (hR:U.getD (k-1) 0+4294967296*rest<V):RDiv U V qs (k-1) (U.getD (k-1) 0+4294967296*rest):=by
  obtain ⟨h1,h2,h3,h4,h5,h6⟩:=h
  refine ⟨h1,h2,by omega,hR,?_,fun p hp=>h6 p (by omega)⟩
  rw [nval_drop,nval_drop qs,show k-1+1=k from by omega,h5,h6 _ (by omega),Nat.zero_add,Nat.mul_assoc]
  omega
theorem rdiv_ge {U qs:List Nat} {V k rest g:Nat} (lU:Lims U) (hk:0<k) (h:RDiv U V qs k rest) (hg:g=(U.getD (k-1) 0+4294967296*rest)/V) (hgl:g<4294967296):RDiv U V (qs.set (k-1) g) (k-1) (U.getD (k-1) 0+4294967296*rest-V*g):=by
  obtain ⟨h1,h2,h3,h4,h5,h6⟩:=h
  have e1:=Nat.div_add_mod (U.getD (k-1) 0+4294967296*rest) V
  have e2:=Nat.mod_lt (U.getD (k-1) 0+4294967296*rest) (show V>0 by omega)
  rw [←hg] at e1
  refine ⟨by simpa using h1,h2.set hgl,by omega,by omega,?_,fun p hp=>?_⟩
  · rw [nval_drop,show k-1+1=k from by omega,h5,drop_set (by omega),nval,show k-1+1=k from by omega,Nat.add_mul,Nat.mul_assoc,Nat.mul_comm g V]
    omega
  · rw [getD_set_ne' (by omega)];exact h6 p (by omega)
theorem rdiv_end {a b s:Nat} {qs:List Nat} {k rest:Nat} (hk:k=0) (h:RDiv (limbs (a*2^s)) (b*2^s) qs k rest):nval qs=a/b∧rest/2^s=a%b:=by
  obtain ⟨h1,h2,h3,h4,h5,h6⟩:=h
  subst hk
  simp only [List.drop_zero,nval_limbs] at h5
  have hp:=Nat.two_pow_pos s
  have e1:nval qs=a*2^s/(b*2^s):=by
    rw [h5,Nat.mul_comm (nval qs),Nat.mul_add_div (by omega),Nat.div_eq_of_lt h4,Nat.add_zero]
  have e2:rest=a*2^s%(b*2^s):=by
    rw [h5,Nat.mul_comm (nval qs),Nat.mul_add_mod,Nat.mod_eq_of_lt h4]
  refine ⟨?_,?_⟩
  · rw [e1,Nat.mul_div_mul_right _ _ hp]
  · rw [e2,Nat.mul_mod_mul_right,Nat.mul_div_cancel _ hp]
theorem cmpI_gt {a b:Nat} (h:0<cmpI a b):b<a:=by
  unfold cmpI at h;split at h
  · omega
  · split at h
    · assumption
    · omega
theorem cmpI_ngt {a b:Nat} (h:¬0<cmpI a b):a≤b:=by
  unfold cmpI at h;split at h
  · omega
  · split at h <;> omega
end Fw
namespace Fw
open Go Go.Proofs
theorem c_ref01_small (l:List Nat) (d:Nat) (hd:d≠0) (hdl:d<4294967296):Fn Tryz.prog 254 [kN.is l,(kInt .u64).is (d:Int)] (VP.tup [kN.is (limbs (nval l/d)),(kInt .u64).is ((nval l%d:Nat):Int)]):=by
 refine aN Tryz.func254 Z Z fun m w=>a8 (i:=0) Z bF fun hB=>a8 (i:=0) Z cA fun hL=>Cr<|Wa Z<|Wa Z<|Wr<|Wm Z<|Ws (aJ Z U27)<|bH l.length .n Z Z Z (by omega) U27 ce ef fun v1=>Wa Z<|Wr<|Wa Z<|Wn<|ab<|ab ?_
 refine ak<|Wm Z<|Ws (aJ Z U27)<|Ws (bj Z Z (c:=((l.length:Int)-1)) (aH (by omega)))<|Wa Z<|Wn<|aF<|dz (fun (row:List Nat) (i:Nat) (r:Nat)=>i≤l.length∧ShortR l row d i r) (fun (row:List Nat) (i:Nat) (r:Nat)=>[(0,kN.is l),(1,(kInt .u64).is (d:Int)),(6,VP.ex v1),(7,(kInt .u64).is (r:Int)),(8,kN6.is ((i:Int)-1))]) (fun (row:List Nat) (i:Nat) (r:Nat)=>[OB.row v1 93 kLimb row]) (fun (row:List Nat) (i:Nat) (r:Nat)=>i) (List.replicate l.length 0) l.length 0 ⟨Nat.le_refl _,shortR_0 hd⟩ (ac Z (ac Z (ac Z (az Z (ah (y:=(0:Int)) (by omega)) (az Z (ah (y:=((l.length:Nat):Int)-1) (by omega)) aq))))) (aG _) ?_
 intro row i r ⟨hi,hS⟩
 have hrl:=hS.2.1
 have hr:=hS.2.2.1
 have hx:=getD_lt hL (i-1)
 have hq:=short_q hr hx
 refine ab<|Cr<|Wm Z<|Ws (di Z Z)<|Wn ?_
 refine aM Z (fun h_t16=>?_)<|fun h_t16=>?_
 ·
  refine Ck<|ab<|aF<|Cr<|Wm Z<|Ws (dX Z Z (c:=((r*2^32:Nat):Int)) (bM (by omega)))<|Wm Z<|Wm Z<|Ws (aU (i-1) Z Z U27 a7 (by omega) (v:=(l.getD (i-1) 0)) (gd 0 (by omega)))<|Ws (aV (aO Z a7) (cf _))<|Ws (bq Z U93 U178 (c:=((l.getD (i-1) 0):Int)) (bM (by omega)))<|Ws (aR Z Z (c:=((r*2^32+l.getD (i-1) 0:Nat):Int)) (bM (by omega)))<|Wa Z<|Wr<|Wm Z<|Wm Z<|Wm Z<|Wm Z<|Ws (eC Z Z (by omega) (c:=(((r*2^32+l.getD (i-1) 0)/d:Nat):Int)) (quoN d Z Z (by omega))) ?_
  refine Ws (bq Z U178 U93 (c:=(((r*2^32+l.getD (i-1) 0)/d:Nat):Int)) (df ⟨Z,hq⟩))<|Ws (bb (k:=kLimb) (xs:=row) (n:=(i:Int)-1) (i-1) Z Z (ag 0 Z) U27 a7 (by omega) (by omega))<|aE .n (co 0 (i-1) Z Z Li Z (y0:=(row.getD (i-1) 0)) (gd 0 (by omega)) a7 Z (bP (x:=((r*2^32+l.getD (i-1) 0)/d:Nat)) (by omega)))<|Wn<|ak<|Wm Z<|Wm Z<|Ws (e7 Z Z (by omega) (c:=(((r*2^32+l.getD (i-1) 0)%d:Nat):Int)) (tmodN d Z Z))<|Wa Z<|au<|Qb<|ak<|Wm Z<|Ws (bj Z Z (c:=(((i:Int)-1)-1)) (aH (by omega)))<|Wa Z<|au ?_
  exact dd (row.set (i-1) ((r*2^32+l.getD (i-1) 0)/d)) (i-1) ((r*2^32+l.getD (i-1) 0)%d) (by omega) ⟨by omega,shortR_s hL hdl (by omega) (by omega) hS⟩ (ac Z (ac Z (ac Z (az Z (ah (y:=((((r*2^32+l.getD (i-1) 0)%d):Nat):Int)) (by omega)) (az Z (ah (y:=(((i-1):Nat):Int)-1) (by omega)) aq)))))<|a9<|OS.keepLe (bi (by rfl)) OS.nil
 ·
  refine Ex<|Cr<|Wm Z<|bL 0 Z (kp 0 Z (kp 1 Z (.hit (i:=6) Z (kp 7 Z (kp 8 Z (kp 15 Z (kp 16 Z (.hit (i:=37) Z .nil))))))))<|Ws (f1 d5 Z (dY row))<|Wm Z<|Wa Z<|Wa Z<|Wn<|aA<|tl 4 Z (y:=(limbs (nval l/d))) (by rw [(shortR_end (by omega) hS).1])<|tl 5 Z (y:=((nval l%d:Nat):Int)) (by rw [(shortR_end (by omega) hS).2]) ?_
  exact Qd Z (aI Z (aI Z ay)) ⟨Z,Z⟩
theorem c_ref01_Two (n:Nat) (hn:n<32):Fn Tryz.prog 255 [kN6.is (n:Int)] (kN.is [2^n]):=by
 refine aN Tryz.func255 Z Z fun m w=>?_
 have hp:=(pow32 hn).2.1
 refine Cr<|Wa Z<|Wr<|Wa Z<|Wn<|ab<|Cr<|Wa Z<|Wn<|aF<|bT 93 kLimb<|bU (fun (i:Nat) (v:Value)=>i=0) (fun (i:Nat) (v:Value)=>[(0,kN6.is (n:Int)),(3,VP.ex v),(4,kN6.is (i:Int))]) (fun (i:Nat) (v:Value)=>[OB.row v 93 kLimb []]) (fun (i:Nat) (v:Value)=>i) 0 (.slice none 0 0) Z (ac Z (ac Z (az Z (ah (y:=(0:Int)) (by omega)) aq))) (aG _) ?_
 intro i v hi
 refine ab<|Cr<|Wm Z<|Wm Z<|Ws (eC Z Z (by omega) (c:=0) (quo32 hn))<|Ws (aX Z Z)<|Wn ?_
 refine CN Z (by omega) fun h_t8=>?_
 refine Ex<|Cr<|Wm Z<|Wm Z<|Ws (e7 Z Z (by omega) (c:=(n:Int)) (rem32 hn))<|Ws (bq Z U3 U180 (c:=(n:Int)) (bM (by omega)))<|Ws (O.shl Z Z (by omega) (c:=((2^n:Nat):Int)) (shl1_32 hn Z))<|Ws (bB U27 ce (cz Z (bP (x:=(2^n:Nat)) (by omega)) bA) Z (by decide))<|bI 0 .n Z Z Z Lr U27 ce (by simp) fun v1=>Wa Z<|Wn<|aA<|bL 0 Z (kp 0 Z (.hit (i:=2) Z (kp 3 Z (kp 4 Z (kp 5 Z (kp 6 Z (kp 7 Z (kp 8 Z (kp 14 Z (kp 15 Z (kp 16 Z (kp 17 Z (kp 18 Z (kp 19 Z (.hit (i:=20) Z .nil))))))))))))))) ?_
 exact Qd Z (du Z (ah (y:=[2^n]) (by rfl)) ay) ⟨Z,Z⟩
theorem c_ref01_Shr (l:List Nat) (n:Nat) (hn:n<32):Fn Tryz.prog 256 [kN.is l,kN6.is (n:Int)] (VP.tup [kN.is (limbs (nval l/2^n)),kN6.is 0]):=by
 refine aN Tryz.func256 Z Z fun m w=>a8 (i:=0) Z bF fun hB=>a8 (i:=0) Z cA fun hL=>Cr<|Wa Z<|Wa Z<|Wn<|ab<|Cr<|Wm Z<|Ws (aX Z Z)<|Wn ?_
 refine CN Z (by omega) fun h_t10=>?_
 refine Ck<|ab<|Cr<|Wm Z<|Wm Z<|Ws (f1 fn125 Z (fZ l))<|Ws (di Z Z)<|Wn ?_
 refine aM Z (fun h_t14=>?_)<|fun h_t14=>?_
 ·
  refine Cr<|Wa Z<|Wa Z<|Wn<|aA<|a6<|dA (q:=kN.is ([]:List Nat)) 4 Z (dU _)<|tl 4 Z (y:=(limbs (nval l/2^n))) (by rw [Nat.div_eq_of_lt (Nat.lt_of_lt_of_le (lt_bitlen _) (Nat.pow_le_pow_right (by decide) (by omega))),limbs_zero]) ?_
  exact Qd Z (aI Z (aI Z ay)) ⟨Z,Z⟩
 ·
  refine Ck<|Cr<|Wa Z<|Wn<|ab<|Cr<|Wm Z<|Ws (eC Z Z (by omega) (c:=0) (quo32 hn))<|Wa Z<|Wn<|aF<|bT 93 kLimb<|bU (fun (r:List Nat) (v:Value)=>ShrR l r n) (fun (r:List Nat) (v:Value)=>[(0,kN.is l),(1,kN6.is (n:Int)),(5,kN6.is 0),(6,VP.ex v),(7,kN6.is (r.length:Int))]) (fun (r:List Nat) (v:Value)=>[OB.row v 93 kLimb r]) (fun (r:List Nat) (v:Value)=>l.length-r.length) [] (.slice none 0 0) (shrR_0 _ _) (ao Z Z Z Z (az Z (ah (y:=([].length:Int)) (by rfl)) aq)) (aG _) ?_
  intro r v hS
  have hi:=hS.1
  have hx:=getD_lt hL r.length
  have hy:=getD_lt hL (r.length+1)
  refine ab<|Cr<|Wm Z<|Wm Z<|Ws (aJ Z U27)<|Ws (aX Z Z)<|Wn ?_
  refine aM Z (fun h_t20=>?_)<|fun h_t20=>?_
  ·
   refine Ck<|ab<|aF<|Cr<|Wm Z<|Wm Z<|Ws (aB eA (aS Z (aj Z (ah (y:=((r.length:Nat):Int)) (by omega)) ar)) (es l r.length))<|Wm Z<|Wm Z<|Ws (aR Z Z (c:=((r.length:Int)+1)) (aH (by omega)))<|Ws (aB eA (aS Z (aj Z (ah (y:=(((r.length+1):Nat):Int)) (by omega)) ar)) (es l (r.length+1)))<|Ws (dX Z Z (c:=((l.getD (r.length+1) 0:Int)*4294967296)) (bM (by omega)))<|Ws (aR Z Z (c:=((l.getD (r.length+1) 0*2^32+l.getD r.length 0:Nat):Int)) (bM (by omega)))<|Wa Z<|Wn<|ak<|Wm Z<|Wm Z<|Wm Z<|Ws (e7 Z Z (by omega) (c:=(n:Int)) (rem32 hn))<|Ws (bq Z U3 U180 (c:=(n:Int)) (bM (by omega))) ?_
   refine Ws (dl Z Z (by omega) (c:=(((l.getD (r.length+1) 0*2^32+l.getD r.length 0)/2^n:Nat):Int)) (dm n Z Z (show n≤64 by omega)))<|Ws (e7 Z Z (by omega) (c:=((((l.getD (r.length+1) 0*2^32+l.getD r.length 0)/2^n%4294967296):Nat):Int)) (tmodN 4294967296 Z Z))<|Ws (bq Z U178 U93 (c:=((((l.getD (r.length+1) 0*2^32+l.getD r.length 0)/2^n%4294967296):Nat):Int)) (df (by omega)))<|Ws (bB U27 ce (cz Z (bP (x:=(((l.getD (r.length+1) 0*2^32+l.getD r.length 0)/2^n%4294967296):Nat)) (by omega)) bA) Z (by decide))<|bI 0 .n Z Z Z Lr U27 ce (by simp;omega) fun v1=>Wa Z<|au<|Qb<|ak<|Wm Z<|Ws (aR Z Z (c:=((r.length:Int)+1)) (aH (by omega)))<|Wa Z<|au ?_
   exact bS (r++[((l.getD (r.length+1) 0*2^32+l.getD r.length 0)/2^n%4294967296)]) v1 (by simp;omega) (shrR_s hL hn (by omega) hS) (ao Z Z Z Z (az Z (ah (y:=((r++[((l.getD (r.length+1) 0*2^32+l.getD r.length 0)/2^n%4294967296)]).length:Int)) (by simp)) aq))<|a9<|OS.keepLe (bi (by rfl)) OS.nil
  ·
   refine Ex<|Cr<|Wm Z<|bL 0 Z (kp 0 Z (kp 1 Z (kp 5 Z (.hit (i:=6) Z (kp 7 Z (kp 17 Z (kp 18 Z (kp 19 Z (kp 20 Z (.hit (i:=42) Z .nil))))))))))<|Ws (f1 d5 Z (dY r))<|Wa Z<|Wa Z<|Wn<|aA<|tl 4 Z (y:=(limbs (nval l/2^n))) (by rw [shrR_end hL (by omega) hS]) ?_
   exact Qd Z (aI Z (aI Z ay)) ⟨Z,Z⟩
set_option maxHeartbeats 4000000 in
theorem c_ref01_Div (a b:List Nat) (hA:a.length≤549755813000) (hB:b.length≤549755813000):Fn Tryz.prog 211 [kN.is a,kN.is b] (VP.tup [kN.is (limbs (nval a/nval b)),kN.is (if nval b=0 then [] else limbs (nval a%nval b)),kN6.is (if nval b=0 then 11 else 0)]):=by
 refine aN Tryz.func211 Z Z fun m w=>a8 (i:=0) Z cA fun la=>a8 (i:=1) Z cA fun lb=>?_
 have hlb:=limbs_len_le lb
 have lB:=limbs_lims (nval b)
 refine Cr<|Wa Z<|Wa Z<|Wa Z<|Wr<|Wm Z<|Ws (f1 d5 Z (dY b))<|Wa Z<|Wn<|ab<|Cr<|Wm Z<|Ws (aJ Z U27)<|Ws (cq Z Z)<|Wn ?_
 refine aM Z (fun h_t24=>?_)<|fun h_t24=>?_
 ·
  have hb0:nval b=0:=limbs0 (by omega)
  refine Cr<|Wa Z<|Wa Z<|Wa Z<|Wn<|aA<|a6<|dA (q:=kN.is ([]:List Nat)) 4 Z (dU _)<|dA (q:=kN.is ([]:List Nat)) 5 Z (dU _)<|tl 4 Z (y:=(limbs (nval a/nval b))) (by rw [hb0,Nat.div_zero,limbs_zero])<|tl 5 Z (y:=(if nval b=0 then [] else limbs (nval a%nval b))) (by rw [if_pos hb0])<|tl 6 Z (y:=(if nval b=0 then 11 else 0)) (by rw [if_pos hb0]) ?_
  exact Qd Z (aI Z (aI Z (aI Z ay))) ⟨Z,Z⟩
 ·
  have hb0:nval b≠0:=fun h=>by rw [h,limbs_zero] at h_t24;exact h_t24 rfl
  have hlbp:=limbs_len_pos hb0
  refine Ck<|ab<|Cr<|Wm Z<|Ws (aJ Z U27)<|Ws (cq Z Z)<|Wn ?_
  refine aM Z (fun h_t27=>?_)<|fun h_t27=>?_
  ·
   refine ab ?_
   have hx0:=getD_lt lB 0
   refine ak<|Wm Z<|Wm Z<|Ws (aU 0 Z Z U27 a7 Z (v:=((limbs (nval b)).getD 0 0)) (gd 0 (by omega)))<|Ws (aV (aO Z a7) (cf _))<|Ws (bq Z U93 U178 (c:=(((limbs (nval b)).getD 0 0):Int)) (bM (by omega)))<|Ws (aB fn254 (aS Z (aj Z (ah (y:=((((limbs (nval b)).getD 0 0):Nat):Int)) (by omega)) ar)) (c_ref01_small a ((limbs (nval b)).getD 0 0) (by rw [one_limb (by omega)];exact hb0) hx0))<|Wm Z<|Ws (aP Z Z)<|Ws (aP Z Z)<|Wa Z<|Wa Z<|Wn<|ab ?_
   have hm:nval a%(limbs (nval b)).getD 0 0<4294967296:=Nat.lt_of_lt_of_le (Nat.mod_lt _ (by rw [one_limb (by omega)];omega)) (Nat.le_of_lt hx0)
   refine ak<|Wm Z<|Wm Z<|Ws (bq Z U178 U93 (c:=((nval a%(limbs (nval b)).getD 0 0:Nat):Int)) (df ⟨Z,hm⟩))<|Ws (bB U27 ce (cz Z (bP (x:=(nval a%(limbs (nval b)).getD 0 0:Nat)) (by omega)) bA) Z (by decide))<|Ws (f1 d5 Z (dY [(nval a%(limbs (nval b)).getD 0 0:Nat)]))<|Wa Z<|Wa Z<|Wa Z<|Wn<|aA<|a6<|tl 4 Z (y:=(limbs (nval a/nval b))) (by rw [one_limb (by omega)])<|tl 5 Z (y:=(if nval b=0 then [] else limbs (nval a%nval b))) (by rw [if_neg hb0,one_limb (by omega)];simp [nval])<|tl 6 Z (y:=(if nval b=0 then 11 else 0)) (by rw [if_neg hb0]) ?_
   exact Qd Z (aI Z (aI Z (aI Z ay))) ⟨Z,Z⟩
  ·
   refine Ck<|ab ?_
   obtain ⟨s,hsv,hs,hvl⟩:=div_sh hb0
   have hV0:(nval b*2^s)≠0:=Nat.mul_ne_zero hb0 (Nat.ne_of_gt (Nat.two_pow_pos s))
   have lU:=limbs_lims (nval a*2^s)
   have hbl:=bits_limbs hb0
   have hbl3:bitlen (nval (limbs (nval b)))=32*((limbs (nval b)).length-1)+bitlen ((limbs (nval b)).getD ((limbs (nval b)).length-1) 0):=by rw [nval_limbs];exact hbl
   have htop:=limbs_top hV0
   refine ak<|Wm Z<|Ws (aJ Z U27)<|Ws (dX Z Z (c:=(32*((limbs (nval b)).length:Int))) (aH (by omega)))<|Wm Z<|Ws (f1 fn125 Z (fZ (limbs (nval b))))<|Ws (bj Z Z (c:=((32*((limbs (nval b)).length:Int))-(bitlen (nval (limbs (nval b))):Int))) (aH (by omega)))<|tl 47 Z (y:=(s:Int)) (by rw [nval_limbs];omega)<|Ws (f1 fn255 Z (c_ref01_Two s hs))<|Wa Z<|Wr<|Wm Z<|Wm Z<|Ws (f2 fn199 Z Z (f5 a [2^s] (by simp;omega)))<|Wa Z<|Wn<|ab<|tl 11 Z (y:=limbs (nval a*2^s)) (by simp [nval])<|ak<|Wm Z ?_
   refine Wm Z<|Ws (f2 fn199 Z Z (f5 (limbs (nval b)) [2^s] (by simp;omega)))<|Wa Z<|Wn<|ab<|tl 12 Z (y:=(limbs (nval b*2^s))) (by rw [nval_limbs];simp [nval])<|a8 (i:=11) Z bF fun hUB=>ak<|Wm Z<|Ws (aJ Z U27)<|bH ((limbs (nval a*2^s)).length) .n Z Z Z (by omega) U27 ce ef fun v1=>Wa Z<|Wr<|Wa Z<|Wn<|ab<|Cr<|Wm Z ?_
   refine Ws (aJ Z U27)<|Ws (bj Z Z (c:=(((limbs (nval a*2^s)).length:Int)-1)) (aH (by omega)))<|Wa Z<|Wn<|aF<|dA (q:=kN.is ([]:List Nat)) 14 Z (dU _)<|tl 14 Z (y:=(limbs 0)) (by rw [limbs_zero])<|CW.loop4 (fun (qs:List Nat) (k:Nat) (rest:Nat) (vq:Value)=>RDiv (limbs (nval a*2^s)) (nval b*2^s) qs k rest) (fun (qs:List Nat) (k:Nat) (rest:Nat) (vq:Value)=>[(7,kN.is (limbs (nval b))),(11,kN.is (limbs (nval a*2^s))),(12,kN.is (limbs (nval b*2^s))),(13,VP.ex vq),(14,kN.is (limbs rest)),(15,kN6.is ((k:Int)-1))]) (fun (qs:List Nat) (k:Nat) (rest:Nat) (vq:Value)=>[OB.row vq 93 kLimb qs]) (fun (qs:List Nat) (k:Nat) (rest:Nat) (vq:Value)=>k) (List.replicate (limbs (nval a*2^s)).length 0) ((limbs (nval a*2^s)).length) 0 v1 (rdiv_0 hV0) (ao Z Z Z Z (ac Z (az Z (ah (y:=((((limbs (nval a*2^s)).length):Nat):Int)-1) (by omega)) aq))) (a9 (OS.keepLe (bi (by rfl)) OS.nil)) ?_
   intro qs k rest vq hD
   have hrl:=limbs_mono (Nat.le_of_lt hD.2.2.2.1)
   have hql:=hD.1
   have hk:=hD.2.2.1
   have hx:=getD_lt lU (k-1)
   refine ab<|Cr<|Wm Z<|Ws (di Z Z)<|Wn ?_
   refine aM Z (fun h_t62=>?_)<|fun h_t62=>?_
   ·
    refine Ck<|ab<|aF<|Cr<|Wm Z<|Wm Z<|Ws (aU (k-1) Z Z U27 a7 (by omega) (v:=((limbs (nval a*2^s)).getD (k-1) 0)) (gd 0 (by omega)))<|Ws (aV (aO Z a7) (cf _))<|WP.bso .n U27 ce (cz Z (bP (x:=((limbs (nval a*2^s)).getD (k-1) 0)) (by omega)) bA) Z (by decide) fun v2=>Wm Z<|bI 0 .n Z Z Z Lr U27 ce (by simp;omega) fun v3=>bL 0 Z (kp 7 Z (kp 11 Z (kp 12 Z (kp 13 Z (kp 14 Z (kp 15 Z (kp 61 Z (kp 62 Z (kp 65 Z (kp 66 Z (kp 67 Z (kp 68 Z (kp 69 Z (kp 70 Z (.hit (i:=71) Z .nil)))))))))))))))<|Ws (f1 d5 Z (dY ([((limbs (nval a*2^s)).getD (k-1) 0)]++limbs rest)))<|Wa Z<|Wn<|ab<|ab ?_
    obtain ⟨R,hR⟩:∃R,R=(limbs (nval a*2^s)).getD (k-1) 0+4294967296*rest:=⟨_,rfl⟩
    refine tl 14 Z (y:=(limbs R)) (by rw [hR];simp [nval,nval_limbs]) ?_
    have hRV:R<(nval b*2^s)*4294967296:=by rw [hR];exact rdiv_R lU (by omega) hD
    refine ak<|Wm Z<|Wm Z<|Ws (f2 fn197 Z Z (f7 (limbs R) (limbs (nval b*2^s))))<|Ws (aX Z Z)<|Wn ?_
    refine aM Z (fun h_t76=>?_)<|fun h_t76=>?_
    ·
     refine dS<|da<|dR<|cw<|ak<|Wm Z<|Ws (bj Z Z (c:=(((k:Int)-1)-1)) (aH (by omega)))<|Wa Z<|au ?_
     exact eT qs (k-1) R vq (by omega) (by rw [hR];exact rdiv_lt (by omega) hD (by rw [←hR];have:=cmpI_lt h_t76;rwa [nval_limbs,nval_limbs] at this)) (ao Z Z Z Z (ac Z (az Z (ah (y:=(((k-1):Nat):Int)-1) (by omega)) aq)))<|aG _
    ·
     refine Ck<|ab ?_
     have hr1:=getD_lt (limbs_lims R) (limbs (nval b*2^s)).length
     have hr2:=getD_lt (limbs_lims R) ((limbs (nval b*2^s)).length-1)
     have hr3:=getD_lt (limbs_lims (nval b*2^s)) ((limbs (nval b*2^s)).length-1)
     refine ak<|Wm Z<|Wm Z<|Ws (aJ Z U27)<|Ws (aB eA (aS Z (aj Z (ah (y:=((((limbs (nval b*2^s)).length):Nat):Int)) (by omega)) ar)) (es (limbs R) ((limbs (nval b*2^s)).length)))<|Ws (dX Z Z (c:=(((limbs R).getD ((limbs (nval b*2^s)).length) 0:Int)*4294967296)) (bM (by omega)))<|Wm Z<|Wm Z<|Ws (aJ Z U27)<|Ws (bj Z Z (c:=(((limbs (nval b*2^s)).length:Int)-1)) (aH (by omega)))<|Ws (aB eA (aS Z (aj Z (ah (y:=((((limbs (nval b*2^s)).length-1):Nat):Int)) (by omega)) ar)) (es (limbs R) ((limbs (nval b*2^s)).length-1)))<|Ws (aR Z Z (c:=((((limbs R).getD ((limbs (nval b*2^s)).length) 0:Int)*4294967296)+((limbs R).getD ((limbs (nval b*2^s)).length-1) 0:Int))) (bM (by omega)))<|Wm Z<|Wm Z<|Ws (aJ Z U27)<|Ws (bj Z Z (c:=(((limbs (nval b*2^s)).length:Int)-1)) (aH (by omega)))<|Ws (aB eA (aS Z (aj Z (ah (y:=((((limbs (nval b*2^s)).length-1):Nat):Int)) (by omega)) ar)) (es (limbs (nval b*2^s)) ((limbs (nval b*2^s)).length-1)))<|Ws (eC Z Z (by omega) (c:=((((limbs R).getD (limbs (nval b*2^s)).length 0*4294967296+(limbs R).getD ((limbs (nval b*2^s)).length-1) 0)/(limbs (nval b*2^s)).getD ((limbs (nval b*2^s)).length-1) 0:Nat):Int)) (quoN ((limbs (nval b*2^s)).getD ((limbs (nval b*2^s)).length-1) 0) (by omega) Z (by omega)))<|Wa Z<|Wn<|ab<|ab ?_
     obtain ⟨G,hG⟩:∃G,G=((limbs R).getD (limbs (nval b*2^s)).length 0*4294967296+(limbs R).getD ((limbs (nval b*2^s)).length-1) 0)/(limbs (nval b*2^s)).getD ((limbs (nval b*2^s)).length-1) 0:=⟨_,rfl⟩
     refine tl 16 Z (y:=(G:Int)) (by rw [hG]) ?_
     have hGq:R/(nval b*2^s)≤G:=by rw [hG];exact rdiv_top rfl hV0 hRV
     have hQ:R/(nval b*2^s)<4294967296:=(Nat.div_lt_iff_lt_mul (Nat.pos_of_ne_zero hV0)).2 (by rw [Nat.mul_comm];exact hRV)
     refine ak<|Wm Z<|Ws (di Z Z)<|Wn ?_
     refine aM Z (fun h_t95=>?_)<|fun h_t95=>?_
     ·
      refine ak<|Wa Z<|Wn<|ab ?_
      obtain ⟨g,hgd⟩:∃g,g=4294967295:=⟨_,rfl⟩
      refine tl 16 Z (y:=(g:Int)) (by rw [hgd];rfl) ?_
      have hgl:g<4294967296:=by omega
      have hgq:R/(nval b*2^s)≤g:=by omega
      refine ak<|Wm Z<|Wm Z<|Ws (bq Z U178 U93 (c:=(g:Int)) (df (by omega)))<|Ws (bB U27 ce (cz Z (bP (x:=g) (by omega)) bA) Z (by decide))<|Ws (f2 fn199 Z Z (f5 (limbs (nval b*2^s)) [g] (by simp;omega)))<|Wa Z<|Wn<|ab<|aF<|tl 17 Z (y:=(limbs ((nval b*2^s)*g))) (by rw [nval_limbs];simp [nval])<|bJ (fun (g:Nat)=>R/(nval b*2^s)≤g∧g<4294967296) (fun (g:Nat)=>[(7,kN.is (limbs (nval b))),(11,kN.is (limbs (nval a*2^s))),(12,kN.is (limbs (nval b*2^s))),(13,VP.ex vq),(14,kN.is (limbs R)),(15,kN6.is ((k:Int)-1)),(16,(kInt .u64).is (g:Int)),(17,kN.is (limbs ((nval b*2^s)*g)))]) (fun (g:Nat)=>[OB.row vq 93 kLimb qs]) (fun (g:Nat)=>g) g ⟨hgq,hgl⟩ (ao Z Z Z Z (ac Z (ac Z (ac Z (ac Z aq))))) (aG _) ?_
      intro g hg
      have hg2:=hg.2
      refine ab<|Cr<|Wm Z<|Wm Z<|Ws (f2 fn197 Z Z (f7 (limbs ((nval b*2^s)*g)) (limbs R)))<|Ws (cF Z Z)<|Wn ?_
      refine aM Z (fun h_t104=>?_)<|fun h_t104=>?_
      ·
       refine Ck<|aF<|ab ?_
       have hgt:R<(nval b*2^s)*g:=by have:=cmpI_gt h_t104;rwa [nval_limbs,nval_limbs] at this
       have hg0:R/(nval b*2^s)<g:=(Nat.div_lt_iff_lt_mul (Nat.pos_of_ne_zero hV0)).2 (by rw [Nat.mul_comm];exact hgt)
       have hg1:1≤g:=Nat.lt_of_le_of_lt (Nat.zero_le _) hg0
       refine ak<|Wm Z<|Ws (bj Z Z (c:=((g-1:Nat):Int)) (bM (by omega)))<|Wa Z<|Wn<|ak<|Wm Z<|Wm Z<|Ws (f2 fn247 Z Z (fY (limbs ((nval b*2^s)*g)) (limbs (nval b*2^s)) (by rw [nval_limbs,nval_limbs];exact Nat.le_mul_of_pos_right _ (by omega))))<|Wa Z<|au<|d4<|tl 17 Z (y:=(limbs ((nval b*2^s)*(g-1)))) (by rw [nval_limbs,nval_limbs,Nat.mul_sub,Nat.mul_one]) ?_
       exact bE (g-1) (by omega) ⟨by omega,by omega⟩ (ao Z Z Z Z (ac Z (ac Z (az Z (ah (y:=(((g-1):Nat):Int)) (by omega)) (ac Z aq)))))<|aG _
      ·
       refine Ex<|ab ?_
       have hle:(nval b*2^s)*g≤R:=by have:=cmpI_ngt h_t104;rwa [nval_limbs,nval_limbs] at this
       have hgR:g=R/(nval b*2^s):=Nat.le_antisymm ((Nat.le_div_iff_mul_le (Nat.pos_of_ne_zero hV0)).2 (by rw [Nat.mul_comm];exact hle)) hg.1
       refine ak<|Wm Z<|Wm Z<|Wm Z<|Ws (bq Z U178 U93 (c:=(g:Int)) (df (by omega)))<|Ws (bb (k:=kLimb) (xs:=qs) (n:=(k:Int)-1) (k-1) Z Z (ag 0 Z) U27 a7 (by omega) (by omega))<|aE .n (co 0 (k-1) Z Z Li Z (y0:=(qs.getD (k-1) 0)) (gd 0 (by omega)) a7 Z (bP (x:=g) (by omega)))<|Wn<|ak<|Wm Z<|Wm Z<|Ws (f2 fn247 Z Z (fY (limbs R) (limbs ((nval b*2^s)*g)) (by rw [nval_limbs,nval_limbs];exact hle)))<|Wa Z<|au<|Qb<|ak<|Wm Z<|Ws (bj Z Z (c:=(((k:Int)-1)-1)) (aH (by omega)))<|Wa Z<|au<|tl 14 Z (y:=(limbs (R-(nval b*2^s)*g))) (by rw [nval_limbs,nval_limbs]) ?_
       exact eT (qs.set (k-1) g) (k-1) (R-(nval b*2^s)*g) vq (by omega) (by rw [hR];exact rdiv_ge lU (by omega) hD (by rw [←hR];exact hgR) hg.2) (ao Z Z Z Z (ac Z (az Z (ah (y:=(((k-1):Nat):Int)-1) (by omega)) aq)))<|aG _
     ·
      refine Ck<|ab ?_
      obtain ⟨g,hgd⟩:∃g,g=G:=⟨_,rfl⟩
      refine tl 16 Z (y:=(g:Int)) (by rw [hgd]) ?_
      have hgl:g<4294967296:=by omega
      have hgq:R/(nval b*2^s)≤g:=by omega
      refine ak<|Wm Z<|Wm Z<|Ws (bq Z U178 U93 (c:=(g:Int)) (df (by omega)))<|Ws (bB U27 ce (cz Z (bP (x:=g) (by omega)) bA) Z (by decide))<|Ws (f2 fn199 Z Z (f5 (limbs (nval b*2^s)) [g] (by simp;omega)))<|Wa Z<|Wn<|ab<|aF<|tl 17 Z (y:=(limbs ((nval b*2^s)*g))) (by rw [nval_limbs];simp [nval])<|bJ (fun (g:Nat)=>R/(nval b*2^s)≤g∧g<4294967296) (fun (g:Nat)=>[(7,kN.is (limbs (nval b))),(11,kN.is (limbs (nval a*2^s))),(12,kN.is (limbs (nval b*2^s))),(13,VP.ex vq),(14,kN.is (limbs R)),(15,kN6.is ((k:Int)-1)),(16,(kInt .u64).is (g:Int)),(17,kN.is (limbs ((nval b*2^s)*g)))]) (fun (g:Nat)=>[OB.row vq 93 kLimb qs]) (fun (g:Nat)=>g) g ⟨hgq,hgl⟩ (ao Z Z Z Z (ac Z (ac Z (ac Z (ac Z aq))))) (aG _) ?_
      intro g hg
      have hg2:=hg.2
      refine ab<|Cr<|Wm Z<|Wm Z<|Ws (f2 fn197 Z Z (f7 (limbs ((nval b*2^s)*g)) (limbs R)))<|Ws (cF Z Z)<|Wn ?_
      refine aM Z (fun h_t104=>?_)<|fun h_t104=>?_
      ·
       refine Ck<|aF<|ab ?_
       have hgt:R<(nval b*2^s)*g:=by have:=cmpI_gt h_t104;rwa [nval_limbs,nval_limbs] at this
       have hg0:R/(nval b*2^s)<g:=(Nat.div_lt_iff_lt_mul (Nat.pos_of_ne_zero hV0)).2 (by rw [Nat.mul_comm];exact hgt)
       have hg1:1≤g:=Nat.lt_of_le_of_lt (Nat.zero_le _) hg0
       refine ak<|Wm Z<|Ws (bj Z Z (c:=((g-1:Nat):Int)) (bM (by omega)))<|Wa Z<|Wn<|ak<|Wm Z<|Wm Z<|Ws (f2 fn247 Z Z (fY (limbs ((nval b*2^s)*g)) (limbs (nval b*2^s)) (by rw [nval_limbs,nval_limbs];exact Nat.le_mul_of_pos_right _ (by omega))))<|Wa Z<|au<|d4<|tl 17 Z (y:=(limbs ((nval b*2^s)*(g-1)))) (by rw [nval_limbs,nval_limbs,Nat.mul_sub,Nat.mul_one]) ?_
       exact bE (g-1) (by omega) ⟨by omega,by omega⟩ (ao Z Z Z Z (ac Z (ac Z (az Z (ah (y:=(((g-1):Nat):Int)) (by omega)) (ac Z aq)))))<|aG _
      ·
       refine Ex<|ab ?_
       have hle:(nval b*2^s)*g≤R:=by have:=cmpI_ngt h_t104;rwa [nval_limbs,nval_limbs] at this
       have hgR:g=R/(nval b*2^s):=Nat.le_antisymm ((Nat.le_div_iff_mul_le (Nat.pos_of_ne_zero hV0)).2 (by rw [Nat.mul_comm];exact hle)) hg.1
       refine ak<|Wm Z<|Wm Z<|Wm Z<|Ws (bq Z U178 U93 (c:=(g:Int)) (df (by omega)))<|Ws (bb (k:=kLimb) (xs:=qs) (n:=(k:Int)-1) (k-1) Z Z (ag 0 Z) U27 a7 (by omega) (by omega))<|aE .n (co 0 (k-1) Z Z Li Z (y0:=(qs.getD (k-1) 0)) (gd 0 (by omega)) a7 Z (bP (x:=g) (by omega)))<|Wn<|ak<|Wm Z<|Wm Z<|Ws (f2 fn247 Z Z (fY (limbs R) (limbs ((nval b*2^s)*g)) (by rw [nval_limbs,nval_limbs];exact hle)))<|Wa Z<|au<|Qb<|ak<|Wm Z<|Ws (bj Z Z (c:=(((k:Int)-1)-1)) (aH (by omega)))<|Wa Z<|au<|tl 14 Z (y:=(limbs (R-(nval b*2^s)*g))) (by rw [nval_limbs,nval_limbs]) ?_
       exact eT (qs.set (k-1) g) (k-1) (R-(nval b*2^s)*g) vq (by omega) (by rw [hR];exact rdiv_ge lU (by omega) hD (by rw [←hR];exact hgR) hg.2) (ao Z Z Z Z (ac Z (az Z (ah (y:=(((k-1):Nat):Int)-1) (by omega)) aq)))<|aG _
   ·
    refine Ex<|Cr<|Wm Z<|Wm Z<|Ws (aJ Z U27)<|Ws (dX Z Z (c:=(32*((limbs (nval b)).length:Int))) (aH (by omega)))<|Wm Z<|Ws (f1 fn125 Z (fZ (limbs (nval b))))<|Ws (bj Z Z (c:=((32*((limbs (nval b)).length:Int))-(bitlen (nval (limbs (nval b))):Int))) (aH (by omega)))<|tl 125 Z (y:=(s:Int)) (by rw [nval_limbs];omega)<|Ws (f2 fn256 Z Z (c_ref01_Shr (limbs rest) s hs))<|Wm Z<|Ws (aP Z Z)<|Ws (aP Z Z)<|Wa Z<|Wa Z<|Wn<|ab ?_
    refine ak<|Wm Z<|bL 0 Z (kp 7 Z (kp 11 Z (kp 12 Z (.hit (i:=13) Z (kp 14 Z (kp 15 Z (kp 18 Z (kp 19 Z (kp 61 Z (kp 62 Z (kp 118 Z (kp 119 Z (kp 120 Z (kp 121 Z (kp 122 Z (kp 123 Z (kp 124 Z (kp 125 Z (kp 126 Z (kp 127 Z (kp 128 Z (.hit (i:=129) Z .nil))))))))))))))))))))))<|Ws (f1 d5 Z (dY qs))<|Wm Z<|Wa Z<|Wa Z<|Wa Z<|Wn<|aA ?_
    have hend:=rdiv_end (by omega) hD
    refine tl 4 Z (y:=(limbs (nval a/nval b))) (by rw [hend.1])<|tl 5 Z (y:=(if nval b=0 then [] else limbs (nval a%nval b))) (by rw [if_neg hb0,nval_limbs,hend.2])<|tl 6 Z (y:=(if nval b=0 then 11 else 0)) (by rw [if_neg hb0]) ?_
    exact Qd Z (aI Z (aI Z (aI Z ay))) ⟨Z,Z⟩
abbrev gq:=@c_ref01_Div
theorem c_ref01_Gcd (a b:List Nat) (hA:a.length≤549755813000) (hB:b.length≤549755813000):Fn Tryz.prog 210 [kN.is a,kN.is b] (kN.is (limbs (Nat.gcd (nval a) (nval b)))):=by
 refine aN Tryz.func210 Z Z fun m w=>a8 (i:=0) Z cA fun la=>a8 (i:=1) Z cA fun lb=>?_
 have hla:=limbs_len_le la
 have hlb:=limbs_len_le lb
 refine Cr<|Wa Z<|Wr<|Wm Z<|Ws (f1 d5 Z (dY a))<|Wa Z<|Wr<|Wm Z<|Ws (f1 d5 Z (dY b))<|Wa Z<|Wn<|ab<|aF<|bU (fun (x:Nat) (y:Nat)=>Nat.gcd x y=Nat.gcd (nval a) (nval b)∧(limbs x).length≤549755813000∧(limbs y).length≤549755813000) (fun (x:Nat) (y:Nat)=>[(5,kN.is (limbs x)),(6,kN.is (limbs y))]) (fun (x:Nat) (y:Nat)=>[]) (fun (x:Nat) (y:Nat)=>y) (nval a) (nval b) ⟨Z,by omega,by omega⟩ (ac Z (ac Z aq)) (aG _) ?_
 intro x y ⟨hg,hx,hy⟩
 refine ab<|Cr<|Wm Z<|Ws (aJ Z U27)<|Ws (cF Z Z)<|Wn ?_
 refine aM Z (fun h_t16=>?_)<|fun h_t16=>?_
 ·
  have hy0:y≠0:=fun h=>by rw [h,limbs_zero] at h_t16;simp at h_t16
  refine Ck<|aF<|Cr<|Wm Z<|Wm Z<|Ws (f2 fn211 Z Z (gq (limbs x) (limbs y) (by omega) (by omega)))<|Wm Z<|Ws (aP Z Z)<|Ws (aP Z Z)<|Ws (aP Z Z)<|Wa Z<|Wa Z<|Wa Z<|Wr<|Wm Z<|Wa Z<|Wn<|ak ?_
  refine Wm Z<|Wa Z<|au<|d4<|tl 6 Z (y:=(limbs (x%y))) (by rw [nval_limbs,nval_limbs,if_neg hy0]) ?_
  exact bS y (x%y) (by exact Nat.mod_lt _ (Nat.pos_of_ne_zero hy0)) ⟨by rw [←hg,Nat.gcd_comm x y,Nat.gcd_rec y x,Nat.gcd_comm],hy,Nat.le_trans (limbs_mono (Nat.le_of_lt (Nat.mod_lt _ (Nat.pos_of_ne_zero hy0)))) hy⟩ (ac Z (ac Z aq))<|aG _
 ·
  refine Ex<|Cr<|Wm Z<|Wa Z<|Wn<|aA ?_
  have hy0:y=0:=limbs0 (by omega)
  refine tl 4 Z (y:=(limbs (Nat.gcd (nval a) (nval b)))) (by rw [←hg,hy0,Nat.gcd_zero_right]) ?_
  exact Qd Z (aI Z ay) ⟨Z,Z⟩
set_option maxHeartbeats 8000000 in
theorem c_zint_Floor (x y:Int):Fn Tryz.prog 214 [kZ.is x,kZ.is y] (VP.tup [kC.is (x.fdiv y),kC.is (if y=0 then 0 else x.fmod y),kN6.is (if y=0 then 11 else 0)]):=by
 refine aN Tryz.func214 Z Z fun m w=>a8 (i:=0) Z ek fun hsx=>c5 0 Z fun p p_v p_n p_l=>c5 1 Z fun q q_v q_n q_l=>Cr<|aZ .n Z fun b1=>aZ .n Z fun b2=>aW .n bd fun b3=>aW .n bd fun b4=>Wa Z<|Wr<|Ws (aw Z bX Z)<|Ws (ae Z (ag 3 Z) (am Li) ca Z)<|Ws (aw Z bX Z)<|Ws (ae Z (ag 2 Z) (am Li) ca Z)<|Ws (f2 fn257 Z Z (c_nat_Div p.2 q.2 (by omega) (by omega)))<|Wm Z<|Ws (aP Z Z)<|Ws (aP Z Z)<|Ws (aP Z Z) ?_
 refine Wa Z<|Wa Z<|Wa Z<|Wn<|ab<|Cr<|Wm Z<|Ws (bG Z Z)<|Wn ?_
 refine aM Z (fun h_t22=>?_)<|fun h_t22=>?_
 ·
  have hq0:nval q.2=0:=by by_cases h:nval q.2=0;exact h;simp [h] at h_t22
  have hy:y=0:=by rw [←q_v,ival0 hq0]
  refine Cr<|Ws (bY dQ Z br (.nil _))<|Ws (bY dQ Z br (.nil _))<|aE .n (aC (l:=kC) (u:=0) 1 Z Z Z af Z Lr)<|aE .n (aC (l:=kC) (u:=0) 0 Z Z Z af Z Lr)<|Wa Z<|Wn<|aA<|a6<|tb 1 Z (y:=(x.fdiv y)) (by rw [hy,Int.fdiv_zero])<|tb 0 Z (y:=(if y=0 then 0 else x.fmod y)) (by rw [if_pos hy])<|tl 6 Z (y:=(if y=0 then 11 else 0)) (by rw [if_pos hy]) ?_
  exact Qd Z (aY Z (ag 1 Z) af (aY Z (ag 0 Z) af (aI Z ay))) ⟨Z,Z⟩
 ·
  have hq0:nval q.2≠0:=fun h=>by simp [h] at h_t22
  have hy:y≠0:=fun h=>by rw [←q_v] at h;have:=ival_abs q;rw [h] at this;exact hq0 this.symm
  refine Ck<|ab ?_
  refine a5 (Γ:=[.fr (VP.pt b1 0),.fr (kBool.is p.1),.fr (VP.pt b2 0),.fr (kBool.is q.1),.fr (kBool.is (decide (p.1≠q.1))),.fr (kN.is (limbs (nval p.2/nval q.2))),.fr (kC.is (ival ((decide (p.1≠q.1)),(limbs (nval p.2/nval q.2))))),.fr (VP.pt b1 0),.fr (kBool.is p.1),.fr (kN.is (if nval q.2=0 then [] else limbs (nval p.2%nval q.2))),.fr (kC.is (ival (p.1,(if nval q.2=0 then [] else limbs (nval p.2%nval q.2))))),.al (fun b=>OB.box b 29 kC 0),.al (fun b=>OB.box b 29 kC 0)]) (aa Z (fun N=>aw Z cT Z) (aa Z (fun N=>ae Z (mN N 3 Z) (aD Li) cV Z) (aa Z (fun N=>aw Z cT Z) (aa Z (fun N=>ae Z (mN N 2 Z) (aD Li) cV Z) (aa Z (fun N=>O.neB Z Z U4) (om Z Z (aa Z (fun N=>f2 eB Z Z (et (decide (p.1≠q.1)) (limbs (nval p.2/nval q.2)))) (aa Z (fun N=>aw Z cT Z) (aa Z (fun N=>ae Z (mN N 3 Z) (aD Li) cV Z) (om Z Z (aa Z (fun N=>f2 eB Z Z (et p.1 (if nval q.2=0 then [] else limbs (nval p.2%nval q.2)))) (oc (cR Z bd) (oc (cR Z bd) oz)))))))))))))<|fun σ=>?_
  refine aE .n (aC (l:=kC) (u:=ival ((decide (p.1≠q.1)),(limbs (nval p.2/nval q.2)))) 0 Z Z Z af Z Lr)<|aE .n (aC (l:=kC) (u:=ival (p.1,(if nval q.2=0 then [] else limbs (nval p.2%nval q.2)))) 1 Z Z Z af Z Lr)<|Wn<|ab<|ab ?_
  obtain ⟨M,hM⟩:∃M,M=ival (decide (p.1≠q.1),limbs (nval p.2/nval q.2)):=⟨_,rfl⟩
  obtain ⟨R,hR⟩:∃R,R=ival (p.1,if nval q.2=0 then [] else limbs (nval p.2%nval q.2)):=⟨_,rfl⟩
  refine tb 0 Z (y:=M) hM.symm<|tb 1 Z (y:=R) hR.symm ?_
  have hx:x=M*y+R:=by rw [←p_v,←q_v,hM,hR];exact div_split hq0
  have hl:R.natAbs<y.natAbs:=by rw [←q_v,hR];exact rem_lt hq0
  have hsM:Sm M:=Sm_le hsx (by rw [hM,←p_v,ival_abs,ival_abs,nval_limbs];exact Nat.div_le_self _ _)
  have hsR:Sm R:=Sm_le hsx (by rw [hR,←p_v,ival_abs,ival_abs,if_neg hq0,nval_limbs];exact Nat.mod_le _ _)
  have hs1:Sm 1:=Sm_lit (by decide)
  by_cases h5:R.sign≠0
  ·
   refine a5 (Γ:=[.fr (kC.is R),.fr (kN6.is R.sign),.fr (kBool.is true),.fr (kBool.is true),.fr (kC.is R),.fr (kN6.is R.sign),.fr (kI.is (q.1,q.2)),.fr (kN6.is ((ival (q.1,q.2)).sign)),.fr (kBool.is (decide (R.sign≠((ival (q.1,q.2)).sign)))),.fr (kBool.is (decide (R.sign≠((ival (q.1,q.2)).sign))))]) (aa Z (fun N=>ae Z (mN N 1 Z) Li af Z) (aa Z (fun N=>aB db (aj Z (aL (by assumption)) ar) (c9 R)) (aa Z (fun N=>aV (bG Z Z) (ah (by simp [h5]))) (om Z Z (oc (cJ Z (.g Z Z) fun N=>(ae Z (mN N 1 Z) Li af Z)) (oc (cJ Z (.g Z Z) fun N=>(aB db (aj Z (aL (by assumption)) ar) (c9 R))) (oc (cJ Z (.g Z Z) fun N=>(ae Z (mN N 4 Z) Li af Z)) (oc (cJ Z (.g Z Z) fun N=>(aB db (aj Z (kI_Z Z (by omega)) ar) (c9 (ival (q.1,q.2))))) (oc (cJ Z (.g Z Z) fun N=>(bG Z Z)) (aa Z (fun N=>cE Z Z) oz))))))))))<|fun σ=>?_
   refine Wn ?_
   refine aM Z (fun h_t45=>?_)<|fun h_t45=>?_
   ·
    refine a5 (Γ:=[.fr (kC.is M),.fr (kC.is 1),.fr (kC.is (M-1)),.fr (kC.is R),.fr (kI.is (q.1,q.2)),.fr (kC.is (R+(ival (q.1,q.2))))]) (aa Z (fun N=>ae Z (mN N 0 Z) Li af Z) (aa Z (fun N=>aB eG (aj Z (cP (by omega)) ar) (ew 1)) (aa Z (fun N=>aB fn213 (aj Z (aL (by assumption)) (aj Z (aL (by assumption)) ar)) (f9 M 1)) (aa Z (fun N=>ae Z (mN N 1 Z) Li af Z) (aa Z (fun N=>ae Z (mN N 4 Z) Li af Z) (aa Z (fun N=>aB el (aj Z (aL (by assumption)) (aj Z (kI_Z Z (by omega)) ar)) (ed R (ival (q.1,q.2)))) oz))))))<|fun σ=>?_
    refine aE .n (aC (l:=kC) (u:=M-1) 0 Z Z Z af Z Lr)<|aE .n (aC (l:=kC) (u:=R+(ival (q.1,q.2))) 1 Z Z Z af Z Lr)<|Wn<|ab<|dV (by kernel_rfl) ?_
    refine bO 0 [1] ⟨?_,⟨?_,trivial⟩⟩
    ·
     refine aT Z .n (ae Z (ag 0 Z) Li af Z) ?_
     refine bO 1 [2] ⟨?_,⟨?_,trivial⟩⟩
     ·
      refine aT Z .n (ae Z (ag 1 Z) Li af Z)<|aQ 2<|bD Z .n (aC (l:=kC) (u:=M-1) 3 Z Z Z af Z Lr)<|aQ 3<|bD Z .n (aC (l:=kC) (u:=R+(ival (q.1,q.2))) 2 Z Z Z af Z Lr)<|aQ 4<|aT Z .n (bt Z)<|bu (by kernel_rfl)<|cw<|aA ?_
      have hf:=floor_2 hx hl h5 (by rw [←q_v];exact h_t45)
      refine tb 3 Z (y:=(x.fdiv y)) hf.1<|tb 2 Z (y:=(if y=0 then 0 else x.fmod y)) (by rw [if_neg hy,q_v];exact hf.2)<|tl 6 Z (y:=(if y=0 then 11 else 0)) (by rw [if_neg hy]) ?_
      exact Qd Z (aY Z (ag 3 Z) af (aY Z (ag 2 Z) af (aI Z ay))) ⟨Z,Z⟩
     ·
      refine bD Z .n (aC (l:=kC) (u:=M-1) 3 Z Z Z af Z Lr)<|aQ 1<|aT Z .n (ae Z (ag 1 Z) Li af Z)<|aQ 3<|bD Z .n (aC (l:=kC) (u:=R+(ival (q.1,q.2))) 2 Z Z Z af Z Lr)<|aQ 4<|aT Z .n (bt Z)<|bu (by kernel_rfl)<|cw<|aA ?_
      have hf:=floor_2 hx hl h5 (by rw [←q_v];exact h_t45)
      refine tb 3 Z (y:=(x.fdiv y)) hf.1<|tb 2 Z (y:=(if y=0 then 0 else x.fmod y)) (by rw [if_neg hy,q_v];exact hf.2)<|tl 6 Z (y:=(if y=0 then 11 else 0)) (by rw [if_neg hy]) ?_
      exact Qd Z (aY Z (ag 3 Z) af (aY Z (ag 2 Z) af (aI Z ay))) ⟨Z,Z⟩
    ·
     refine aT Z .n (ae Z (ag 1 Z) Li af Z)<|aQ 0<|aT Z .n (ae Z (ag 0 Z) Li af Z)<|aQ 2<|bD Z .n (aC (l:=kC) (u:=M-1) 3 Z Z Z af Z Lr)<|aQ 3<|bD Z .n (aC (l:=kC) (u:=R+(ival (q.1,q.2))) 2 Z Z Z af Z Lr)<|aQ 4<|aT Z .n (bt Z)<|bu (by kernel_rfl)<|cw<|aA ?_
     have hf:=floor_2 hx hl h5 (by rw [←q_v];exact h_t45)
     refine tb 3 Z (y:=(x.fdiv y)) hf.1<|tb 2 Z (y:=(if y=0 then 0 else x.fmod y)) (by rw [if_neg hy,q_v];exact hf.2)<|tl 6 Z (y:=(if y=0 then 11 else 0)) (by rw [if_neg hy]) ?_
     exact Qd Z (aY Z (ag 3 Z) af (aY Z (ag 2 Z) af (aI Z ay))) ⟨Z,Z⟩
   ·
    refine Ck<|ab<|dV (by kernel_rfl) ?_
    refine bO 0 [1] ⟨?_,⟨?_,trivial⟩⟩
    ·
     refine aT Z .n (ae Z (ag 0 Z) Li af Z) ?_
     refine bO 1 [2] ⟨?_,⟨?_,trivial⟩⟩
     ·
      refine aT Z .n (ae Z (ag 1 Z) Li af Z)<|aQ 2<|bD Z .n (aC (l:=kC) (u:=M) 3 Z Z Z af Z Lr)<|aQ 3<|bD Z .n (aC (l:=kC) (u:=R) 2 Z Z Z af Z Lr)<|aQ 4<|aT Z .n (bt Z)<|bu (by kernel_rfl)<|cw<|aA ?_
      have hf:=floor_1 hx hl h5 (by rw [←q_v];exact h_t45)
      refine tb 3 Z (y:=(x.fdiv y)) hf.1<|tb 2 Z (y:=(if y=0 then 0 else x.fmod y)) (by rw [if_neg hy];exact hf.2)<|tl 6 Z (y:=(if y=0 then 11 else 0)) (by rw [if_neg hy]) ?_
      exact Qd Z (aY Z (ag 3 Z) af (aY Z (ag 2 Z) af (aI Z ay))) ⟨Z,Z⟩
     ·
      refine bD Z .n (aC (l:=kC) (u:=M) 3 Z Z Z af Z Lr)<|aQ 1<|aT Z .n (ae Z (ag 1 Z) Li af Z)<|aQ 3<|bD Z .n (aC (l:=kC) (u:=R) 2 Z Z Z af Z Lr)<|aQ 4<|aT Z .n (bt Z)<|bu (by kernel_rfl)<|cw<|aA ?_
      have hf:=floor_1 hx hl h5 (by rw [←q_v];exact h_t45)
      refine tb 3 Z (y:=(x.fdiv y)) hf.1<|tb 2 Z (y:=(if y=0 then 0 else x.fmod y)) (by rw [if_neg hy];exact hf.2)<|tl 6 Z (y:=(if y=0 then 11 else 0)) (by rw [if_neg hy]) ?_
      exact Qd Z (aY Z (ag 3 Z) af (aY Z (ag 2 Z) af (aI Z ay))) ⟨Z,Z⟩
    ·
     refine aT Z .n (ae Z (ag 1 Z) Li af Z)<|aQ 0<|aT Z .n (ae Z (ag 0 Z) Li af Z)<|aQ 2<|bD Z .n (aC (l:=kC) (u:=M) 3 Z Z Z af Z Lr)<|aQ 3<|bD Z .n (aC (l:=kC) (u:=R) 2 Z Z Z af Z Lr)<|aQ 4<|aT Z .n (bt Z)<|bu (by kernel_rfl)<|cw<|aA ?_
     have hf:=floor_1 hx hl h5 (by rw [←q_v];exact h_t45)
     refine tb 3 Z (y:=(x.fdiv y)) hf.1<|tb 2 Z (y:=(if y=0 then 0 else x.fmod y)) (by rw [if_neg hy];exact hf.2)<|tl 6 Z (y:=(if y=0 then 11 else 0)) (by rw [if_neg hy]) ?_
     exact Qd Z (aY Z (ag 3 Z) af (aY Z (ag 2 Z) af (aI Z ay))) ⟨Z,Z⟩
  ·
   refine a5 (Γ:=[.fr (kC.is R),.fr (kN6.is R.sign),.fr (kBool.is false),.fr (kBool.is false),.fr VP.tt,.fr VP.tt,.fr VP.tt,.fr VP.tt,.fr VP.tt,.fr (kBool.is false)]) (aa Z (fun N=>ae Z (mN N 1 Z) Li af Z) (aa Z (fun N=>aB db (aj Z (aL (by assumption)) ar) (c9 R)) (aa Z (fun N=>aV (bG Z Z) (ah (by simp at h5;simp [h5]))) (om Z Z (oc (Ob.k (b:=false) Z Z Z) (oc (Ob.k (b:=false) Z Z Z) (oc (Ob.k (b:=false) Z Z Z) (oc (Ob.k (b:=false) Z Z Z) (oc (Ob.k (b:=false) Z Z Z) (aa Z (fun N=>cb Z Z) oz))))))))))<|fun σ=>?_
   refine Wn<|dj Z<|Ck<|ab<|dV (by kernel_rfl) ?_
   refine bO 0 [1] ⟨?_,⟨?_,trivial⟩⟩
   ·
    refine aT Z .n (ae Z (ag 0 Z) Li af Z) ?_
    refine bO 1 [2] ⟨?_,⟨?_,trivial⟩⟩
    ·
     refine aT Z .n (ae Z (ag 1 Z) Li af Z)<|aQ 2<|bD Z .n (aC (l:=kC) (u:=M) 3 Z Z Z af Z Lr)<|aQ 3<|bD Z .n (aC (l:=kC) (u:=R) 2 Z Z Z af Z Lr)<|aQ 4<|aT Z .n (bt Z)<|bu (by kernel_rfl)<|cw<|aA ?_
     have hf:=floor_0 hx hl h5
     refine tb 3 Z (y:=(x.fdiv y)) hf.1<|tb 2 Z (y:=(if y=0 then 0 else x.fmod y)) (by rw [if_neg hy];exact hf.2)<|tl 6 Z (y:=(if y=0 then 11 else 0)) (by rw [if_neg hy]) ?_
     exact Qd Z (aY Z (ag 3 Z) af (aY Z (ag 2 Z) af (aI Z ay))) ⟨Z,Z⟩
    ·
     refine bD Z .n (aC (l:=kC) (u:=M) 3 Z Z Z af Z Lr)<|aQ 1<|aT Z .n (ae Z (ag 1 Z) Li af Z)<|aQ 3<|bD Z .n (aC (l:=kC) (u:=R) 2 Z Z Z af Z Lr)<|aQ 4<|aT Z .n (bt Z)<|bu (by kernel_rfl)<|cw<|aA ?_
     have hf:=floor_0 hx hl h5
     refine tb 3 Z (y:=(x.fdiv y)) hf.1<|tb 2 Z (y:=(if y=0 then 0 else x.fmod y)) (by rw [if_neg hy];exact hf.2)<|tl 6 Z (y:=(if y=0 then 11 else 0)) (by rw [if_neg hy]) ?_
     exact Qd Z (aY Z (ag 3 Z) af (aY Z (ag 2 Z) af (aI Z ay))) ⟨Z,Z⟩
   ·
    refine aT Z .n (ae Z (ag 1 Z) Li af Z)<|aQ 0<|aT Z .n (ae Z (ag 0 Z) Li af Z)<|aQ 2<|bD Z .n (aC (l:=kC) (u:=M) 3 Z Z Z af Z Lr)<|aQ 3<|bD Z .n (aC (l:=kC) (u:=R) 2 Z Z Z af Z Lr)<|aQ 4<|aT Z .n (bt Z)<|bu (by kernel_rfl)<|cw<|aA ?_
    have hf:=floor_0 hx hl h5
    refine tb 3 Z (y:=(x.fdiv y)) hf.1<|tb 2 Z (y:=(if y=0 then 0 else x.fmod y)) (by rw [if_neg hy];exact hf.2)<|tl 6 Z (y:=(if y=0 then 11 else 0)) (by rw [if_neg hy]) ?_
    exact Qd Z (aY Z (ag 3 Z) af (aY Z (ag 2 Z) af (aI Z ay))) ⟨Z,Z⟩
abbrev fW:=@c_zint_Floor
theorem c_zint_Exact (x y:Int):Fn Tryz.prog 208 [kZ.is x,kZ.is y] (VP.tup [kC.is (if x.fmod y=0∧y≠0 then x.fdiv y else 0),kN6.is (if y=0 then 11 else if x.fmod y=0 then 0 else 20)]):=by
 refine aN Tryz.func208 Z Z fun m w=>a8 (i:=0) Z ek fun hsx=>a8 (i:=1) Z ek fun hsy=>Cr<|aZ .n Z fun b1=>aZ .n Z fun b2=>aW .n bd fun b3=>Wa Z<|Wr<|Ws (ae Z (ag 2 Z) Li af Z)<|Ws (ae Z (ag 1 Z) Li af Z)<|Ws (f2 fn214 Z Z (fW x y))<|Wm Z<|Ws (aP Z Z)<|Ws (aP Z Z)<|Ws (aP Z Z)<|aW .n bd fun b4=>aW .n bd fun b5=>aE .n (aC (l:=kC) (u:=x.fdiv y) 1 Z Z Z af Z Lr)<|aE .n (aC (l:=kC) (u:=if y=0 then 0 else x.fmod y) 0 Z Z Z af Z Lr) ?_
 refine Wa Z<|Wn<|ab<|aF<|Cr<|Wm Z<|Ws (bG Z Z)<|Wa Z<|Wn ?_
 refine aM Z (fun h_t16=>?_)<|fun h_t16=>?_
 ·
  refine Cr<|Ws (bY dQ Z br (.nil _))<|Wm Z<|aE .n (aC (l:=kC) (u:=0) 2 Z Z Z af Z Lr)<|Wa Z<|Wn<|aA<|bQ<|a6 ?_
  have hy:y=0:=by by_cases h:y=0;exact h;simp [h] at h_t16
  refine tb 2 Z (y:=(if x.fmod y=0∧y≠0 then x.fdiv y else 0)) (by simp [hy])<|tl 5 Z (y:=(if y=0 then 11 else if x.fmod y=0 then 0 else 20)) (by simp [hy]) ?_
  exact Qd Z (aY Z (ag 2 Z) af (aI Z ay)) ⟨Z,Z⟩
 ·
  refine ab ?_
  have hy:y≠0:=fun h=>by simp [h] at h_t16
  have hsr:Sm (if y=0 then 0 else x.fmod y):=by rw [if_neg hy];exact fmod_sm hsy hy
  refine ak<|Ws (ae Z (ag 0 Z) Li af Z)<|Ws (aB db (aj Z (aL (by assumption)) ar) (c9 (if y=0 then 0 else x.fmod y)))<|Ws (bG Z Z)<|Wa Z<|Wn ?_
  refine aM Z (fun h_t21=>?_)<|fun h_t21=>?_
  ·
   refine Cr<|Ws (bY dQ Z br (.nil _))<|aE .n (aC (l:=kC) (u:=0) 2 Z Z Z af Z Lr)<|Wa Z<|Wn<|aA<|bQ<|a6 ?_
   have hm:¬x.fmod y=0:=fun h=>by simp [hy,h] at h_t21
   refine tb 2 Z (y:=(if x.fmod y=0∧y≠0 then x.fdiv y else 0)) (by simp [hm])<|tl 5 Z (y:=(if y=0 then 11 else if x.fmod y=0 then 0 else 20)) (by simp [hy,hm]) ?_
   exact Qd Z (aY Z (ag 2 Z) af (aI Z ay)) ⟨Z,Z⟩
  ·
   refine cx<|Qb<|Cr<|Ws (ae Z (ag 1 Z) Li af Z)<|aE .n (aC (l:=kC) (u:=x.fdiv y) 2 Z Z Z af Z Lr)<|Wa Z<|Wn<|aA ?_
   have hm:x.fmod y=0:=by by_cases h:x.fmod y=0;exact h;exfalso;apply h_t21;rw [if_neg hy];exact fun h0=>h (Int.sign_eq_zero_iff_zero.1 h0)
   refine tb 2 Z (y:=(if x.fmod y=0∧y≠0 then x.fdiv y else 0)) (by simp [hm,hy])<|tl 5 Z (y:=(if y=0 then 11 else if x.fmod y=0 then 0 else 20)) (by simp [hy,hm]) ?_
   exact Qd Z (aY Z (ag 2 Z) af (aI Z ay)) ⟨Z,Z⟩
theorem c_ref02_Gcd (x y:Int):Fn Tryz.prog 264 [kZ.is x,kZ.is y] (kC.is (Int.gcd x y:Int)):=by
 refine aN Tryz.func264 Z Z fun m w=>c5 0 Z fun p p_v p_n p_l=>c5 1 Z fun q q_v q_n q_l=>Cr<|aZ .n Z fun b1=>aZ .n Z fun b2=>aW .n bd fun b3=>Wr<|Ws (aw Z bX Z)<|Ws (ae (p:=kN.is p.2) Z (ag 2 Z) (am Li) ca Z)<|Ws (aw Z bX Z)<|Ws (ae (p:=kN.is q.2) Z (ag 1 Z) (am Li) ca Z)<|Ws (f2 fn210 Z Z (c_ref01_Gcd p.2 q.2 (by omega) (by omega)))<|Ws (f2 eP Z Z (eI false (limbs (Nat.gcd (nval p.2) (nval q.2)))))<|aE .n (aC (l:=kC) (u:=ival (false,(limbs (Nat.gcd (nval p.2) (nval q.2))))) 0 Z Z Z af Z Lr)<|Wn<|aA<|tb 0 Z (y:=(Int.gcd x y:Int)) (by rw [←p_v,←q_v,Int.gcd,ival_abs,ival_abs,ival_pos rfl,nval_limbs]) ?_
 exact Qd Z (aY Z (ag 0 Z) af ay) ⟨Z,Z⟩
theorem c_ref02_Floor (x y:Int) (hy:y≠0):Fn Tryz.prog 162 [kZ.is x,kZ.is y] (VP.tup [kC.is (x.fdiv y),kC.is (x.fmod y)]):=by
 refine aN Tryz.func162 Z Z fun m w=>a8 (i:=0) Z ek fun hsx=>a8 (i:=1) Z ek fun hsy=>c5 0 Z fun p p_v p_n p_l=>c5 1 Z fun q q_v q_n q_l=>Cr<|aZ .n Z fun b1=>aZ .n Z fun b2=>aW .n bd fun b3=>aW .n bd fun b4=>Wr<|Ws (aw Z bX Z)<|Ws (ae (p:=kN.is p.2) Z (ag 3 Z) (am Li) ca Z)<|Ws (aw Z bX Z)<|Ws (ae (p:=kN.is q.2) Z (ag 2 Z) (am Li) ca Z)<|Ws (f2 fn211 Z Z (gq p.2 q.2 (by omega) (by omega)))<|Wm Z<|Ws (aP Z Z)<|Ws (aP Z Z)<|Ws (aP Z Z) ?_
 refine Wa Z<|Wa Z<|Wa Z<|Wr<|Ws (aw Z cT Z)<|Ws (ae (p:=kBool.is p.1) Z (ag 3 Z) (aD Li) cV Z)<|Ws (aw Z cT Z)<|Ws (ae (p:=kBool.is q.1) Z (ag 2 Z) (aD Li) cV Z)<|Ws (O.neB Z Z U4)<|Wm Z<|Ws (f2 eP Z Z (eI (decide (p.1≠q.1)) (limbs (nval p.2/nval q.2))))<|Ax (l:=kC) (u:=ival ((decide (p.1≠q.1)),(limbs (nval p.2/nval q.2)))) bd Z af (fun _=>Z) Lr fun b5=>Wn<|ab ?_
 have hq0:nval q.2≠0:=fun h=>by rw [←q_v] at hy;have:=ival_abs q;rw [h] at this;exact hy (by omega)
 obtain ⟨M,hM⟩:∃M,M=ival (decide (p.1≠q.1),limbs (nval p.2/nval q.2)):=⟨_,rfl⟩
 obtain ⟨R,hR⟩:∃R,R=ival (p.1,if nval q.2=0 then [] else limbs (nval p.2%nval q.2)):=⟨_,rfl⟩
 refine tb 0 Z (y:=M) hM.symm ?_
 have hx:x=M*y+R:=by rw [←p_v,←q_v,hM,hR];exact div_split hq0
 have hl:R.natAbs<y.natAbs:=by rw [←q_v,hR];exact rem_lt hq0
 have hsM:Sm M:=Sm_le hsx (by rw [hM,←p_v,ival_abs,ival_abs,nval_limbs];exact Nat.div_le_self _ _)
 have hsR:Sm R:=Sm_le hsx (by rw [hR,←p_v,ival_abs,ival_abs,if_neg hq0,nval_limbs];exact Nat.mod_le _ _)
 have hs1:Sm 1:=Sm_lit (by decide)
 have hsMy:Sm (M*y):=Sm_le hsx (by rw [hM,←p_v,←q_v,Int.natAbs_mul,ival_abs,ival_abs,ival_abs,nval_limbs];exact Nat.div_mul_le_self _ _)
 refine ey (b':=OB.box b2 29 kZ y) 3 Z (OB.I_Z q_v q_n)<|ey (b':=OB.box b1 29 kZ x) 4 Z (OB.I_Z p_v p_n) ?_
 refine a5 (Γ:=[.fr (kZ.is x),.fr (kC.is M),.fr (kZ.is y),.fr (kC.is (M*y)),.fr (kC.is (x-(M*y))),.al (fun b=>OB.box b 29 kC 0)]) (aa Z (fun N=>ae Z (mN N 4 Z) Li af Z) (aa Z (fun N=>ae Z (mN N 0 Z) Li af Z) (aa Z (fun N=>ae Z (mN N 3 Z) Li af Z) (aa Z (fun N=>aB dC (aj Z (aL (by assumption)) (aS Z ar)) (dy M y)) (aa Z (fun N=>aB fn161 (aS Z (aj Z (aL (by assumption)) ar)) (c_ref02_Sub x (M*y))) (oc (cR Z bd) oz))))))<|fun σ1=>?_
 refine aE .n (aC (l:=kC) (u:=x-(M*y)) 0 Z Z Z af Z Lr)<|Wn<|ab<|ab<|tb 0 Z (y:=R) (by rw [hx];omega) ?_
 by_cases h5:R.sign≠0
 ·
  refine a5 (Γ:=[.fr (kC.is R),.fr (kN6.is R.sign),.fr (kBool.is true),.fr (kBool.is true),.fr (kC.is R),.fr (kN6.is R.sign),.fr (kZ.is y),.fr (kN6.is y.sign),.fr (kBool.is (decide (R.sign≠y.sign))),.fr (kBool.is (decide (R.sign≠y.sign)))]) (aa Z (fun N=>ae Z (mN N 0 Z) Li af Z) (aa Z (fun N=>aB eD (aj Z (aL (by assumption)) ar) (er R)) (aa Z (fun N=>aV (bG Z Z) (ah (by simp [h5]))) (om Z Z (oc (cJ Z (.g Z Z) fun N=>(ae Z (mN N 0 Z) Li af Z)) (oc (cJ Z (.g Z Z) fun N=>(aB eD (aj Z (aL (by assumption)) ar) (er R))) (oc (cJ Z (.g Z Z) fun N=>(ae Z (mN N 4 Z) Li af Z)) (oc (cJ Z (.g Z Z) fun N=>(f1 eD Z (er y))) (oc (cJ Z (.g Z Z) fun N=>(bG Z Z)) (aa Z (fun N=>cE Z Z) oz))))))))))<|fun σ2=>?_
  refine Wn ?_
  refine aM Z (fun h_t41=>?_)<|fun h_t41=>?_
  ·
   refine ab ?_
   refine a5 (Γ:=[.fr (kC.is M),.fr (kC.is 1),.fr (kC.is (M-1))]) (aa Z (fun N=>ae Z (mN N 1 Z) Li af Z) (aa Z (fun N=>aB dO (aj Z (cP (by omega)) ar) (dM 1)) (aa Z (fun N=>aB fn161 (aj Z (aL (by assumption)) (aj Z (aL (by assumption)) ar)) (c_ref02_Sub M 1)) oz)))<|fun σ3=>?_
   refine aE .n (aC (l:=kC) (u:=M-1) 1 Z Z Z af Z Lr)<|Wn<|ak<|Ws (ae Z (ag 0 Z) Li af Z)<|Ws (ae Z (ag 4 Z) Li af Z)<|Ws (aB fm (aj Z (aL (by assumption)) (aS Z ar)) (fe R y))<|aE .n (aC (l:=kC) (u:=R+y) 0 Z Z Z af Z Lr)<|Wn<|ab ?_
   refine fj [(0,kI.is (p.1,p.2)),(1,kI.is (q.1,q.2)),(2,VP.pt b1 0),(3,VP.pt b2 0),(4,VP.pt b3 0),(5,VP.pt b4 0),(6,kN.is (limbs (nval p.2/nval q.2))),(7,kN.is (if nval q.2=0 then [] else limbs (nval p.2%nval q.2))),(8,kN6.is (if nval q.2=0 then 11 else 0)),(9,VP.pt b5 0),(10,VP.pt (σ1 5) 0),(11,VP.tup [kN.is (limbs (nval p.2/nval q.2)),kN.is (if nval q.2=0 then [] else limbs (nval p.2%nval q.2)),kN6.is (if nval q.2=0 then 11 else 0)]),(12,VP.pt b1 1),(13,kN.is p.2),(14,VP.pt b2 1),(15,kN.is q.2),(16,VP.tup [kN.is (limbs (nval p.2/nval q.2)),kN.is (if nval q.2=0 then [] else limbs (nval p.2%nval q.2)),kN6.is (if nval q.2=0 then 11 else 0)]),(17,kN.is (limbs (nval p.2/nval q.2))),(18,kN.is (if nval q.2=0 then [] else limbs (nval p.2%nval q.2))),(19,kN6.is (if nval q.2=0 then 11 else 0)),(20,VP.pt b1 0),(21,kBool.is p.1),(22,VP.pt b2 0),(23,kBool.is q.1),(24,kBool.is (decide (p.1≠q.1))),(25,kN.is (limbs (nval p.2/nval q.2))),(26,kC.is (ival ((decide (p.1≠q.1)),(limbs (nval p.2/nval q.2))))),(27,kZ.is x),(28,kC.is M),(29,kZ.is y),(30,kC.is (M*y)),(31,kC.is (x-(M*y))),(32,kC.is R),(33,kN6.is R.sign),(34,kBool.is true),(35,kBool.is true),(36,kC.is R),(37,kN6.is R.sign),(38,kZ.is y),(39,kN6.is y.sign),(40,kBool.is (decide (R.sign≠y.sign))),(41,kBool.is (decide (R.sign≠y.sign))),(42,kC.is M),(43,kC.is 1),(44,kC.is (M-1)),(45,kC.is R),(46,kZ.is y),(47,kC.is (R+y)),(48,kC.is (M-1)),(49,kC.is (R+y))] [OB.box (σ1 5) 29 kC (R+y),OB.box b5 29 kC (M-1),OB.box b4 29 kC (R+y),OB.box b3 29 kC (M-1),OB.box b2 29 kZ y,OB.box b1 29 kZ x] ?_ ?_
   ·
    refine dV (by kernel_rfl) ?_
    refine bO 0 [1] ⟨?_,⟨?_,trivial⟩⟩
    ·
     refine aT Z .n (ae Z (ag 1 Z) Li af Z) ?_
     refine bO 1 [2] ⟨?_,⟨?_,trivial⟩⟩
     ·
      refine aT Z .n (ae Z (ag 0 Z) Li af Z)<|aQ 2<|bD Z .n (aC (l:=kC) (u:=M-1) 3 Z Z Z af Z Lr)<|aQ 3<|bD Z .n (aC (l:=kC) (u:=R+y) 2 Z Z Z af Z Lr)<|bu (by kernel_rfl) ?_
      exact cH (ao Z Z Z Z (ao Z Z Z Z (ao Z Z Z Z (ao Z Z Z Z (ao Z Z Z Z (ao Z Z Z Z (ao Z Z Z Z (ao Z Z Z Z (ao Z Z Z Z (ao Z Z Z Z (ao Z Z Z Z (ao Z Z Z Z (ac Z (ac Z aq))))))))))))))<|aG _
     ·
      refine bD Z .n (aC (l:=kC) (u:=M-1) 3 Z Z Z af Z Lr)<|aQ 1<|aT Z .n (ae Z (ag 0 Z) Li af Z)<|aQ 3<|bD Z .n (aC (l:=kC) (u:=R+y) 2 Z Z Z af Z Lr)<|bu (by kernel_rfl) ?_
      exact cH (ao Z Z Z Z (ao Z Z Z Z (ao Z Z Z Z (ao Z Z Z Z (ao Z Z Z Z (ao Z Z Z Z (ao Z Z Z Z (ao Z Z Z Z (ao Z Z Z Z (ao Z Z Z Z (ao Z Z Z Z (ao Z Z Z Z (ac Z (ac Z aq))))))))))))))<|aG _
    ·
     refine aT Z .n (ae Z (ag 0 Z) Li af Z)<|aQ 0<|aT Z .n (ae Z (ag 1 Z) Li af Z)<|aQ 2<|bD Z .n (aC (l:=kC) (u:=M-1) 3 Z Z Z af Z Lr)<|aQ 3<|bD Z .n (aC (l:=kC) (u:=R+y) 2 Z Z Z af Z Lr)<|bu (by kernel_rfl) ?_
     exact cH (ao Z Z Z Z (ao Z Z Z Z (ao Z Z Z Z (ao Z Z Z Z (ao Z Z Z Z (ao Z Z Z Z (ao Z Z Z Z (ao Z Z Z Z (ao Z Z Z Z (ao Z Z Z Z (ao Z Z Z Z (ao Z Z Z Z (ac Z (ac Z aq))))))))))))))<|aG _
   refine cw<|aA ?_
   have hf:=floor_2 hx hl h5 (by assumption)
   refine tb 3 Z (y:=(x.fdiv y)) hf.1<|tb 2 Z (y:=(x.fmod y)) hf.2 ?_
   exact Qd Z (aY Z (ag 3 Z) af (aY Z (ag 2 Z) af ay)) ⟨Z,Z⟩
  ·
   refine Ck<|ab ?_
   refine fj [(0,kI.is (p.1,p.2)),(1,kI.is (q.1,q.2)),(2,VP.pt b1 0),(3,VP.pt b2 0),(4,VP.pt b3 0),(5,VP.pt b4 0),(6,kN.is (limbs (nval p.2/nval q.2))),(7,kN.is (if nval q.2=0 then [] else limbs (nval p.2%nval q.2))),(8,kN6.is (if nval q.2=0 then 11 else 0)),(9,VP.pt b5 0),(10,VP.pt (σ1 5) 0),(11,VP.tup [kN.is (limbs (nval p.2/nval q.2)),kN.is (if nval q.2=0 then [] else limbs (nval p.2%nval q.2)),kN6.is (if nval q.2=0 then 11 else 0)]),(12,VP.pt b1 1),(13,kN.is p.2),(14,VP.pt b2 1),(15,kN.is q.2),(16,VP.tup [kN.is (limbs (nval p.2/nval q.2)),kN.is (if nval q.2=0 then [] else limbs (nval p.2%nval q.2)),kN6.is (if nval q.2=0 then 11 else 0)]),(17,kN.is (limbs (nval p.2/nval q.2))),(18,kN.is (if nval q.2=0 then [] else limbs (nval p.2%nval q.2))),(19,kN6.is (if nval q.2=0 then 11 else 0)),(20,VP.pt b1 0),(21,kBool.is p.1),(22,VP.pt b2 0),(23,kBool.is q.1),(24,kBool.is (decide (p.1≠q.1))),(25,kN.is (limbs (nval p.2/nval q.2))),(26,kC.is (ival ((decide (p.1≠q.1)),(limbs (nval p.2/nval q.2))))),(27,kZ.is x),(28,kC.is M),(29,kZ.is y),(30,kC.is (M*y)),(31,kC.is (x-(M*y))),(32,kC.is R),(33,kN6.is R.sign),(34,kBool.is true),(35,kBool.is true),(36,kC.is R),(37,kN6.is R.sign),(38,kZ.is y),(39,kN6.is y.sign),(40,kBool.is (decide (R.sign≠y.sign))),(41,kBool.is (decide (R.sign≠y.sign))),(48,kC.is M),(49,kC.is R)] [OB.box (σ1 5) 29 kC R,OB.box b5 29 kC M,OB.box b4 29 kC R,OB.box b3 29 kC M,OB.box b2 29 kZ y,OB.box b1 29 kZ x] ?_ ?_
   ·
    refine dV (by kernel_rfl) ?_
    refine bO 0 [1] ⟨?_,⟨?_,trivial⟩⟩
    ·
     refine aT Z .n (ae Z (ag 1 Z) Li af Z) ?_
     refine bO 1 [2] ⟨?_,⟨?_,trivial⟩⟩
     ·
      refine aT Z .n (ae Z (ag 0 Z) Li af Z)<|aQ 2<|bD Z .n (aC (l:=kC) (u:=M) 3 Z Z Z af Z Lr)<|aQ 3<|bD Z .n (aC (l:=kC) (u:=R) 2 Z Z Z af Z Lr)<|bu (by kernel_rfl) ?_
      exact cH (ao Z Z Z Z (ao Z Z Z Z (ao Z Z Z Z (ao Z Z Z Z (ao Z Z Z Z (ao Z Z Z Z (ao Z Z Z Z (ao Z Z Z Z (ao Z Z Z Z (ao Z Z Z Z (ac Z (ac Z (ac Z (ac Z aq))))))))))))))<|aG _
     ·
      refine bD Z .n (aC (l:=kC) (u:=M) 3 Z Z Z af Z Lr)<|aQ 1<|aT Z .n (ae Z (ag 0 Z) Li af Z)<|aQ 3<|bD Z .n (aC (l:=kC) (u:=R) 2 Z Z Z af Z Lr)<|bu (by kernel_rfl) ?_
      exact cH (ao Z Z Z Z (ao Z Z Z Z (ao Z Z Z Z (ao Z Z Z Z (ao Z Z Z Z (ao Z Z Z Z (ao Z Z Z Z (ao Z Z Z Z (ao Z Z Z Z (ao Z Z Z Z (ac Z (ac Z (ac Z (ac Z aq))))))))))))))<|aG _
    ·
     refine aT Z .n (ae Z (ag 0 Z) Li af Z)<|aQ 0<|aT Z .n (ae Z (ag 1 Z) Li af Z)<|aQ 2<|bD Z .n (aC (l:=kC) (u:=M) 3 Z Z Z af Z Lr)<|aQ 3<|bD Z .n (aC (l:=kC) (u:=R) 2 Z Z Z af Z Lr)<|bu (by kernel_rfl) ?_
     exact cH (ao Z Z Z Z (ao Z Z Z Z (ao Z Z Z Z (ao Z Z Z Z (ao Z Z Z Z (ao Z Z Z Z (ao Z Z Z Z (ao Z Z Z Z (ao Z Z Z Z (ao Z Z Z Z (ac Z (ac Z (ac Z (ac Z aq))))))))))))))<|aG _
   refine cw<|aA ?_
   have hf:=floor_1 hx hl h5 (by assumption)
   refine tb 3 Z (y:=(x.fdiv y)) hf.1<|tb 2 Z (y:=(x.fmod y)) hf.2 ?_
   exact Qd Z (aY Z (ag 3 Z) af (aY Z (ag 2 Z) af ay)) ⟨Z,Z⟩
 ·
  refine a5 (Γ:=[.fr (kC.is R),.fr (kN6.is R.sign),.fr (kBool.is false),.fr (kBool.is false),.fr (VP.ex undef),.fr (VP.ex undef),.fr (VP.ex undef),.fr (VP.ex undef),.fr (VP.ex undef),.fr (kBool.is false)]) (aa Z (fun N=>ae Z (mN N 0 Z) Li af Z) (aa Z (fun N=>aB eD (aj Z (aL (by assumption)) ar) (er R)) (aa Z (fun N=>aV (bG Z Z) (ah (by simp at h5;simp [h5]))) (om Z Z (oc (Ob.ku (b:=false) Z Z Z) (oc (Ob.ku (b:=false) Z Z Z) (oc (Ob.ku (b:=false) Z Z Z) (oc (Ob.ku (b:=false) Z Z Z) (oc (Ob.ku (b:=false) Z Z Z) (aa Z (fun N=>cb Z Z) oz))))))))))<|fun σ6=>?_
  refine Wn<|dj Z<|Ck<|ab ?_
  refine fj [(0,kI.is (p.1,p.2)),(1,kI.is (q.1,q.2)),(2,VP.pt b1 0),(3,VP.pt b2 0),(4,VP.pt b3 0),(5,VP.pt b4 0),(6,kN.is (limbs (nval p.2/nval q.2))),(7,kN.is (if nval q.2=0 then [] else limbs (nval p.2%nval q.2))),(8,kN6.is (if nval q.2=0 then 11 else 0)),(9,VP.pt b5 0),(10,VP.pt (σ1 5) 0),(11,VP.tup [kN.is (limbs (nval p.2/nval q.2)),kN.is (if nval q.2=0 then [] else limbs (nval p.2%nval q.2)),kN6.is (if nval q.2=0 then 11 else 0)]),(12,VP.pt b1 1),(13,kN.is p.2),(14,VP.pt b2 1),(15,kN.is q.2),(16,VP.tup [kN.is (limbs (nval p.2/nval q.2)),kN.is (if nval q.2=0 then [] else limbs (nval p.2%nval q.2)),kN6.is (if nval q.2=0 then 11 else 0)]),(17,kN.is (limbs (nval p.2/nval q.2))),(18,kN.is (if nval q.2=0 then [] else limbs (nval p.2%nval q.2))),(19,kN6.is (if nval q.2=0 then 11 else 0)),(20,VP.pt b1 0),(21,kBool.is p.1),(22,VP.pt b2 0),(23,kBool.is q.1),(24,kBool.is (decide (p.1≠q.1))),(25,kN.is (limbs (nval p.2/nval q.2))),(26,kC.is (ival ((decide (p.1≠q.1)),(limbs (nval p.2/nval q.2))))),(27,kZ.is x),(28,kC.is M),(29,kZ.is y),(30,kC.is (M*y)),(31,kC.is (x-(M*y))),(32,kC.is R),(33,kN6.is R.sign),(34,kBool.is false),(35,kBool.is false),(36,VP.ex undef),(37,VP.ex undef),(38,VP.ex undef),(39,VP.ex undef),(40,VP.ex undef),(41,kBool.is false),(48,kC.is M),(49,kC.is R)] [OB.box (σ1 5) 29 kC R,OB.box b5 29 kC M,OB.box b4 29 kC R,OB.box b3 29 kC M,OB.box b2 29 kZ y,OB.box b1 29 kZ x] ?_ ?_
  ·
   refine dV (by kernel_rfl) ?_
   refine bO 0 [1] ⟨?_,⟨?_,trivial⟩⟩
   ·
    refine aT Z .n (ae Z (ag 1 Z) Li af Z) ?_
    refine bO 1 [2] ⟨?_,⟨?_,trivial⟩⟩
    ·
     refine aT Z .n (ae Z (ag 0 Z) Li af Z)<|aQ 2<|bD Z .n (aC (l:=kC) (u:=M) 3 Z Z Z af Z Lr)<|aQ 3<|bD Z .n (aC (l:=kC) (u:=R) 2 Z Z Z af Z Lr)<|bu (by kernel_rfl) ?_
     exact cH (ao Z Z Z Z (ao Z Z Z Z (ao Z Z Z Z (ao Z Z Z Z (ao Z Z Z Z (ao Z Z Z Z (ao Z Z Z Z (ao Z Z Z Z (ao Z Z Z Z (ao Z Z Z Z (ac Z (ac Z (ac Z (ac Z aq))))))))))))))<|aG _
    ·
     refine bD Z .n (aC (l:=kC) (u:=M) 3 Z Z Z af Z Lr)<|aQ 1<|aT Z .n (ae Z (ag 0 Z) Li af Z)<|aQ 3<|bD Z .n (aC (l:=kC) (u:=R) 2 Z Z Z af Z Lr)<|bu (by kernel_rfl) ?_
     exact cH (ao Z Z Z Z (ao Z Z Z Z (ao Z Z Z Z (ao Z Z Z Z (ao Z Z Z Z (ao Z Z Z Z (ao Z Z Z Z (ao Z Z Z Z (ao Z Z Z Z (ao Z Z Z Z (ac Z (ac Z (ac Z (ac Z aq))))))))))))))<|aG _
   ·
    refine aT Z .n (ae Z (ag 0 Z) Li af Z)<|aQ 0<|aT Z .n (ae Z (ag 1 Z) Li af Z)<|aQ 2<|bD Z .n (aC (l:=kC) (u:=M) 3 Z Z Z af Z Lr)<|aQ 3<|bD Z .n (aC (l:=kC) (u:=R) 2 Z Z Z af Z Lr)<|bu (by kernel_rfl) ?_
    exact cH (ao Z Z Z Z (ao Z Z Z Z (ao Z Z Z Z (ao Z Z Z Z (ao Z Z Z Z (ao Z Z Z Z (ao Z Z Z Z (ao Z Z Z Z (ao Z Z Z Z (ao Z Z Z Z (ac Z (ac Z (ac Z (ac Z aq))))))))))))))<|aG _
  refine cw<|aA ?_
  have hf:=floor_0 hx hl h5
  refine tb 3 Z (y:=(x.fdiv y)) hf.1<|tb 2 Z (y:=(x.fmod y)) hf.2 ?_
  exact Qd Z (aY Z (ag 3 Z) af (aY Z (ag 2 Z) af ay)) ⟨Z,Z⟩
abbrev gM:=@c_ref02_Floor
theorem c_rat_made (n d:Int) (hd:d≠0):Fn Tryz.prog 136 [kZ.is n,kZ.is d] (kRC.is (rmk n d)):=by
 refine aN Tryz.func136 Z Z fun m w=>a8 (i:=0) Z ek fun hsn=>a8 (i:=1) Z ek fun hsd=>Cr<|aZ .n Z fun b1=>aZ .n Z fun b2=>aW .n ba fun b3=>Wn ?_
 refine CW.cut2 (fun (n1:Int) (d1:Int)=>n1=n*d.sign∧d1=(d.natAbs:Int)∧Sm n1∧Sm d1) (fun (n1:Int) (d1:Int)=>[(2,VP.pt b1 0),(3,VP.pt b2 0),(4,VP.pt b3 0)]) (fun (n1:Int) (d1:Int)=>[OB.box b3 31 kRC (0,0),OB.box b2 29 kZ d1,OB.box b1 29 kZ n1]) ?_ ?_
 ·
  refine Cr<|Ws (ae Z (ag 1 Z) Li af Z)<|Ws (f1 db Z (c9 d))<|Ws (aX Z Z)<|Wn ?_
  refine aM Z (fun h_t12=>?_)<|fun h_t12=>?_
  ·
   refine a5 (Γ:=[.fr (kZ.is n),.fr (kC.is (-n)),.fr (kZ.is d),.fr (kC.is (-d))]) (aa Z (fun N=>ae Z (mN N 2 Z) Li af Z) (aa Z (fun N=>f1 fn145 Z (ga n)) (aa Z (fun N=>ae Z (mN N 1 Z) Li af Z) (aa Z (fun N=>f1 fn145 Z (ga d)) oz))))<|fun σ1=>?_
   refine aE .n (aC (l:=kC) (u:=-n) 2 Z Z Z af Z Lr)<|aE .n (aC (l:=kC) (u:=-d) 1 Z Z Z af Z Lr)<|au ?_
   exact fO (-n) (-d) ⟨(mul_sign_neg (sgn_lt0 h_t12)).symm,by have:=sgn_lt0 h_t12;omega,fl hsn,fl hsd⟩ (ac Z (ac Z (ac Z aq)))<|a9<|OS.keep<|OS.keepLe (OB.C_Zeq (fl (by assumption)) (by omega))<|OS.keepLe (OB.C_Zeq (fl (by assumption)) (by omega)) OS.nil
  ·
   refine cx ?_
   exact fO n d ⟨(mul_sign_pos (by have:=sgn_ge0 h_t12;omega)).symm,by have:=sgn_ge0 h_t12;omega,hsn,hsd⟩ (ac Z (ac Z (ac Z aq)))<|aG _
 intro n1 d1 ⟨hn1,hd1,hs1,hs2⟩
 have hs3:Sm ((Int.gcd n1 d1:Nat):Int):=Sm_le hsd (by rw [hn1,hd1,gcd_sign hd];exact gcd_le_abs hd)
 refine Cr<|Ws (ae Z (ag 2 Z) Li af Z)<|Ws (ae Z (ag 1 Z) Li af Z)<|Ws (f2 fn207 Z Z (c_zint_Gcd n1 d1))<|Ax (l:=kC) (u:=(Int.gcd n1 d1:Int)) bd Z af (fun _=>Z) Lr fun b4=>Wr<|Ws (ae Z (ag 3 Z) Li af Z)<|Ws (ae Z (ag 0 Z) Li af Z)<|Ws (aB fn208 (aS Z (aj Z (aL (by assumption)) ar)) (c_zint_Exact n1 (Int.gcd n1 d1:Int)))<|Wm Z<|Ws (aP Z Z)<|Ws (aP Z Z)<|Ax (l:=kC) (u:=if n1.fmod (Int.gcd n1 d1:Int)=0∧(Int.gcd n1 d1:Int)≠0 then n1.fdiv (Int.gcd n1 d1:Int) else 0) bd Z af (fun _=>Z) Lr fun b5=>Wa Z<|Wr ?_
 refine Ws (ae Z (ag 3 Z) Li af Z)<|Ws (ae Z (ag 1 Z) Li af Z)<|Ws (aB fn208 (aS Z (aj Z (aL (by assumption)) ar)) (c_zint_Exact d1 (Int.gcd n1 d1:Int)))<|Wm Z<|Ws (aP Z Z)<|Ws (aP Z Z)<|Ax (l:=kC) (u:=if d1.fmod (Int.gcd n1 d1:Int)=0∧(Int.gcd n1 d1:Int)≠0 then d1.fdiv (Int.gcd n1 d1:Int) else 0) bd Z af (fun _=>Z) Lr fun b6=>Wa Z<|Wr<|Ws (ae Z (ag 1 Z) Li af Z)<|Ws (ae Z (ag 0 Z) Li af Z)<|Ws (bY dP Z (cy Z (cy Z br)) (.cons Z (aD Li) (.cons Z (am Li) (.nil _))))<|aE .n (aC (l:=kRC) (u:=(if n1.fmod (Int.gcd n1 d1:Int)=0∧(Int.gcd n1 d1:Int)≠0 then n1.fdiv (Int.gcd n1 d1:Int) else 0,if d1.fmod (Int.gcd n1 d1:Int)=0∧(Int.gcd n1 d1:Int)≠0 then d1.fdiv (Int.gcd n1 d1:Int) else 0)) 3 Z Z Z ai Z Lr)<|Wn<|aA<|tb 3 Z (y:=(rmk n d)) (by subst hn1 hd1;have:=rmk_exact (n:=n) hd;rw [←Prod.eta (rmk n d),←this.1,←this.2]) ?_
 exact Qd Z (aY Z (ag 3 Z) ai ay) ⟨Z,Z⟩
abbrev fD:=@c_rat_made
theorem c_rat_Make (n d:Int):Fn Tryz.prog 134 [kZ.is n,kZ.is d] (VP.tup [kRC.is (if d=0 then (0,0) else rmk n d),kN6.is (if d=0 then 11 else 0)]):=by
 refine aN Tryz.func134 Z Z fun m w=>Cr<|aZ .n Z fun b1=>aZ .n Z fun b2=>aW .n ba fun b3=>Wa Z<|Wn<|ab<|Cr<|Ws (ae Z (ag 1 Z) Li af Z)<|Ws (f1 db Z (c9 d))<|Ws (cq Z Z)<|Wn ?_
 refine aM Z (fun h_t8=>?_)<|fun h_t8=>?_
 ·
  refine Cr<|Ws (bY dP Z br (.nil _))<|aE .n (aC (l:=kRC) (u:=(0,0)) 0 Z Z Z ai Z Lr)<|Wa Z<|Wn<|aA<|a6 ?_
  have hd:d=0:=Int.sign_eq_zero_iff_zero.1 h_t8
  refine tb 0 Z (y:=(if d=0 then (0,0) else rmk n d)) (by rw [if_pos hd])<|tl 5 Z (y:=(if d=0 then 11 else 0)) (by rw [if_pos hd]) ?_
  exact Qd Z (aY Z (ag 0 Z) ai (aI Z ay)) ⟨Z,Z⟩
 ·
  refine Ck<|Cr<|Ws (ae Z (ag 2 Z) Li af Z)<|Ws (ae Z (ag 1 Z) Li af Z)<|Ws (f2 fn136 Z Z (fD n d (fun h=>h_t8 (by rw [h];rfl))))<|aE .n (aC (l:=kRC) (u:=rmk n d) 0 Z Z Z ai Z Lr)<|Wa Z<|Wn<|aA ?_
  have hd:¬d=0:=fun h=>h_t8 (by rw [h];rfl)
  refine tb 0 Z (y:=(if d=0 then (0,0) else rmk n d)) (by rw [if_neg hd])<|tl 5 Z (y:=(if d=0 then 11 else 0)) (by rw [if_neg hd]) ?_
  exact Qd Z (aY Z (ag 0 Z) ai (aI Z ay)) ⟨Z,Z⟩
theorem c_ref03_Make (n d:Int) (hd:d≠0):Fn Tryz.prog 138 [kZ.is n,kZ.is d] (kRC.is (rmk n d)):=by
 refine aN Tryz.func138 Z Z fun m w=>a8 (i:=0) Z ek fun hsn=>a8 (i:=1) Z ek fun hsd=>Cr<|aZ .n Z fun b1=>aZ .n Z fun b2=>aW .n ba fun b3=>Wr<|Ws (ae Z (ag 2 Z) Li af Z)<|Ws (f1 fn113 Z (fX n))<|Ax (l:=kC) (u:=n) bd Z af (fun _=>Z) Lr fun b4=>Wr<|Ws (ae Z (ag 2 Z) Li af Z)<|Ws (f1 fn113 Z (fX d))<|Ax (l:=kC) (u:=d) bd Z af (fun _=>Z) Lr fun b5=>?_
 refine Wn ?_
 refine CW.cut2 (fun (n1:Int) (d1:Int)=>n1=n*d.sign∧d1=(d.natAbs:Int)∧Sm n1∧Sm d1) (fun (n1:Int) (d1:Int)=>[(4,VP.pt b3 0),(5,VP.pt b4 0),(6,VP.pt b5 0)]) (fun (n1:Int) (d1:Int)=>[OB.box b5 29 kC d1,OB.box b4 29 kC n1,OB.box b3 31 kRC (0,0)]) ?_ ?_
 ·
  refine Cr<|Ws (ae Z (ag 0 Z) Li af Z)<|Ws (aB eD (aj Z (aL (by assumption)) ar) (er d))<|Ws (aX Z Z)<|Wn ?_
  refine aM Z (fun h_t20=>?_)<|fun h_t20=>?_
  ·
   refine Cr<|Ws (ae Z (ag 1 Z) Li af Z)<|Ws (aB fn209 (aj Z (aL (by assumption)) ar) (fp n))<|aE .n (aC (l:=kC) (u:=-n) 1 Z Z Z af Z Lr)<|Wn<|ak<|Ws (ae Z (ag 0 Z) Li af Z)<|Ws (aB fn209 (aj Z (aL (by assumption)) ar) (fp d))<|aE .n (aC (l:=kC) (u:=-d) 0 Z Z Z af Z Lr)<|au ?_
   exact fO (-n) (-d) ⟨(mul_sign_neg (sgn_lt0 h_t20)).symm,by have:=sgn_lt0 h_t20;omega,fl hsn,fl hsd⟩ (ac Z (ac Z (ac Z aq)))<|a9<|OS.keep<|OS.keep<|OS.keep<|OS.skip<|OS.skip OS.nil
  ·
   refine cx ?_
   exact fO n d ⟨(mul_sign_pos (by have:=sgn_ge0 h_t20;omega)).symm,by have:=sgn_ge0 h_t20;omega,hsn,hsd⟩ (ac Z (ac Z (ac Z aq)))<|a9<|OS.keep<|OS.keep<|OS.keep<|OS.skip<|OS.skip OS.nil
 intro n1 d1 ⟨hn1,hd1,hs1,hs2⟩
 have hg:Nat.gcd (nval (canon n1).2) (nval (canon d1).2)=Int.gcd n d:=by rw [canon_nval,canon_nval,←gcd_sign hd,hn1,hd1];rfl
 have hgn:=gcd_ne (n:=n) hd
 have hl1:=canon_len hs1
 have hl2:=canon_len hs2
 have hgl:(limbs (Nat.gcd (nval (canon n1).2) (nval (canon d1).2))).length≤17179869184:=by rw [hg];exact canon_len (z:=((Int.gcd n d:Nat):Int)) (Sm_le hsd (gcd_le_abs hd))
 refine ey (b':=OB.box b5 29 kI ((canon d1).1,(canon d1).2)) 0 Z OB.C_I<|ey (b':=OB.box b4 29 kI ((canon n1).1,(canon n1).2)) 1 Z OB.C_I<|Cr<|Ws (aw Z bX Z)<|Ws (ae (p:=kN.is ((canon n1).2)) Z (ag 1 Z) (am Li) ca Z)<|Ws (aw Z bX Z)<|Ws (ae (p:=kN.is ((canon d1).2)) Z (ag 0 Z) (am Li) ca Z)<|Ws (f2 fn210 Z Z (c_ref01_Gcd ((canon n1).2) ((canon d1).2) (by omega) (by omega)))<|Wa Z<|Wr<|Ws (aw Z bX Z)<|Ws (ae (p:=kN.is ((canon n1).2)) Z (ag 1 Z) (am Li) ca Z)<|Wm Z<|Ws (f2 fn211 Z Z (gq ((canon n1).2) (limbs (Nat.gcd (nval ((canon n1).2)) (nval ((canon d1).2)))) (by omega) (by omega)))<|Wm Z<|Ws (aP Z Z)<|Ws (aP Z Z)<|Ws (aP Z Z)<|Wa Z<|Wa Z ?_
 refine Wa Z<|Wn<|ab<|tl 8 Z (y:=(limbs (n1.natAbs/Int.gcd n d))) (by rw [nval_limbs,hg,canon_nval]) ?_
 have hlx:(limbs (n1.natAbs/Int.gcd n d)).length≤17179869184:=Nat.le_trans (limbs_mono (Nat.div_le_self _ _)) hl1
 refine ak<|Ws (aw Z bX Z)<|Ws (ae (p:=kN.is ((canon d1).2)) Z (ag 0 Z) (am Li) ca Z)<|Wm Z<|Ws (f2 fn211 Z Z (gq ((canon d1).2) (limbs (Nat.gcd (nval ((canon n1).2)) (nval ((canon d1).2)))) (by omega) (by omega)))<|Wm Z<|Ws (aP Z Z)<|Ws (aP Z Z)<|Ws (aP Z Z)<|Wa Z<|Wa Z<|Wa Z<|Wn<|ab<|tl 11 Z (y:=(limbs (d1.natAbs/Int.gcd n d))) (by rw [nval_limbs,hg,canon_nval])<|ak<|Ws (aw Z cT Z)<|Ws (ae (p:=kBool.is ((canon n1).1)) Z (ag 1 Z) (aD Li) cV Z)<|Wm Z<|Ws (bY fy Z (cy Z (cy Z br)) (.cons Z (aD Li) (.cons Z (am Li) (.nil _))))<|Ws (aB fn113 (aj Z (kI_Z Z (by omega)) ar) (fX (ival ((canon n1).1,(limbs (n1.natAbs/Int.gcd n d))))))<|tl 50 Z (y:=(rmk n d).1) (by rw [hn1];exact ival_div (by omega) (by rw [←gcd_sign hd];exact Int.gcd_dvd_left ..))<|Wm Z ?_
 refine Ws (bY fy Z (cy Z br) (.cons Z (am Li) (.nil _)))<|dA (q:=kC.is ((rmk n d).2)) 52 Z (kI_C (rmk_den hd hd1))<|Ws (bY dP Z (cy Z (cy Z br)) (.cons Z (aD Li) (.cons Z (am Li) (.nil _))))<|aE .n (aC (l:=kRC) (u:=((rmk n d).1,(rmk n d).2)) 2 Z Z Z ai Z Lr)<|Wn<|aA ?_
 exact Qd Z (dE Z (ag 2 Z) ai (ah (y:=rmk n d) (by rfl)) ay) ⟨Z,Z⟩
abbrev d8:=@c_ref03_Make
theorem c_ref03_one  : Fn Tryz.prog 114 [] (kC.is 1):=by
 refine aN Tryz.func114 Z Z fun m w=>Cr<|aW .n bd fun b1=>Wr<|Ws (aB dO (aj Z (cP (by omega)) ar) (dM 1))<|aE .n (aC (l:=kC) (u:=1) 0 Z Z Z af Z Lr)<|Wn<|aA ?_
 exact Qd Z (aY Z (ag 0 Z) af ay) ⟨Z,Z⟩
theorem c_ref03_Of (z:Int):Fn Tryz.prog 52 [kZ.is z] (kRC.is (rq (z:Rat))):=by
 refine aN Tryz.func52 Z Z fun m w=>a8 (i:=0) Z ek fun hsz=>Cr<|aZ .n Z fun b1=>aW .n ba fun b2=>Wr<|Ws (ae Z (ag 1 Z) Li af Z)<|Ws (f1 fn113 Z (fX z))<|Ws (aB fn114 ar (c_ref03_one))<|Ws (bY dP Z (cy Z (cy Z br)) (.cons Z (aD Li) (.cons Z (am Li) (.nil _))))<|aE .n (aC (l:=kRC) (u:=(z,1)) 0 Z Z Z ai Z Lr)<|Wn<|aA<|tb 0 Z (y:=(rq (z:Rat))) (rq_int z).symm ?_
 exact Qd Z (aY Z (ag 0 Z) ai ay) ⟨Z,Z⟩
abbrev dH:=@c_ref03_Of
theorem c_ref03_Neg (n:Nat) (p:Rat) (hp:RZ n p) (hn:n≤68719476736):Fn Tryz.prog 174 [kRC.is (rq p)] (kRC.is (rq (-p))):=by
 refine aN Tryz.func174 Z Z fun m w=>Cr<|aZ .n Z fun b1=>aW .n ba fun b2=>Wn<|ab ?_
 refine a5 (Γ:=[.fr (VP.pt b1 0),.fr (kC.is ((rq p).1)),.fr (kC.is (-((rq p).1))),.fr (VP.pt b1 2),.fr (kC.is ((rq p).2)),.fr (kRC.is (rmk (-((rq p).1)) ((rq p).2)))]) (aa Z (fun N=>aw Z cB Z) (aa Z (fun N=>ae Z (mN N 1 Z) (aD Li) af Z) (aa Z (fun N=>aB fn209 (aj Z (aL (hp.a.sm (by omega))) ar) (fp ((rq p).1))) (aa Z (fun N=>aw Z bW Z) (aa Z (fun N=>ae Z (mN N 1 Z) (am Li) af Z) (aa Z (fun N=>aB em (aj Z (aL (hp.a.neg.sm (by omega))) (aj Z (aL (hp.b.sm (by omega))) ar)) (d8 (-((rq p).1)) ((rq p).2) (dZ p))) oz))))))<|fun σ1=>?_
 refine aE .n (aC (l:=kRC) (u:=rmk (-((rq p).1)) ((rq p).2)) 0 Z Z Z ai Z Lr)<|Wn<|aA<|tb 0 Z (y:=(rq (-p))) (rq_neg p) ?_
 exact Qd Z (aY Z (ag 0 Z) ai ay) ⟨Z,Z⟩
theorem c_ref03_Add (n:Nat) (p q:Rat) (hp:RZ n p) (hq:RZ n q) (hn:n≤68719476736):Fn Tryz.prog 74 [kRC.is (rq p),kRC.is (rq q)] (kRC.is (rq (p+q))):=by
 refine aN Tryz.func74 Z Z fun m w=>Cr<|aZ .n Z fun b1=>aZ .n Z fun b2=>aW .n ba fun b3=>Wr<|Ws (aw Z cB Z)<|Ws (ae Z (ag 2 Z) (aD Li) af Z)<|Ws (aw Z bW Z)<|Ws (ae Z (ag 1 Z) (am Li) af Z)<|Ws (aB dC (aj Z (aL (hp.a.sm (by omega))) (aj Z (aL (hq.b.sm (by omega))) ar)) (dy ((rq p).1) ((rq q).2)))<|Ax (l:=kC) (u:=((rq p).1)*((rq q).2)) bd Z af (fun _=>Z) Lr fun b4=>Wr<|Ws (aw Z cB Z)<|Ws (ae Z (ag 2 Z) (aD Li) af Z)<|Ws (aw Z bW Z) ?_
 refine Ws (ae Z (ag 3 Z) (am Li) af Z)<|Ws (aB dC (aj Z (aL (hq.a.sm (by omega))) (aj Z (aL (hp.b.sm (by omega))) ar)) (dy ((rq q).1) ((rq p).2)))<|Ax (l:=kC) (u:=((rq q).1)*((rq p).2)) bd Z af (fun _=>Z) Lr fun b5=>Wn<|ab ?_
 refine a5 (Γ:=[.fr (kC.is (((rq p).1)*((rq q).2))),.fr (kC.is (((rq q).1)*((rq p).2))),.fr (kC.is ((((rq p).1)*((rq q).2))+(((rq q).1)*((rq p).2)))),.fr (VP.pt b1 2),.fr (kC.is ((rq p).2)),.fr (VP.pt b2 2),.fr (kC.is ((rq q).2)),.fr (kC.is (((rq p).2)*((rq q).2))),.fr (kRC.is (rmk ((((rq p).1)*((rq q).2))+(((rq q).1)*((rq p).2))) (((rq p).2)*((rq q).2))))]) (aa Z (fun N=>ae Z (mN N 1 Z) Li af Z) (aa Z (fun N=>ae Z (mN N 0 Z) Li af Z) (aa Z (fun N=>aB fm (aj Z (aL ((hp.a.mul hq.b).sm (by omega))) (aj Z (aL ((hq.a.mul hp.b).sm (by omega))) ar)) (fe (((rq p).1)*((rq q).2)) (((rq q).1)*((rq p).2)))) (aa Z (fun N=>aw Z bW Z) (aa Z (fun N=>ae Z (mN N 4 Z) (am Li) af Z) (aa Z (fun N=>aw Z bW Z) (aa Z (fun N=>ae Z (mN N 3 Z) (am Li) af Z) (aa Z (fun N=>aB dC (aj Z (aL (hp.b.sm (by omega))) (aj Z (aL (hq.b.sm (by omega))) ar)) (dy ((rq p).2) ((rq q).2))) (aa Z (fun N=>aB em (aj Z (aL (((hp.a.mul hq.b).add (hq.a.mul hp.b)).sm (by omega))) (aj Z (aL ((hp.b.mul hq.b).sm (by omega))) ar)) (d8 ((((rq p).1)*((rq q).2))+(((rq q).1)*((rq p).2))) (((rq p).2)*((rq q).2)) (Int.mul_ne_zero (dZ p) (dZ q)))) oz)))))))))<|fun σ1=>?_
 refine aE .n (aC (l:=kRC) (u:=rmk ((((rq p).1)*((rq q).2))+(((rq q).1)*((rq p).2))) (((rq p).2)*((rq q).2))) 2 Z Z Z ai Z Lr)<|Wn<|aA<|tb 2 Z (y:=(rq (p+q))) (rq_add p q) ?_
 exact Qd Z (aY Z (ag 2 Z) ai ay) ⟨Z,Z⟩
abbrev eJ:=@c_ref03_Add
theorem c_ref03_Mul (n:Nat) (p q:Rat) (hp:RZ n p) (hq:RZ n q) (hn:n≤68719476736):Fn Tryz.prog 104 [kRC.is (rq p),kRC.is (rq q)] (kRC.is (rq (p*q))):=by
 refine aN Tryz.func104 Z Z fun m w=>Cr<|aZ .n Z fun b1=>aZ .n Z fun b2=>aW .n ba fun b3=>Wn<|ab ?_
 refine a5 (Γ:=[.fr (VP.pt b1 0),.fr (kC.is ((rq p).1)),.fr (VP.pt b2 0),.fr (kC.is ((rq q).1)),.fr (kC.is (((rq p).1)*((rq q).1))),.fr (VP.pt b1 2),.fr (kC.is ((rq p).2)),.fr (VP.pt b2 2),.fr (kC.is ((rq q).2)),.fr (kC.is (((rq p).2)*((rq q).2))),.fr (kRC.is (rmk (((rq p).1)*((rq q).1)) (((rq p).2)*((rq q).2))))]) (aa Z (fun N=>aw Z cB Z) (aa Z (fun N=>ae Z (mN N 2 Z) (aD Li) af Z) (aa Z (fun N=>aw Z cB Z) (aa Z (fun N=>ae Z (mN N 1 Z) (aD Li) af Z) (aa Z (fun N=>aB dC (aj Z (aL (hp.a.sm (by omega))) (aj Z (aL (hq.a.sm (by omega))) ar)) (dy ((rq p).1) ((rq q).1))) (aa Z (fun N=>aw Z bW Z) (aa Z (fun N=>ae Z (mN N 2 Z) (am Li) af Z) (aa Z (fun N=>aw Z bW Z) (aa Z (fun N=>ae Z (mN N 1 Z) (am Li) af Z) (aa Z (fun N=>aB dC (aj Z (aL (hp.b.sm (by omega))) (aj Z (aL (hq.b.sm (by omega))) ar)) (dy ((rq p).2) ((rq q).2))) (aa Z (fun N=>aB em (aj Z (aL ((hp.a.mul hq.a).sm (by omega))) (aj Z (aL ((hp.b.mul hq.b).sm (by omega))) ar)) (d8 (((rq p).1)*((rq q).1)) (((rq p).2)*((rq q).2)) (Int.mul_ne_zero (dZ p) (dZ q)))) oz)))))))))))<|fun σ1=>?_
 refine aE .n (aC (l:=kRC) (u:=rmk (((rq p).1)*((rq q).1)) (((rq p).2)*((rq q).2))) 0 Z Z Z ai Z Lr)<|Wn<|aA<|tb 0 Z (y:=(rq (p*q))) (rq_mul p q) ?_
 exact Qd Z (aY Z (ag 0 Z) ai ay) ⟨Z,Z⟩
abbrev dp:=@c_ref03_Mul
theorem c_ref03_Div (n:Nat) (p q:Rat) (hp:RZ n p) (hq:RZ n q) (hn:n≤68719476736) (h0:q≠0):Fn Tryz.prog 76 [kRC.is (rq p),kRC.is (rq q)] (kRC.is (rq (p/q))):=by
 refine aN Tryz.func76 Z Z fun m w=>Cr<|aZ .n Z fun b1=>aZ .n Z fun b2=>aW .n ba fun b3=>Wn<|ab ?_
 refine a5 (Γ:=[.fr (VP.pt b1 0),.fr (kC.is ((rq p).1)),.fr (VP.pt b2 2),.fr (kC.is ((rq q).2)),.fr (kC.is (((rq p).1)*((rq q).2))),.fr (VP.pt b1 2),.fr (kC.is ((rq p).2)),.fr (VP.pt b2 0),.fr (kC.is ((rq q).1)),.fr (kC.is (((rq p).2)*((rq q).1))),.fr (kRC.is (rmk (((rq p).1)*((rq q).2)) (((rq p).2)*((rq q).1))))]) (aa Z (fun N=>aw Z cB Z) (aa Z (fun N=>ae Z (mN N 2 Z) (aD Li) af Z) (aa Z (fun N=>aw Z bW Z) (aa Z (fun N=>ae Z (mN N 1 Z) (am Li) af Z) (aa Z (fun N=>aB dC (aj Z (aL (hp.a.sm (by omega))) (aj Z (aL (hq.b.sm (by omega))) ar)) (dy ((rq p).1) ((rq q).2))) (aa Z (fun N=>aw Z bW Z) (aa Z (fun N=>ae Z (mN N 2 Z) (am Li) af Z) (aa Z (fun N=>aw Z cB Z) (aa Z (fun N=>ae Z (mN N 1 Z) (aD Li) af Z) (aa Z (fun N=>aB dC (aj Z (aL (hp.b.sm (by omega))) (aj Z (aL (hq.a.sm (by omega))) ar)) (dy ((rq p).2) ((rq q).1))) (aa Z (fun N=>aB em (aj Z (aL ((hp.a.mul hq.b).sm (by omega))) (aj Z (aL ((hp.b.mul hq.a).sm (by omega))) ar)) (d8 (((rq p).1)*((rq q).2)) (((rq p).2)*((rq q).1)) (Int.mul_ne_zero (dZ p) (rq_num_ne h0)))) oz)))))))))))<|fun σ1=>?_
 refine aE .n (aC (l:=kRC) (u:=rmk (((rq p).1)*((rq q).2)) (((rq p).2)*((rq q).1))) 0 Z Z Z ai Z Lr)<|Wn<|aA<|tb 0 Z (y:=(rq (p/q))) (rq_div p h0) ?_
 exact Qd Z (aY Z (ag 0 Z) ai ay) ⟨Z,Z⟩
theorem c_ref03_Sub (n:Nat) (p q:Rat) (hp:RZ n p) (hq:RZ n q) (hn:n≤68719476736):Fn Tryz.prog 103 [kRC.is (rq p),kRC.is (rq q)] (kRC.is (rq (p-q))):=by
 refine aN Tryz.func103 Z Z fun m w=>Cr<|aZ .n Z fun b1=>aZ .n Z fun b2=>aW .n ba fun b3=>Wn<|ab ?_
 refine a5 (Γ:=[.fr (kRC.is (rq p)),.fr (kRC.is (rq q)),.fr (kRC.is (rq (-q))),.fr (kRC.is (rq (p+(-q))))]) (aa Z (fun N=>ae Z (mN N 2 Z) Li ai Z) (aa Z (fun N=>ae Z (mN N 1 Z) Li ai Z) (aa Z (fun N=>f1 fn174 Z (c_ref03_Neg n q hq hn)) (aa Z (fun N=>f2 eE Z Z (eJ n p (-q) hp hq.neg hn)) oz))))<|fun σ1=>?_
 refine aE .n (aC (l:=kRC) (u:=rq (p+(-q))) 0 Z Z Z ai Z Lr)<|Wn<|aA<|tb 0 Z (y:=(rq (p-q))) (by rw [Rat.sub_eq_add_neg]) ?_
 exact Qd Z (aY Z (ag 0 Z) ai ay) ⟨Z,Z⟩
abbrev eu:=@c_ref03_Sub
end Fw
namespace Fw
open Go
def dotN (u v:List Int):Nat→Int
  | 0=>0
  | i+1=>dotN u v i+u.getD i 0*v.getD i 0
def dotV (u v:List Int):Int:=dotN u v u.length
def SzL (n:Nat) (u:List Int):Prop:=∀i,Sz n (u.getD i 0)
theorem Sz.add1 {n:Nat} {x y:Int} (h:Sz n x) (k:Sz n y):Sz (n+1) (x+y):=by
  have:=Sz.max h k
  have e:Nat.max n n=n:=Nat.max_self n
  rwa [e] at this
abbrev fz:=@Sz.add1
theorem dotN_Sz {n m u v} (hu:SzL n u) (hv:SzL m v):∀i,Sz (n+m+i) (dotN u v i)
  | 0=>Sz.zero _
  | i+1=>by
    have h1:=dotN_Sz hu hv i
    have h2:=((hu i).mul (hv i)).up (show n+m≤n+m+i by omega)
    exact Sz.add1 h1 h2
theorem dotN_comm (u v):∀i,dotN u v i=dotN v u i
  | 0=>rfl
  | i+1=>by simp only [dotN];rw [dotN_comm u v i,Int.mul_comm]
theorem dotV_comm {u v:List Int} (h:u.length=v.length):dotV u v=dotV v u:=by
  unfold dotV;rw [h,dotN_comm]
end Fw
namespace Fw
open Go Go.Proofs
theorem c_mat_dot (n:Nat) (u v:List Int) (hu:SzL n u) (hv:SzL n v) (hn:n+n+u.length≤549755813000) (hl:u.length≤v.length):Fn Tryz.prog 179 [kVZ.is u,kVZ.is v] (kC.is (dotV u v)):=by
 refine aN Tryz.func179 Z Z fun m w=>a8 (i:=0) Z bF fun hB=>Cr<|aW .n bd fun b1=>Wr<|aW .n bd fun b2=>Wn<|ab<|Cr<|Wm Z<|Ws (aJ Z U23)<|Wm Z<|Wn<|aF<|bJ (fun (i:Nat)=>i≤u.length) (fun (i:Nat)=>[(0,kVZ.is u),(1,kVZ.is v),(4,VP.pt b1 0),(5,VP.pt b2 0),(7,kVZ.is u),(8,kN6.is (u.length:Int)),(9,kN6.is (i:Int))]) (fun (i:Nat)=>[OB.box b2 29 kC (dotN u v i),OB.box b1 29 kC 0]) (fun (i:Nat)=>u.length-i) 0 (by omega) (ao Z Z Z Z (ac Z (ac Z (az Z (ah (y:=(0:Int)) (by rfl)) aq)))) (a9 (OS.keepLe (cm (by rfl)) (OS.keep OS.nil))) ?_
 intro i hi
 refine Cr<|Ws (aX Z Z)<|Wn<|ab ?_
 refine aM Z (fun h_t10=>?_)<|fun h_t10=>?_
 ·
  refine Ck<|ab<|aF<|Cr<|Wm Z<|Wa Z<|Wn ?_
  refine a5 (Γ:=[.fr (kC.is (dotN u v i)),.fr (kVZ.is u),.fr (kN6.is (i:Int)),.fr (VP.pim kZ (u.getD i 0)),.fr (kZ.is (u.getD i 0)),.fr (kVZ.is v),.fr (kN6.is (i:Int)),.fr (VP.pim kZ (v.getD i 0)),.fr (kZ.is (v.getD i 0)),.fr (kC.is ((u.getD i 0)*(v.getD i 0))),.fr (kC.is ((dotN u v i)+((u.getD i 0)*(v.getD i 0))))]) (aa Z (fun N=>ae Z (mN N 0 Z) Li af Z) (om Z Z (om Z Z (aa Z (fun N=>aU i Z Z U23 af Z (v:=(u.getD i 0)) (gd 0 (by omega))) (aa Z (fun N=>aO Z af) (om Z Z (om Z Z (aa Z (fun N=>aU i Z Z U23 af Z (v:=(v.getD i 0)) (gd 0 (by omega))) (aa Z (fun N=>aO Z af) (aa Z (fun N=>f2 cY Z Z (cW (u.getD i 0) (v.getD i 0))) (aa Z (fun N=>aB el (aj Z (aL ((dotN_Sz hu hv i).sm (by omega))) (aj Z (aL (((hu i).mul (hv i)).sm (by omega))) ar)) (ed (dotN u v i) ((u.getD i 0)*(v.getD i 0)))) oz)))))))))))<|fun σ1=>?_
  refine aE .n (aC (l:=kC) (u:=(dotN u v i)+((u.getD i 0)*(v.getD i 0))) 0 Z Z Z af Z Lr)<|au<|Qb<|ak<|Ws (aR Z Z (c:=((i:Int)+1)) (aH (by omega)))<|Wm Z<|au<|tb 0 Z (y:=(dotN u v (i+1))) Z ?_
  exact bE (i+1) (by omega) (by omega) (ao Z Z Z Z (ac Z (ac Z (az Z (ah (y:=(((i+1):Nat):Int)) (by rfl)) aq))))<|aG _
 ·
  refine Ex<|Cr<|Ws (ae Z (ag 0 Z) Li af Z)<|aE .n (aC (l:=kC) (u:=(dotN u v i)) 1 Z Z Z af Z Lr)<|Wn<|aA<|tb 1 Z (y:=(dotV u v)) (by rw [show i=u.length by omega];rfl) ?_
  exact Qd Z (aY Z (ag 1 Z) af ay) ⟨Z,Z⟩
theorem c_ref05_Dot (n:Nat) (u v:List Int) (hu:SzL n u) (hv:SzL n v) (hn:n+n+u.length≤549755813000) (hl:u.length≤v.length):Fn Tryz.prog 238 [kVZ.is u,kVZ.is v] (kC.is (dotV u v)):=by
 refine aN Tryz.func238 Z Z fun m w=>a8 (i:=0) Z bF fun hB=>a8 (i:=1) Z bF fun hC=>Cr<|aW .n bd fun b1=>Wr<|aW .n bd fun b2=>Wn<|ab<|Cr<|Wa Z<|Wn<|aF<|bJ (fun (i:Nat)=>i≤u.length) (fun (i:Nat)=>[(0,kVZ.is u),(1,kVZ.is v),(4,VP.pt b1 0),(5,VP.pt b2 0),(6,kN6.is (i:Int))]) (fun (i:Nat)=>[OB.box b2 29 kC (dotN u v i),OB.box b1 29 kC 0]) (fun (i:Nat)=>u.length-i) 0 (by omega) (ao Z Z Z Z (az Z (ah (y:=(0:Int)) (by rfl)) aq)) (a9 (OS.keepLe (cm (by rfl)) (OS.keep OS.nil))) ?_
 intro i hi
 refine ab<|Cr<|Wm Z<|Wm Z<|Ws (aJ Z U23)<|Ws (aX Z Z)<|Wm Z ?_
 refine cG 11 Z (fun h_t11=>?_)<|fun h_t11=>?_
 ·
  refine Wg Z Z (cd Z)<|Wg Z Z (cd Z)<|Wg Z Z (aJ Z U23)<|Wg Z Z (aX Z Z)<|Ws (cE Z Z)<|Wn ?_
  refine aM Z (fun h_t16=>?_)<|fun h_t16=>?_
  ·
   refine Ck<|ab<|aF ?_
   refine a5 (Γ:=[.fr (kC.is (dotN u v i)),.fr (kVZ.is u),.fr (kN6.is (i:Int)),.fr (VP.pim kZ (u.getD i 0)),.fr (kZ.is (u.getD i 0)),.fr (kVZ.is v),.fr (kN6.is (i:Int)),.fr (VP.pim kZ (v.getD i 0)),.fr (kZ.is (v.getD i 0)),.fr (kC.is ((u.getD i 0)*(v.getD i 0))),.fr (kC.is ((dotN u v i)+((u.getD i 0)*(v.getD i 0))))]) (aa Z (fun N=>ae Z (mN N 0 Z) Li af Z) (om Z Z (om Z Z (aa Z (fun N=>aU i Z Z U23 af Z (v:=(u.getD i 0)) (gd 0 (by omega))) (aa Z (fun N=>aO Z af) (om Z Z (om Z Z (aa Z (fun N=>aU i Z Z U23 af Z (v:=(v.getD i 0)) (gd 0 (by omega))) (aa Z (fun N=>aO Z af) (aa Z (fun N=>f2 dC Z Z (dy (u.getD i 0) (v.getD i 0))) (aa Z (fun N=>aB fm (aj Z (aL ((dotN_Sz hu hv i).sm (by omega))) (aj Z (aL (((hu i).mul (hv i)).sm (by omega))) ar)) (fe (dotN u v i) ((u.getD i 0)*(v.getD i 0)))) oz)))))))))))<|fun σ1=>?_
   refine aE .n (aC (l:=kC) (u:=(dotN u v i)+((u.getD i 0)*(v.getD i 0))) 0 Z Z Z af Z Lr)<|au<|Qb<|ak<|Wm Z<|Ws (aR Z Z (c:=((i:Int)+1)) (aH (by omega)))<|Wa Z<|au<|tb 0 Z (y:=(dotN u v (i+1))) Z ?_
   exact bE (i+1) (by omega) (by omega) (ao Z Z Z Z (az Z (ah (y:=(((i+1):Nat):Int)) (by rfl)) aq))<|aG _
  ·
   refine Ex<|Cr<|Ws (ae Z (ag 0 Z) Li af Z)<|aE .n (aC (l:=kC) (u:=(dotN u v i)) 1 Z Z Z af Z Lr)<|Wn<|aA<|tb 1 Z (y:=(dotV u v)) (by rw [show i=u.length by omega];rfl) ?_
   exact Qd Z (aY Z (ag 1 Z) af ay) ⟨Z,Z⟩
 ·
  refine Kf Z Z<|Kf Z Z<|Kf Z Z<|Kf Z Z<|Ws (cb Z Z)<|Wn<|dj Z<|Ex<|Cr<|Ws (ae Z (ag 0 Z) Li af Z)<|aE .n (aC (l:=kC) (u:=(dotN u v i)) 1 Z Z Z af Z Lr)<|Wn<|aA<|tb 1 Z (y:=(dotV u v)) (by rw [show i=u.length by omega];rfl) ?_
  exact Qd Z (aY Z (ag 1 Z) af ay) ⟨Z,Z⟩
abbrev gp:=@c_ref05_Dot
theorem c_mat_Dot (n:Nat) (u v:List Int) (hu:SzL n u) (hv:SzL n v) (hn:n+n+u.length≤549755813000):Fn Tryz.prog 252 [kVZ.is u,kVZ.is v] (VP.tup [kC.is (if u.length=v.length then dotV u v else 0),kN6.is (if u.length=v.length then 0 else 8)]):=by
 refine aN Tryz.func252 Z Z fun m w=>a8 (i:=0) Z bF fun hB=>a8 (i:=1) Z bF fun hC=>Cr<|aW .n bd fun b1=>Wa Z<|Wn<|ab<|Cr<|Wm Z<|Ws (aJ Z U23)<|Wm Z<|Ws (aJ Z U23)<|Ws (bG Z Z)<|Wn ?_
 refine aM Z (fun h_t10=>?_)<|fun h_t10=>?_
 ·
  refine Cr<|Ws (bY dQ Z br (.nil _))<|aE .n (aC (l:=kC) (u:=0) 0 Z Z Z af Z Lr)<|Wa Z<|Wn<|aA<|a6 ?_
  have hne:u.length≠v.length:=by omega
  refine tb 0 Z (y:=(if u.length=v.length then dotV u v else 0)) (by rw [if_neg hne])<|tl 5 Z (y:=(if u.length=v.length then 0 else 8)) (by rw [if_neg hne]) ?_
  exact Qd Z (aY Z (ag 0 Z) af (aI Z ay)) ⟨Z,Z⟩
 ·
  refine Ck<|Cr<|Wm Z<|Wm Z<|Ws (f2 fn179 Z Z (c_mat_dot n u v (by assumption) (by assumption) (by assumption) (by omega)))<|aE .n (aC (l:=kC) (u:=dotV u v) 0 Z Z Z af Z Lr)<|Wa Z<|Wn<|aA ?_
  have hne:u.length=v.length:=by omega
  refine tb 0 Z (y:=(if u.length=v.length then dotV u v else 0)) (by rw [if_pos hne])<|tl 5 Z (y:=(if u.length=v.length then 0 else 8)) (by rw [if_pos hne]) ?_
  exact Qd Z (aY Z (ag 0 Z) af (aI Z ay)) ⟨Z,Z⟩
end Fw
namespace Fw
open Go
theorem gde {α:Type} (l:List α) (d:α) {i:Nat} (h:i<l.length):l.getD i d=l[i]:=by simp [List.getD,h]
def rect (b:List (List Int)):Bool:=b.all (fun r=>r.length==(b.getD 0 []).length)
theorem rect_iff {b:List (List Int)}:rect b=true↔∀i,i<b.length→(b.getD i []).length=(b.getD 0 []).length:=by
  simp only [rect,List.all_eq_true,beq_iff_eq]
  constructor
  · intro h i hi
    rw [gde _ _ hi];exact h _ (List.getElem_mem hi)
  · intro h r hr
    obtain ⟨i,hi,rfl⟩:=List.mem_iff_getElem.mp hr
    rw [←h i hi,gde _ _ hi]
theorem rect_no {b:List (List Int)} {i:Nat} (hi:i<b.length) (h:(b.getD i []).length≠(b.getD 0 []).length):¬rect b=true:=fun e=>h (rect_iff.1 e i hi)
def shN (b:List (List Int)):Int:=if rect b=true then (b.length:Int) else 0
def shM (b:List (List Int)):Int:=if rect b=true then ((b.getD 0 []).length:Int) else 0
def shE (b:List (List Int)):Int:=if rect b=true then 0 else 8
theorem sh_no {b:List (List Int)} {i:Nat} (hi:i<b.length) (h:(b.getD i []).length≠(b.getD 0 []).length):shN b=0∧shM b=0∧shE b=8:=by
  have:=rect_no hi h
  simp only [shN,shM,shE,if_neg this];simp
theorem sh_yes {b:List (List Int)} (h:∀i,i<b.length→(b.getD i []).length=(b.getD 0 []).length):shN b=(b.length:Int)∧shM b=((b.getD 0 []).length:Int)∧shE b=0:=by
  have:=rect_iff.2 h
  simp only [shN,shM,shE,if_pos this];simp
theorem sh_nil {b:List (List Int)} (h:b.length=0):shN b=0∧shM b=0∧shE b=0:=by
  have:b=[]:=List.eq_nil_of_length_eq_zero h
  subst this;decide
end Fw
namespace Fw
open Go Go.Proofs
theorem c_mat_Shape (b:List (List Int)):Fn Tryz.prog 82 [kMZ.is b] (VP.tup [kN6.is (shN b),kN6.is (shM b),kN6.is (shE b)]):=by
 refine aN Tryz.func82 Z Z fun m w=>a8 (i:=0) Z bF fun hB=>Cr<|Wa Z<|Wa Z<|Wa Z<|Wn<|ab<|Cr<|Wm Z<|Ws (aJ Z U22)<|Ws (cq Z Z)<|Wn ?_
 refine aM Z (fun h_t9=>?_)<|fun h_t9=>?_
 ·
  refine Cr<|Wa Z<|Wa Z<|Wa Z<|Wn<|aA<|a6 ?_
  have hx:=sh_nil (b:=b) (by omega)
  refine tl 2 Z (y:=(shN b)) (by rw [hx.1])<|tl 3 Z (y:=(shM b)) (by rw [hx.2.1])<|tl 4 Z (y:=(shE b)) (by rw [hx.2.2]) ?_
  exact Qd Z (aI Z (aI Z (aI Z ay))) ⟨Z,Z⟩
 ·
  refine Ck<|ab<|Cr<|Wm Z<|Ws (aJ Z U22)<|Wm Z<|Wn<|aF<|bJ (fun (i:Nat)=>i≤b.length∧∀j,j<i→(b.getD j []).length=(b.getD 0 []).length) (fun (i:Nat)=>[(0,kMZ.is b),(10,kMZ.is b),(11,kN6.is (b.length:Int)),(12,kN6.is (i:Int))]) (fun (i:Nat)=>[]) (fun (i:Nat)=>b.length-i) 0 ⟨Nat.zero_le _,fun j hj=>absurd hj (by omega)⟩ (ac Z (ac Z (ac Z (az Z (ah (y:=(0:Int)) (by rfl)) aq)))) (aG _) ?_
  intro i ⟨hi,hl⟩
  refine Cr<|Ws (aX Z Z)<|Wn<|ab ?_
  refine aM Z (fun h_t13=>?_)<|fun h_t13=>?_
  ·
   refine Ck<|ab<|aF<|Cr<|Ws (aU i Z Z U22 aK Z (v:=(b.getD i [])) (gd [] (by omega)))<|Ws (aO Z aK)<|Wa Z<|Wr<|Wm Z<|Ws (aJ Z U23)<|Wm Z<|Ws (aU 0 Z Z U22 aK Z (v:=(b.getD 0 [])) (gd [] (by omega)))<|Ws (aO Z aK)<|Ws (aJ Z U23)<|Ws (bG Z Z)<|Wn ?_
   refine aM Z (fun h_t22=>?_)<|fun h_t22=>?_
   ·
    refine Cr<|Wa Z<|Wa Z<|Wa Z<|Wn<|aA<|bQ<|a6<|a6<|bQ<|a6 ?_
    have hx:=sh_no (b:=b) (i:=i) (by omega) (by omega)
    refine tl 2 Z (y:=(shN b)) (by rw [hx.1])<|tl 3 Z (y:=(shM b)) (by rw [hx.2.1])<|tl 4 Z (y:=(shE b)) (by rw [hx.2.2]) ?_
    exact Qd Z (aI Z (aI Z (aI Z ay))) ⟨Z,Z⟩
   ·
    refine cx<|Qb<|ak<|Ws (aR Z Z (c:=((i:Int)+1)) (aH (by omega)))<|Wm Z<|au ?_
    exact bE (i+1) (by omega) ⟨by omega,fun j hj=>if e:j=i then by subst e;omega else hl j (by omega)⟩ (ac Z (ac Z (ac Z (az Z (ah (y:=(((i+1):Nat):Int)) (by rfl)) aq))))<|aG _
  ·
   refine Ex<|ab ?_
   refine fj [(0,kMZ.is b),(2,kN6.is (b.length:Int)),(3,kN6.is ((b.getD 0 []).length:Int)),(4,kN6.is 0),(10,kMZ.is b),(11,kN6.is (b.length:Int)),(12,kN6.is (i:Int)),(13,kBool.is (decide ((i:Int)<(b.length:Int)))),(24,kMZ.is b),(25,kN6.is (b.length:Int)),(26,kMZ.is b),(27,VP.pim kVZ (b.getD 0 [])),(28,kVZ.is (b.getD 0 [])),(29,kN6.is ((b.getD 0 []).length:Int))] [] ?_ ?_
   ·
    refine dV (by kernel_rfl)<|bK 0 Z (by kernel_rfl) (by kernel_rfl) (by kernel_rfl) (fun _ _ _ _ _ h=>h) .n (dW Z)<|bK 2 Z (by kernel_rfl) (by kernel_rfl) (by kernel_rfl) (fun _ _ _ _ _ h=>h) .n (dW Z) ?_
    refine bO 1 [3] ⟨?_,⟨?_,trivial⟩⟩
    ·
     refine aT Z .n (aJ Z U22) ?_
     refine bO 3 [6] ⟨?_,⟨?_,trivial⟩⟩
     ·
      refine aT Z .n (aU 0 Z Z U22 aK Z (v:=(b.getD 0 [])) (gd [] (by omega))) ?_
      refine bO 4 [6] ⟨?_,⟨?_,trivial⟩⟩
      ·
       refine aT Z .n (aO Z aK) ?_
       refine bO 5 [6] ⟨?_,⟨?_,trivial⟩⟩
       ·
        refine aT Z .n (aJ Z U23)<|aQ 6<|aT Z .n (bt Z)<|aQ 7<|aT Z .n (bt Z)<|aQ 8<|aT Z .n (bt Z)<|bu (by kernel_rfl) ?_
        exact cH (ao Z Z Z Z (ao Z Z Z Z (ao Z Z Z Z (ac Z (ac Z aq)))))<|aG _
       ·
        refine aT Z .n (bt Z)<|aQ 5<|aT Z .n (aJ Z U23)<|aQ 7<|aT Z .n (bt Z)<|aQ 8<|aT Z .n (bt Z)<|bu (by kernel_rfl) ?_
        exact cH (ao Z Z Z Z (ao Z Z Z Z (ao Z Z Z Z (ac Z (ac Z aq)))))<|aG _
      ·
       refine aT Z .n (bt Z)<|aQ 4<|aT Z .n (aO Z aK)<|aQ 5<|aT Z .n (aJ Z U23)<|aQ 7<|aT Z .n (bt Z)<|aQ 8<|aT Z .n (bt Z)<|bu (by kernel_rfl) ?_
       exact cH (ao Z Z Z Z (ao Z Z Z Z (ao Z Z Z Z (ac Z (ac Z aq)))))<|aG _
     ·
      refine aT Z .n (bt Z)<|aQ 3<|aT Z .n (aU 0 Z Z U22 aK Z (v:=(b.getD 0 [])) (gd [] (by omega)))<|aQ 4<|aT Z .n (aO Z aK)<|aQ 5<|aT Z .n (aJ Z U23)<|aQ 7<|aT Z .n (bt Z)<|aQ 8<|aT Z .n (bt Z)<|bu (by kernel_rfl) ?_
      exact cH (ao Z Z Z Z (ao Z Z Z Z (ao Z Z Z Z (ac Z (ac Z aq)))))<|aG _
    ·
     refine aT Z .n (aU 0 Z Z U22 aK Z (v:=(b.getD 0 [])) (gd [] (by omega))) ?_
     refine bO 1 [4] ⟨?_,⟨?_,trivial⟩⟩
     ·
      refine aT Z .n (aJ Z U22) ?_
      refine bO 4 [6] ⟨?_,⟨?_,trivial⟩⟩
      ·
       refine aT Z .n (aO Z aK) ?_
       refine bO 5 [6] ⟨?_,⟨?_,trivial⟩⟩
       ·
        refine aT Z .n (aJ Z U23)<|aQ 6<|aT Z .n (bt Z)<|aQ 7<|aT Z .n (bt Z)<|aQ 8<|aT Z .n (bt Z)<|bu (by kernel_rfl) ?_
        exact cH (ao Z Z Z Z (ao Z Z Z Z (ao Z Z Z Z (ac Z (ac Z aq)))))<|aG _
       ·
        refine aT Z .n (bt Z)<|aQ 5<|aT Z .n (aJ Z U23)<|aQ 7<|aT Z .n (bt Z)<|aQ 8<|aT Z .n (bt Z)<|bu (by kernel_rfl) ?_
        exact cH (ao Z Z Z Z (ao Z Z Z Z (ao Z Z Z Z (ac Z (ac Z aq)))))<|aG _
      ·
       refine aT Z .n (bt Z)<|aQ 4<|aT Z .n (aO Z aK)<|aQ 5<|aT Z .n (aJ Z U23)<|aQ 7<|aT Z .n (bt Z)<|aQ 8<|aT Z .n (bt Z)<|bu (by kernel_rfl) ?_
       exact cH (ao Z Z Z Z (ao Z Z Z Z (ao Z Z Z Z (ac Z (ac Z aq)))))<|aG _
     ·
      refine aT Z .n (aO Z aK) ?_
      refine bO 1 [5] ⟨?_,⟨?_,trivial⟩⟩
      ·
       refine aT Z .n (aJ Z U22) ?_
       refine bO 5 [6] ⟨?_,⟨?_,trivial⟩⟩
       ·
        refine aT Z .n (aJ Z U23)<|aQ 6<|aT Z .n (bt Z)<|aQ 7<|aT Z .n (bt Z)<|aQ 8<|aT Z .n (bt Z)<|bu (by kernel_rfl) ?_
        exact cH (ao Z Z Z Z (ao Z Z Z Z (ao Z Z Z Z (ac Z (ac Z aq)))))<|aG _
       ·
        refine aT Z .n (bt Z)<|aQ 5<|aT Z .n (aJ Z U23)<|aQ 7<|aT Z .n (bt Z)<|aQ 8<|aT Z .n (bt Z)<|bu (by kernel_rfl) ?_
        exact cH (ao Z Z Z Z (ao Z Z Z Z (ao Z Z Z Z (ac Z (ac Z aq)))))<|aG _
      ·
       refine aT Z .n (aJ Z U23)<|aQ 1<|aT Z .n (aJ Z U22)<|aQ 6<|aT Z .n (bt Z)<|aQ 7<|aT Z .n (bt Z)<|aQ 8<|aT Z .n (bt Z)<|bu (by kernel_rfl) ?_
       exact cH (ao Z Z Z Z (ao Z Z Z Z (ao Z Z Z Z (ac Z (ac Z aq)))))<|aG _
   refine cw<|aA ?_
   have hx:=sh_yes (b:=b) (fun j hj=>hl j (by omega))
   refine tl 2 Z (y:=(shN b)) (by rw [hx.1])<|tl 3 Z (y:=(shM b)) (by rw [hx.2.1])<|tl 4 Z (y:=(shE b)) (by rw [hx.2.2]) ?_
   exact Qd Z (aI Z (aI Z (aI Z ay))) ⟨Z,Z⟩
abbrev gr:=@c_mat_Shape
theorem c_ref04_Shape (b:List (List Int)):Fn Tryz.prog 126 [kMZ.is b] (VP.tup [kN6.is (shN b),kN6.is (shM b),kN6.is (shE b)]):=by
 refine aN Tryz.func126 Z Z fun m w=>a8 (i:=0) Z bF fun hB=>Cr<|Wa Z<|Wa Z<|Wa Z<|Wn<|ab<|Cr<|Wa Z<|Wn<|aF<|bJ (fun (i:Nat)=>i≤b.length∧∀j,j<i→(b.getD j []).length=(b.getD 0 []).length) (fun (i:Nat)=>[(0,kMZ.is b),(5,kN6.is (i:Int))]) (fun (i:Nat)=>[]) (fun (i:Nat)=>b.length-i) 0 ⟨Nat.zero_le _,fun j hj=>absurd hj (by omega)⟩ (ac Z (az Z (ah (y:=(0:Int)) (by rfl)) aq)) (aG _) ?_
 intro i ⟨hi,hl⟩
 refine ab<|Cr<|Wm Z<|Wm Z<|Ws (aJ Z U22)<|Ws (aX Z Z)<|Wn ?_
 refine aM Z (fun h_t9=>?_)<|fun h_t9=>?_
 ·
  refine Ck<|ab<|aF<|ab ?_
  refine a5 (Γ:=[.fr (kMZ.is b),.fr (kN6.is (i:Int)),.fr (VP.pim kVZ (b.getD i [])),.fr (kVZ.is (b.getD i [])),.fr (kN6.is ((b.getD i []).length:Int)),.fr (kMZ.is b),.fr (VP.pim kVZ (b.getD 0 [])),.fr (kVZ.is (b.getD 0 [])),.fr (kN6.is ((b.getD 0 []).length:Int)),.fr (kBool.is (decide (((b.getD i []).length:Int)≠((b.getD 0 []).length:Int))))]) (om Z Z (om Z Z (aa Z (fun N=>aU i Z Z U22 aK Z (v:=(b.getD i [])) (gd [] (by omega))) (aa Z (fun N=>aO Z aK) (aa Z (fun N=>aJ Z U23) (om Z Z (aa Z (fun N=>aU 0 Z Z U22 aK Z (v:=(b.getD 0 [])) (gd [] (by omega))) (aa Z (fun N=>aO Z aK) (aa Z (fun N=>aJ Z U23) (aa Z (fun N=>bG Z Z) oz))))))))))<|fun σ1=>?_
  refine Wn ?_
  refine aM Z (fun h_t21=>?_)<|fun h_t21=>?_
  ·
   refine Cr<|Wa Z<|Wa Z<|Wa Z<|Wn<|aA<|bQ<|a6<|a6<|bQ<|a6 ?_
   have hx:=sh_no (b:=b) (i:=i) (by omega) (by omega)
   refine tl 2 Z (y:=(shN b)) (by rw [hx.1])<|tl 3 Z (y:=(shM b)) (by rw [hx.2.1])<|tl 4 Z (y:=(shE b)) (by rw [hx.2.2]) ?_
   exact Qd Z (aI Z (aI Z (aI Z ay))) ⟨Z,Z⟩
  ·
   refine cx<|Qb<|ak<|Wm Z<|Ws (aR Z Z (c:=((i:Int)+1)) (aH (by omega)))<|Wa Z<|au ?_
   exact bE (i+1) (by omega) ⟨by omega,fun j hj=>if e:j=i then by subst e;omega else hl j (by omega)⟩ (ac Z (az Z (ah (y:=(((i+1):Nat):Int)) (by rfl)) aq))<|aG _
 ·
  refine Ex<|ab<|Cr<|Wm Z<|Ws (aJ Z U22)<|Ws (cq Z Z)<|Wn ?_
  refine aM Z (fun h_t24=>?_)<|fun h_t24=>?_
  ·
   refine Cr<|Wa Z<|Wa Z<|Wa Z<|Wn<|aA<|a6 ?_
   have hx:=sh_nil (b:=b) (by omega)
   refine tl 2 Z (y:=(shN b)) (by rw [hx.1])<|tl 3 Z (y:=(shM b)) (by rw [hx.2.1])<|tl 4 Z (y:=(shE b)) (by rw [hx.2.2]) ?_
   exact Qd Z (aI Z (aI Z (aI Z ay))) ⟨Z,Z⟩
  ·
   refine Ck<|ab ?_
   refine fj [(0,kMZ.is b),(2,kN6.is (b.length:Int)),(3,kN6.is ((b.getD 0 []).length:Int)),(4,kN6.is 0),(5,kN6.is (i:Int)),(6,kN6.is (i:Int)),(7,kMZ.is b),(8,kN6.is (b.length:Int)),(9,kBool.is (decide ((i:Int)<(b.length:Int)))),(22,kMZ.is b),(23,kN6.is (b.length:Int)),(24,kBool.is (decide ((b.length:Int)=0))),(25,kMZ.is b),(26,kN6.is (b.length:Int)),(27,kMZ.is b),(28,VP.pim kVZ (b.getD 0 [])),(29,kVZ.is (b.getD 0 [])),(30,kN6.is ((b.getD 0 []).length:Int))] [] ?_ ?_
   ·
    refine dV (by kernel_rfl)<|bK 0 Z (by kernel_rfl) (by kernel_rfl) (by kernel_rfl) (fun _ _ _ _ _ h=>h) .n (dW Z)<|bK 2 Z (by kernel_rfl) (by kernel_rfl) (by kernel_rfl) (fun _ _ _ _ _ h=>h) .n (dW Z) ?_
    refine bO 1 [3] ⟨?_,⟨?_,trivial⟩⟩
    ·
     refine aT Z .n (aJ Z U22) ?_
     refine bO 3 [6] ⟨?_,⟨?_,trivial⟩⟩
     ·
      refine aT Z .n (aU 0 Z Z U22 aK Z (v:=(b.getD 0 [])) (gd [] (by omega))) ?_
      refine bO 4 [6] ⟨?_,⟨?_,trivial⟩⟩
      ·
       refine aT Z .n (aO Z aK) ?_
       refine bO 5 [6] ⟨?_,⟨?_,trivial⟩⟩
       ·
        refine aT Z .n (aJ Z U23)<|aQ 6<|aT Z .n (bt Z)<|aQ 7<|aT Z .n (bt Z)<|aQ 8<|aT Z .n (bt Z)<|bu (by kernel_rfl) ?_
        exact cH (ao Z Z Z Z (ao Z Z Z Z (ao Z Z Z Z (ao Z Z Z Z (ac Z (ac Z aq))))))<|aG _
       ·
        refine aT Z .n (bt Z)<|aQ 5<|aT Z .n (aJ Z U23)<|aQ 7<|aT Z .n (bt Z)<|aQ 8<|aT Z .n (bt Z)<|bu (by kernel_rfl) ?_
        exact cH (ao Z Z Z Z (ao Z Z Z Z (ao Z Z Z Z (ao Z Z Z Z (ac Z (ac Z aq))))))<|aG _
      ·
       refine aT Z .n (bt Z)<|aQ 4<|aT Z .n (aO Z aK)<|aQ 5<|aT Z .n (aJ Z U23)<|aQ 7<|aT Z .n (bt Z)<|aQ 8<|aT Z .n (bt Z)<|bu (by kernel_rfl) ?_
       exact cH (ao Z Z Z Z (ao Z Z Z Z (ao Z Z Z Z (ao Z Z Z Z (ac Z (ac Z aq))))))<|aG _
     ·
      refine aT Z .n (bt Z)<|aQ 3<|aT Z .n (aU 0 Z Z U22 aK Z (v:=(b.getD 0 [])) (gd [] (by omega)))<|aQ 4<|aT Z .n (aO Z aK)<|aQ 5<|aT Z .n (aJ Z U23)<|aQ 7<|aT Z .n (bt Z)<|aQ 8<|aT Z .n (bt Z)<|bu (by kernel_rfl) ?_
      exact cH (ao Z Z Z Z (ao Z Z Z Z (ao Z Z Z Z (ao Z Z Z Z (ac Z (ac Z aq))))))<|aG _
    ·
     refine aT Z .n (aU 0 Z Z U22 aK Z (v:=(b.getD 0 [])) (gd [] (by omega))) ?_
     refine bO 1 [4] ⟨?_,⟨?_,trivial⟩⟩
     ·
      refine aT Z .n (aJ Z U22) ?_
      refine bO 4 [6] ⟨?_,⟨?_,trivial⟩⟩
      ·
       refine aT Z .n (aO Z aK) ?_
       refine bO 5 [6] ⟨?_,⟨?_,trivial⟩⟩
       ·
        refine aT Z .n (aJ Z U23)<|aQ 6<|aT Z .n (bt Z)<|aQ 7<|aT Z .n (bt Z)<|aQ 8<|aT Z .n (bt Z)<|bu (by kernel_rfl) ?_
        exact cH (ao Z Z Z Z (ao Z Z Z Z (ao Z Z Z Z (ao Z Z Z Z (ac Z (ac Z aq))))))<|aG _
       ·
        refine aT Z .n (bt Z)<|aQ 5<|aT Z .n (aJ Z U23)<|aQ 7<|aT Z .n (bt Z)<|aQ 8<|aT Z .n (bt Z)<|bu (by kernel_rfl) ?_
        exact cH (ao Z Z Z Z (ao Z Z Z Z (ao Z Z Z Z (ao Z Z Z Z (ac Z (ac Z aq))))))<|aG _
      ·
       refine aT Z .n (bt Z)<|aQ 4<|aT Z .n (aO Z aK)<|aQ 5<|aT Z .n (aJ Z U23)<|aQ 7<|aT Z .n (bt Z)<|aQ 8<|aT Z .n (bt Z)<|bu (by kernel_rfl) ?_
       exact cH (ao Z Z Z Z (ao Z Z Z Z (ao Z Z Z Z (ao Z Z Z Z (ac Z (ac Z aq))))))<|aG _
     ·
      refine aT Z .n (aO Z aK) ?_
      refine bO 1 [5] ⟨?_,⟨?_,trivial⟩⟩
      ·
       refine aT Z .n (aJ Z U22) ?_
       refine bO 5 [6] ⟨?_,⟨?_,trivial⟩⟩
       ·
        refine aT Z .n (aJ Z U23)<|aQ 6<|aT Z .n (bt Z)<|aQ 7<|aT Z .n (bt Z)<|aQ 8<|aT Z .n (bt Z)<|bu (by kernel_rfl) ?_
        exact cH (ao Z Z Z Z (ao Z Z Z Z (ao Z Z Z Z (ao Z Z Z Z (ac Z (ac Z aq))))))<|aG _
       ·
        refine aT Z .n (bt Z)<|aQ 5<|aT Z .n (aJ Z U23)<|aQ 7<|aT Z .n (bt Z)<|aQ 8<|aT Z .n (bt Z)<|bu (by kernel_rfl) ?_
        exact cH (ao Z Z Z Z (ao Z Z Z Z (ao Z Z Z Z (ao Z Z Z Z (ac Z (ac Z aq))))))<|aG _
      ·
       refine aT Z .n (aJ Z U23)<|aQ 1<|aT Z .n (aJ Z U22)<|aQ 6<|aT Z .n (bt Z)<|aQ 7<|aT Z .n (bt Z)<|aQ 8<|aT Z .n (bt Z)<|bu (by kernel_rfl) ?_
       exact cH (ao Z Z Z Z (ao Z Z Z Z (ao Z Z Z Z (ao Z Z Z Z (ac Z (ac Z aq))))))<|aG _
   refine cw<|aA ?_
   have hx:=sh_yes (b:=b) (fun j hj=>hl j (by omega))
   refine tl 2 Z (y:=(shN b)) (by rw [hx.1])<|tl 3 Z (y:=(shM b)) (by rw [hx.2.1])<|tl 4 Z (y:=(shE b)) (by rw [hx.2.2]) ?_
   exact Qd Z (aI Z (aI Z (aI Z ay))) ⟨Z,Z⟩
abbrev gJ:=@c_ref04_Shape
theorem c_ref04_Dot (n:Nat) (u v:List Int) (hu:SzL n u) (hv:SzL n v) (hn:n+n+u.length≤549755813000):Fn Tryz.prog 115 [kVZ.is u,kVZ.is v] (VP.tup [kC.is (if u.length=v.length then dotV u v else 0),kN6.is (if u.length=v.length then 0 else 8)]):=by
 refine aN Tryz.func115 Z Z fun m w=>a8 (i:=0) Z bF fun hB=>a8 (i:=1) Z bF fun hC=>Cr<|aW .n bd fun b1=>Wa Z<|Wn<|ab<|Cr<|Wm Z<|Ws (aJ Z U23)<|Wm Z<|Ws (aJ Z U23)<|Ws (bG Z Z)<|Wn ?_
 refine aM Z (fun h_t12=>?_)<|fun h_t12=>?_
 ·
  refine Cr<|Ws (bY dQ Z br (.nil _))<|aE .n (aC (l:=kC) (u:=0) 0 Z Z Z af Z Lr)<|Wa Z<|Wn<|aA<|a6 ?_
  have hne:u.length≠v.length:=by omega
  refine tb 0 Z (y:=(if u.length=v.length then dotV u v else 0)) (by rw [if_neg hne])<|tl 5 Z (y:=(if u.length=v.length then 0 else 8)) (by rw [if_neg hne]) ?_
  exact Qd Z (aY Z (ag 0 Z) af (aI Z ay)) ⟨Z,Z⟩
 ·
  refine Ck<|ab ?_
  have hne:u.length=v.length:=by omega
  refine ak<|Ws (aB dO (aj Z (cP (by omega)) ar) (dM 0))<|Ax (l:=kC) (u:=0) bd Z af (fun _=>Z) Lr fun b2=>Wn<|ab<|Cr<|Wa Z<|Wn<|aF<|bJ (fun (i:Nat)=>i≤u.length) (fun (i:Nat)=>[(0,kVZ.is u),(1,kVZ.is v),(4,VP.pt b1 0),(6,VP.pt b2 0),(7,kN6.is (i:Int))]) (fun (i:Nat)=>[OB.box b2 29 kC (dotN u v i),OB.box b1 29 kC 0]) (fun (i:Nat)=>u.length-i) 0 (by omega) (ao Z Z Z Z (az Z (ah (y:=(0:Int)) (by rfl)) aq)) (a9 (OS.keepLe (cm (by rfl)) (OS.keep OS.nil))) ?_
  intro i hi
  refine ab<|Cr<|Wm Z<|Wm Z<|Ws (aJ Z U23)<|Ws (aX Z Z)<|Wn ?_
  refine aM Z (fun h_t18=>?_)<|fun h_t18=>?_
  ·
   refine Ck<|ab<|aF ?_
   refine a5 (Γ:=[.fr (kC.is (dotN u v i)),.fr (kVZ.is u),.fr (kN6.is (i:Int)),.fr (VP.pim kZ (u.getD i 0)),.fr (kZ.is (u.getD i 0)),.fr (kVZ.is v),.fr (kN6.is (i:Int)),.fr (VP.pim kZ (v.getD i 0)),.fr (kZ.is (v.getD i 0)),.fr (kC.is ((u.getD i 0)*(v.getD i 0))),.fr (kC.is ((dotN u v i)+((u.getD i 0)*(v.getD i 0))))]) (aa Z (fun N=>ae Z (mN N 0 Z) Li af Z) (om Z Z (om Z Z (aa Z (fun N=>aU i Z Z U23 af Z (v:=(u.getD i 0)) (gd 0 (by omega))) (aa Z (fun N=>aO Z af) (om Z Z (om Z Z (aa Z (fun N=>aU i Z Z U23 af Z (v:=(v.getD i 0)) (gd 0 (by omega))) (aa Z (fun N=>aO Z af) (aa Z (fun N=>f2 dC Z Z (dy (u.getD i 0) (v.getD i 0))) (aa Z (fun N=>aB fm (aj Z (aL ((dotN_Sz hu hv i).sm (by omega))) (aj Z (aL (((hu i).mul (hv i)).sm (by omega))) ar)) (fe (dotN u v i) ((u.getD i 0)*(v.getD i 0)))) oz)))))))))))<|fun σ1=>?_
   refine aE .n (aC (l:=kC) (u:=(dotN u v i)+((u.getD i 0)*(v.getD i 0))) 0 Z Z Z af Z Lr)<|au<|Qb<|ak<|Wm Z<|Ws (aR Z Z (c:=((i:Int)+1)) (aH (by omega)))<|Wa Z<|au<|tb 0 Z (y:=(dotN u v (i+1))) Z ?_
   exact bE (i+1) (by omega) (by omega) (ao Z Z Z Z (az Z (ah (y:=(((i+1):Nat):Int)) (by rfl)) aq))<|aG _
  ·
   refine Ex<|Cr<|Ws (ae Z (ag 0 Z) Li af Z)<|aE .n (aC (l:=kC) (u:=(dotN u v i)) 1 Z Z Z af Z Lr)<|Wa Z<|Wn<|aA<|tb 1 Z (y:=(if u.length=v.length then dotV u v else 0)) (by rw [if_pos hne,show i=u.length by omega];rfl)<|tl 5 Z (y:=(if u.length=v.length then 0 else 8)) (by rw [if_pos hne]) ?_
   exact Qd Z (aY Z (ag 1 Z) af (aI Z ay)) ⟨Z,Z⟩
theorem c_mat_Bits (b:List (List Int)):Fn Tryz.prog 212 [kMZ.is b] (kN6.is (mbits b)):=by
 refine aN Tryz.func212 Z Z fun m w=>a8 (i:=0) Z bF fun hB=>Cr<|Wa Z<|Wr<|Wa Z<|Wn<|ab<|Cr<|Wm Z<|Ws (aJ Z U22)<|Wm Z<|Wn<|aF<|bJ (fun (i:Nat)=>i≤b.length) (fun (i:Nat)=>[(0,kMZ.is b),(3,kN6.is ((b.take i).foldl vbN 0)),(8,kMZ.is b),(9,kN6.is (b.length:Int)),(10,kN6.is (i:Int))]) (fun (i:Nat)=>[]) (fun (i:Nat)=>b.length-i) 0 (by omega) (ac Z (az Z (ah (y:=((b.take 0).foldl vbN 0)) (by rfl)) (ac Z (ac Z (az Z (ah (y:=(0:Int)) (by rfl)) aq))))) (aG _) ?_
 intro i hi
 refine Cr<|Ws (aX Z Z)<|Wn<|ab ?_
 refine aM Z (fun h_t11=>?_)<|fun h_t11=>?_
 ·
  refine Ck<|ab<|aF<|Cr<|Ws (aU i Z Z U22 aK Z (v:=(b.getD i [])) (gd [] (by omega)))<|Ws (aO Z aK)<|Wa Z<|Wr<|a8 (i:=5) Z bF fun hlk=>Wm Z<|Ws (aJ Z U23)<|Wm Z<|Wn<|aF<|bJ (fun (k:Nat)=>k≤(b.getD i []).length) (fun (k:Nat)=>[(0,kMZ.is b),(3,kN6.is (vbN ((b.take i).foldl vbN 0) ((b.getD i []).take k))),(8,kMZ.is b),(9,kN6.is (b.length:Int)),(10,kN6.is (i:Int)),(14,kVZ.is (b.getD i [])),(15,kN6.is ((b.getD i []).length:Int)),(16,kN6.is (k:Int))]) (fun (k:Nat)=>[]) (fun (k:Nat)=>(b.getD i []).length-k) 0 (by omega) (ac Z (az Z (ah (y:=(vbN ((b.take i).foldl vbN 0) ((b.getD i []).take 0))) (by rfl)) (ao Z Z Z Z (ac Z (az Z (ah (y:=(0:Int)) (by rfl)) aq))))) (aG _) ?_
  intro k hk
  refine Cr<|Ws (aX Z Z)<|Wn<|ab ?_
  refine aM Z (fun h_t17=>?_)<|fun h_t17=>?_
  ·
   refine Ck<|ab<|aF<|Cr<|Ws (aU k Z Z U23 af Z (v:=((b.getD i []).getD k 0)) (gd 0 (by omega)))<|Ws (aO Z af)<|Ax (l:=kZ) (u:=((b.getD i []).getD k 0)) bd Z af (fun _=>Z) Lr fun b1=>Wn<|ak<|Wm Z<|Ws (ae Z (ag 0 Z) Li af Z)<|Ws (f1 fn188 Z (c_zint_Bits ((b.getD i []).getD k 0)))<|Ws (O.mx Z Z)<|Wa Z<|au<|Qb<|ak<|Ws (aR Z Z (c:=((k:Int)+1)) (aH (by omega)))<|Wm Z ?_
   refine au<|tl 3 Z (y:=(vbN ((b.take i).foldl vbN 0) ((b.getD i []).take (k+1)))) (vbN_s (by omega)) ?_
   exact bE (k+1) (by omega) (by omega) (ao Z Z Z Z (ac Z (ac Z (ac Z (az Z (ah (y:=(((k+1):Nat):Int)) (by rfl)) aq)))))<|fL<|List.nil_sublist _
  ·
   refine dS<|da<|da<|dR<|Qb<|ak<|Ws (aR Z Z (c:=((i:Int)+1)) (aH (by omega)))<|Wm Z<|au<|tl 3 Z (y:=((b.take (i+1)).foldl vbN 0)) (mb_done (by omega) (by omega)) ?_
   exact bE (i+1) (by omega) (by omega) (ao Z Z Z Z (az Z (ah (y:=(((i+1):Nat):Int)) (by rfl)) aq))<|aG _
 ·
  refine Ex<|Cr<|Wm Z<|Wa Z<|Wn<|aA<|tl 2 Z (y:=(mbits b)) (by rw [List.take_of_length_le (by omega)];rfl) ?_
  exact Qd Z (aI Z ay) ⟨Z,Z⟩
end Fw
namespace Fw
open Go
theorem gsE_frac {G:Nat→Nat→Int} (hs:SymG G) {k:Nat} (hp:PosU G k) {i j:Nat} (hi:k≤i) (hj:k≤j):gsE (qG G) k i j=(uE G k i j:Rat)/(uD G k:Rat):=by
  have h:=ugs hs k hp
  have h1:=h.e i j hi hj
  have h2:uD G k≠0:=by have:=hp.uD (Nat.le_refl k);omega
  have h3:=rat_ne h2
  rw [h1,h.d];rw [h.d] at h3;grind
theorem gsE_pos {G:Nat→Nat→Int} (hs:SymG G) {k:Nat} (hp:PosU G k):0<gsE (qG G) k k k↔0<uE G k k k:=by
  have h2:0<uD G k:=hp.uD (Nat.le_refl k)
  have h1:=gsE_frac hs hp (Nat.le_refl k) (Nat.le_refl k)
  have hd:(0:Rat)<(uD G k:Rat):=by exact_mod_cast h2
  have hne:=rat_ne (show uD G k≠0 by omega)
  have e:(uE G k k k:Rat)=gsE (qG G) k k k*(uD G k:Rat):=by rw [h1];grind
  constructor
  · intro h
    have:(0:Rat)<(uE G k k k:Rat):=by rw [e];exact Rat.mul_pos h hd
    exact_mod_cast this
  · intro h
    have h4:(0:Rat)<(uE G k k k:Rat):=by exact_mod_cast h
    rw [h1,Rat.div_def];exact Rat.mul_pos h4 (Rat.inv_pos.2 hd)
def szU (n:Nat):Nat→Nat
  | 0=>n
  | k+1=>2*szU n k+1
theorem uE_Sz {G:Nat→Nat→Int} (hs:SymG G) {n:Nat} (hn:∀i j,Sz n (G i j)) {K:Nat} (hp:PosU G K):∀k,k≤K→∀i j,k≤i→k≤j→Sz (szU n k) (uE G k i j)
  | 0,_,i,j,_,_=>hn i j
  | k+1,hk,i,j,hi,hj=>by
    have ih:=uE_Sz hs hn hp k (by omega)
    have hx:=(ugs hs K hp).x k (by omega) i j (by omega) (by omega) (by omega) (by omega)
    have hd:0<uD G k:=hp.uD (by omega)
    have h1:=Sz.add1 (((ih k k (Nat.le_refl _) (Nat.le_refl _)).mul (ih i j (by omega) (by omega)))) ((((ih i k (by omega) (Nat.le_refl _)).mul (ih j k (by omega) (Nat.le_refl _)))).neg)
    have e:uE G k k k*uE G k i j + -(uE G k i k*uE G k j k)=uE G (k+1) i j*uD G k:=by
      rw [hx];show _=uE G k k k*uE G k i j-_;omega
    rw [e] at h1
    have h2:=h1.le (y:=uE G (k+1) i j) (by
      rw [Int.natAbs_mul];exact Nat.le_mul_of_pos_right _ (by omega))
    exact h2.up (by simp only [szU];omega)
def combN (x:List Int) (b:List (List Int)) (k:Nat):Nat→Int
  | 0=>0
  | i+1=>combN x b k i+x.getD i 0*(b.getD i []).getD k 0
theorem combN_Sz {n m x b} (hx:SzL n x) (hb:∀i,SzL m (b.getD i [])) (k):∀i,Sz (n+m+i) (combN x b k i)
  | 0=>Sz.zero _
  | i+1=>Sz.add1 (combN_Sz hx hb k i) (((hx i).mul (hb i k)).up (show n+m≤n+m+i by omega))
def combP (x:List Int) (b:List (List Int)) (i k0:Nat):List Int:=(List.range (b.getD 0 []).length).map (fun k=>combN x b k (if k<k0 then i+1 else i))
def combV (x:List Int) (b:List (List Int)):List Int:=(List.range (b.getD 0 []).length).map (fun k=>combN x b k b.length)
theorem combP_len (x b i k0):(combP x b i k0).length=(b.getD 0 []).length:=by simp [combP]
theorem combP_get {x b i k0} (h:k0<(b.getD 0 []).length):(combP x b i k0).getD k0 0=combN x b k0 i:=by
  rw [gde _ 0 (by rw [combP_len];exact h)];simp [combP]
theorem combP_set {x b i k0} (h:k0<(b.getD 0 []).length):(combP x b i k0).set k0 (combN x b k0 i+x.getD i 0*(b.getD i []).getD k0 0)=combP x b i (k0+1):=by
  apply List.ext_getElem
  · simp [combP]
  · intro k h1 h2
    simp only [List.getElem_set,combP,List.getElem_map,List.getElem_range]
    by_cases e:k0=k
    · subst e;rw [if_pos rfl,if_pos (by omega)];rfl
    · rw [if_neg e]
      by_cases e2:k<k0
      · rw [if_pos e2,if_pos (by omega)]
      · rw [if_neg e2,if_neg (by omega)]
theorem combP_row {x b i k0} (h:(b.getD 0 []).length≤k0):combP x b i k0=combP x b (i+1) 0:=by
  apply List.map_congr_left
  intro k hk
  have:=List.mem_range.1 hk
  rw [if_pos (by omega),if_neg (by omega)]
theorem combP_zero (x b):combP x b 0 0=List.replicate (b.getD 0 []).length 0:=by
  apply List.ext_getElem
  · simp [combP]
  · intro k h1 h2;simp [combP,combN]
theorem combP_end (x) (b:List (List Int)):combP x b b.length 0=combV x b:=by
  apply List.map_congr_left
  intro k hk;rw [if_neg (by omega)]
theorem slsl_len {α:Type} {k:Kd α} {b:List (List α)} (m:Mem) (v:Value) (h:((kSl (kSl k)).is b).p m v):∀i,(b.getD i []).length≤1099511627776:=by
  intro i
  obtain ⟨a,cap,rfl,h1,h2,h3⟩:=Kd.is_sl h
  by_cases hi:i<b.length
  · rcases h3 with rfl | ⟨g,o,c,cells,rfl,e1,e2,e3⟩
    · simp at hi
    · have:=e3.get i hi
      obtain ⟨a',cap',_,h4,_⟩:=this
      rw [gde _ [] hi];exact h4
  · have e:b.getD i []=[]:=by simp [List.getD,Nat.le_of_not_lt hi]
    rw [e];simp
abbrev fg:=@slsl_len
def RectL (b:List (List Int)):Prop:=∀i,i<b.length→(b.getD i []).length=(b.getD 0 []).length
def SzM (n:Nat) (b:List (List Int)):Prop:=∀i,SzL n (b.getD i [])
theorem combV_len (x b):(combV x b).length=(b.getD 0 []).length:=by simp [combV]
theorem combV_get {x b k} (h:k<(b.getD 0 []).length):(combV x b).getD k 0=combN x b k b.length:=by
  rw [gde _ 0 (by rw [combV_len];exact h)];simp [combV]
theorem combP_at {x b i k} (h:k<(b.getD 0 []).length):(combP x b i k)[k]?=some (combN x b k i):=by
  rw [gd (l:=combP x b i k) (i:=k) 0 (by rw [combP_len];exact h),combP_get h]
theorem combV_nil (x) {b:List (List Int)} (h:b.length=0):combV x b=[]:=by
  have:=List.eq_nil_of_length_eq_zero h;subst this;rfl
def combOk (x:List Int) (b:List (List Int)):Prop:=rect b=true∧x.length=b.length
instance (x b):Decidable (combOk x b):=by unfold combOk;infer_instance
def combA (x:List Int) (b:List (List Int)):List Int:=if combOk x b then combV x b else []
def combE (x:List Int) (b:List (List Int)):Int:=if combOk x b then 0 else 8
theorem comb_yes {x b} (h:combOk x b):combV x b=combA x b∧combE x b=0:=⟨(if_pos h).symm,if_pos h⟩
theorem comb_no {x b} (h:¬combOk x b):combA x b=[]∧combE x b=8:=⟨if_neg h,if_neg h⟩
theorem rectL {b} (h:rect b=true):RectL b:=rect_iff.1 h
theorem rect_of_shE {b} (h:¬shE b≠0):rect b=true:=by
  unfold shE at h
  by_cases e:rect b=true
  · exact e
  · rw [if_neg e] at h;exact absurd (by decide) h
theorem not_rect_of_shE {b} (h:shE b≠0):¬rect b=true:=by
  intro e;unfold shE at h;rw [if_pos e] at h;exact h rfl
def gOk (G:Nat→Nat→Int) (n:Nat):Bool:=(List.range n).all (fun i=>decide (0<uE G i i i))
def gDs (G:Nat→Nat→Int) (n:Nat):List Int:=(List.range (n+1)).map (uD G)
def gRow (G:Nat→Nat→Int) (i m:Nat):List Int:=(List.range m).map (fun j=>uE G j i j)
def gLs (G:Nat→Nat→Int) (n:Nat):List (List Int):=(List.range n).map (fun i=>gRow G i i)
theorem gOk_iff {G n}:gOk G n=true↔PosU G n:=by
  unfold gOk PosU;simp
theorem gRow_len (G i m):(gRow G i m).length=m:=by simp [gRow]
theorem gRow_get {G i m j} (h:j<m):(gRow G i m).getD j 0=uE G j i j:=by
  rw [gde _ 0 (by rw [gRow_len];exact h)];simp [gRow]
theorem gRow_app (G i m):gRow G i m++[uE G m i m]=gRow G i (m+1):=by
  simp [gRow,List.range_succ]
theorem gRow_take (G i m):(gRow G i (m+1)).take m=gRow G i m:=by
  rw [←gRow_app,List.take_left' (gRow_len G i m)]
theorem gDs_len (G n):(gDs G n).length=n+1:=by simp [gDs]
theorem gDs_get {G n k} (h:k≤n):(gDs G n).getD k 0=uD G k:=by
  rw [gde _ 0 (by rw [gDs_len];omega)];simp [gDs]
theorem gDs_app (G n):gDs G n++[uE G n n n]=gDs G (n+1):=by
  simp [gDs,List.range_succ];rfl
theorem gLs_len (G n):(gLs G n).length=n:=by simp [gLs]
theorem gLs_get {G n k} (h:k<n):(gLs G n).getD k []=gRow G k k:=by
  rw [gde _ [] (by rw [gLs_len];omega)];simp [gLs]
theorem gLs_app (G n):gLs G n++[gRow G n n]=gLs G (n+1):=by
  simp [gLs,List.range_succ]
def gram (b:List (List Int)):Nat→Nat→Int:=fun i j=>dotV (b.getD i []) (b.getD j [])
theorem gram_sym {b} (h:RectL b) {i j} (hi:i<b.length) (hj:j<b.length):gram b i j=gram b j i:=dotV_comm (by rw [h i hi,h j hj])
theorem dotV_nilr (u:List Int):dotV u []=0:=by
  have:∀i,dotN u [] i=0:=by
    intro i
    induction i with
    | zero=>rfl
    | succ i ih=>simp [dotN,ih]
  exact this _
theorem gram_symG {b} (h:RectL b):SymG (gram b):=by
  intro i j
  by_cases hi:i<b.length
  · by_cases hj:j<b.length
    · exact gram_sym h hi hj
    · have e:b.getD j []=[]:=by simp [List.getD,Nat.le_of_not_lt hj]
      unfold gram;rw [e,dotV_nilr];rfl
  · have e:b.getD i []=[]:=by simp [List.getD,Nat.le_of_not_lt hi]
    unfold gram;rw [e,dotV_nilr];rfl
theorem row_le {b:List (List Int)} (h:RectL b) {m:Nat} (hc:(b.getD 0 []).length≤m) (i:Nat):(b.getD i []).length≤m:=by
  by_cases hi:i<b.length
  · rw [h i hi];exact hc
  · have e:b.getD i []=[]:=by simp [List.getD,Nat.le_of_not_lt hi]
    rw [e];simp
theorem gram_Sz {n m b} (hb:SzM n b) (h:RectL b) (hc:(b.getD 0 []).length≤m) (i j:Nat):Sz (n+n+m) (gram b i j):=
  (dotN_Sz (hb i) (hb j) _).up (by have:=row_le h hc i;omega)
theorem szU_eq (n):∀k,szU n k+1=2^k*(n+1)
  | 0=>by simp [szU]
  | k+1=>by rw [szU,Nat.pow_succ,Nat.mul_comm (2^k) 2,Nat.mul_assoc,←szU_eq n k];omega
theorem szU_le (n) {k:Nat} (h:k≤12):szU n k≤4096*(n+1):=by
  have h1:=szU_eq n k
  have h2:2^k≤2^12:=Nat.pow_le_pow_right (by decide) h
  have h3:=Nat.mul_le_mul_right (n+1) h2
  omega
theorem gDs_at {G n k} (h:k≤n):(gDs G n)[k]?=some (uD G k):=by
  have:=gDs_get (G:=G) h;rw [gd (l:=gDs G n) (i:=k) 0 (by rw [gDs_len];omega),this]
abbrev dv:=@gDs_at
theorem gRow_at {G i m j} (h:j<m):(gRow G i m)[j]?=some (uE G j i j):=by
  have:=gRow_get (G:=G) (i:=i) h;rw [gd (l:=gRow G i m) (i:=j) 0 (by rw [gRow_len];omega),this]
theorem gLs_at {G n i k} (hi:i<n) (h:k<i):((gLs G n).getD i [])[k]?=some (uE G k i k):=by
  rw [gLs_get hi];exact gRow_at h
abbrev fQ:=@gLs_at
def gsoV (G:Nat→Nat→Int) (n:Nat):List Int×List (List Int):=if gOk G n=true then (gDs G n,gLs G n) else ([],[])
theorem gso_yes {G n} (h:PosU G n):gOk G n=true∧gsoV G n=(gDs G n,gLs G n):=⟨gOk_iff.2 h,if_pos (gOk_iff.2 h)⟩
theorem gso_no {G n i} (hi:i<n) (h:(uE G i i i).sign≤0):gOk G n=false∧gsoV G n=([],[]):=by
  have e:¬gOk G n=true:=fun e=>by
    have h1:=gOk_iff.1 e i hi
    have:=Int.sign_eq_one_of_pos h1
    omega
  exact ⟨by simpa using e,if_neg e⟩
theorem posU_succ {G i} (h:PosU G i) (hs:¬(uE G i i i).sign≤0):PosU G (i+1):=by
  intro l hl
  by_cases e:l=i
  · subst e
    rcases Int.lt_trichotomy (uE G l l l) 0 with h1 | h1 | h1
    · rw [Int.sign_eq_neg_one_of_neg h1] at hs;omega
    · rw [h1] at hs;simp at hs
    · exact h1
  · exact h l (by omega)
theorem uD_Sz {G:Nat→Nat→Int} (hs:SymG G) {n:Nat} (hn:∀i j,Sz n (G i j)) {K:Nat} (hp:PosU G K):∀k,k≤K→Sz (szU n k+1) (uD G k)
  | 0,_=>by
    show (1:Int).natAbs<2^(n+1)
    have:=Nat.one_le_two_pow (n:=n)
    rw [Nat.pow_succ];simp;omega
  | k+1,hk=>(uE_Sz hs hn hp k (by omega) k k (Nat.le_refl _) (Nat.le_refl _)).up (by simp only [szU];omega)
end Fw
namespace Fw
open Go Go.Proofs
theorem c_mat_combine (n:Nat) (x:List Int) (b:List (List Int)) (hx:SzL n x) (hb:SzM n b) (hr:RectL b) (hl:b.length≤x.length) (hn:n+n+b.length≤549755813000):Fn Tryz.prog 118 [kVZ.is x,kMZ.is b] (kVC.is (combV x b)):=by
 refine aN Tryz.func118 Z Z fun m w=>a8 (i:=0) Z bF fun hA=>a8 (i:=1) Z bF fun hB=>Cr<|Wa Z<|Wn<|ab<|Cr<|Wm Z<|Ws (aJ Z U22)<|Ws (cq Z Z)<|Wn ?_
 refine aM Z (fun h_t12=>?_)<|fun h_t12=>?_
 ·
  refine ab<|dA (q:=kVC.is (combV x b)) 4 Z (d9 (dU _) (ah (combV_nil x (by omega)).symm))<|ak<|Wa Z<|Wn<|aA<|a6<|dA (q:=kVC.is (combV x b)) 4 Z (d9 (dU _) (ah (combV_nil x (by omega)).symm)) ?_
  exact Qd Z (aI Z ay) ⟨Z,Z⟩
 ·
  refine Ck<|Cr<|Wm Z<|Ws (aU 0 Z Z U22 aK Z (v:=(b.getD 0 [])) (gd [] (by (first | omega | (simp only [combP_len];have:=hr i (by omega);omega)))))<|Ws (aO Z aK)<|a8 (i:=15) Z bF fun hlr=>Ws (aJ Z U23)<|bH ((b.getD 0 []).length) .n Z Z Z (by (first | omega | (simp only [combP_len];have:=hr i (by omega);omega))) U23 bv bd fun v1=>Wa Z<|Wn<|ab<|Cr<|Wm Z<|Ws (aJ Z U22)<|Wm Z<|Wn<|aF<|tr 0 Z (y:=(combP x b 0 0)) (combP_zero x b).symm<|bJ (fun (i:Nat)=>i≤b.length) (fun (i:Nat)=>[(0,kVZ.is x),(1,kMZ.is b),(5,VP.ex v1),(18,kMZ.is b),(19,kN6.is (b.length:Int)),(20,kN6.is (i:Int))]) (fun (i:Nat)=>[OB.row v1 29 kC (combP x b i 0)]) (fun (i:Nat)=>b.length-i) 0 (by omega) (ao Z Z Z Z (ac Z (az Z (ah (y:=(0:Int)) (by rfl)) aq))) (aG _) ?_
  intro i hi
  refine Cr<|Ws (aX Z Z)<|Wn<|ab ?_
  refine aM Z (fun h_t21=>?_)<|fun h_t21=>?_
  ·
   refine Ck<|ab<|aF<|Cr<|Wm Z<|Ws (aU i Z Z U22 aK Z (v:=(b.getD i [])) (gd [] (by (first | omega | (simp only [combP_len];have:=hr i (by omega);omega)))))<|Ws (aO Z aK)<|Wa Z<|Wa Z<|Wr<|a8 (i:=7) Z bF fun hlk=>Wm Z<|Ws (aJ Z U23)<|Wm Z<|Wn<|aF<|bJ (fun (k:Nat)=>k≤(b.getD i []).length) (fun (k:Nat)=>[(0,kVZ.is x),(1,kMZ.is b),(5,VP.ex v1),(6,kN6.is (i:Int)),(7,kVZ.is (b.getD i [])),(18,kMZ.is b),(19,kN6.is (b.length:Int)),(20,kN6.is (i:Int)),(25,kVZ.is (b.getD i [])),(26,kN6.is ((b.getD i []).length:Int)),(27,kN6.is (k:Int))]) (fun (k:Nat)=>[OB.row v1 29 kC (combP x b i k)]) (fun (k:Nat)=>(b.getD i []).length-k) 0 (by omega) (ao Z Z Z Z (ao Z Z Z Z (ac Z (ac Z (az Z (ah (y:=(0:Int)) (by rfl)) aq))))) (aG _) ?_
   intro k hk
   refine Cr<|Ws (aX Z Z)<|Wn<|ab ?_
   refine aM Z (fun h_t28=>?_)<|fun h_t28=>?_
   ·
    refine Ck<|ab<|aF<|Cr<|Wm Z<|Ws (aU k Z Z U23 af Z (v:=((b.getD i []).getD k 0)) (gd 0 (by (first | omega | (simp only [combP_len];have:=hr i (by omega);omega)))))<|Ws (aO Z af)<|aW .n bd fun b2=>Wa Z<|aE .n (aC (l:=kZ) (u:=((b.getD i []).getD k 0)) 0 Z Z Z af Z Lr)<|Wn ?_
    refine a5 (Γ:=[.fr (VP.ex v1),.fr (kN6.is (k:Int)),.fr (VP.ex v1),.fr (kN6.is (k:Int)),.fr (VP.pel v1 (k*2)),.fr (kC.is (combN x b k i)),.fr (kVZ.is x),.fr (kN6.is (i:Int)),.fr (VP.pim kZ (x.getD i 0)),.fr (kZ.is (x.getD i 0)),.fr (kZ.is ((b.getD i []).getD k 0)),.fr (kC.is ((x.getD i 0)*((b.getD i []).getD k 0))),.fr (kC.is ((combN x b k i)+((x.getD i 0)*((b.getD i []).getD k 0)))),.fr (VP.pel v1 (k*2))]) (om Z Z (om Z Z (om Z Z (om Z Z (aa Z (fun N=>bb (k:=kC) (xs:=(combP x b i k)) (n:=(k:Int)) k Z Z (mN N 1 Z) U23 af Z (by (first | omega | (simp only [combP_len];have:=hr i (by omega);omega)))) (aa Z (fun N=>bp (k:=kC) (xs:=(combP x b i k)) k Z (mN N 1 Z) Li (ho:=Z) (y:=(combN x b k i)) (combP_at (by have:=hr i (by omega);omega)) af Z) (om Z Z (om Z Z (aa Z (fun N=>aU i Z Z U23 af Z (v:=(x.getD i 0)) (gd 0 (by (first | omega | (simp only [combP_len];have:=hr i (by omega);omega))))) (aa Z (fun N=>aO Z af) (aa Z (fun N=>ae Z (mN N 0 Z) Li af Z) (aa Z (fun N=>f2 cY Z Z (cW (x.getD i 0) ((b.getD i []).getD k 0))) (aa Z (fun N=>aB el (aj Z (aL ((combN_Sz hx hb k i).sm (by omega))) (aj Z (aL (((hx i).mul (hb i k)).sm (by omega))) ar)) (ed (combN x b k i) ((x.getD i 0)*((b.getD i []).getD k 0)))) (aa Z (fun N=>bb (k:=kC) (xs:=(combP x b i k)) (n:=(k:Int)) k Z Z (mN N 1 Z) U23 af Z (by (first | omega | (simp only [combP_len];have:=hr i (by omega);omega)))) oz))))))))))))))<|fun σ1=>?_
    refine aE .n (co 1 k Z Z Li Z (y0:=((combP x b i k).getD k 0)) (gd 0 (by (first | omega | (simp only [combP_len];have:=hr i (by omega);omega)))) af Z Lr)<|au<|Qb<|ak<|Ws (aR Z Z (c:=((k:Int)+1)) (aH (by omega)))<|Wm Z<|au<|tr 1 Z (y:=(combP x b i (k+1))) (combP_set (by have:=hr i (by omega);omega)) ?_
    exact bE (k+1) (by omega) (by omega) (ao Z Z Z Z (ao Z Z Z Z (ac Z (ac Z (az Z (ah (y:=(((k+1):Nat):Int)) (by rfl)) aq)))))<|a9<|OS.skip<|OS.keep OS.nil
   ·
    refine dS<|da<|da<|dR<|Qb<|ak<|Ws (aR Z Z (c:=((i:Int)+1)) (aH (by omega)))<|Wm Z<|au<|tr 0 Z (y:=(combP x b (i+1) 0)) (combP_row (by have:=hr i (by omega);omega)) ?_
    exact bE (i+1) (by omega) (by omega) (ao Z Z Z Z (ac Z (az Z (ah (y:=(((i+1):Nat):Int)) (by rfl)) aq)))<|aG _
  ·
   refine Ex<|Cr<|Wm Z<|Wa Z<|Wn<|aA<|bL 0 Z (kp 0 Z (kp 1 Z (.hit (i:=4) Z (.hit (i:=5) Z (kp 18 Z (kp 19 Z (kp 20 Z (kp 21 Z (.hit (i:=48) Z .nil)))))))))<|tl 4 Z (y:=(combV x b)) (by rw [show i=b.length by omega,combP_end]) ?_
   exact Qd Z (aI Z ay) ⟨Z,Z⟩
theorem c_mat_Combine (n:Nat) (x:List Int) (b:List (List Int)) (hx:SzL n x) (hb:SzM n b) (hn:n+n+b.length≤549755813000):Fn Tryz.prog 55 [kVZ.is x,kMZ.is b] (VP.tup [kVC.is (combA x b),kN6.is (combE x b)]):=by
 refine aN Tryz.func55 Z Z fun m w=>a8 (i:=0) Z bF fun hA=>a8 (i:=1) Z bF fun hB=>Cr<|Wa Z<|Wa Z<|Wr<|Wm Z<|Ws (f1 fn82 Z (gr b))<|Wm Z<|Ws (aP Z Z)<|Ws (aP Z Z)<|Ws (aP Z Z)<|Wa Z<|Wa Z<|Wa Z<|Wn<|ab<|ab ?_
 refine ak<|Wm Z<|Ws (bG Z Z)<|Wm Z ?_
 refine cG 17 Z (fun h_t17=>?_)<|fun h_t17=>?_
 ·
  have hno:¬combOk x b:=fun h=>not_rect_of_shE h_t17 h.1
  refine Kt Z Z<|Kt Z Z<|Kt Z Z<|Kt Z Z<|Ws (cE Z Z)<|Wn<|fi Z<|Cr<|Wa Z<|Wa Z<|Wn<|aA<|a6<|dA (q:=kVC.is (combA x b)) 4 Z (d9 (dU _) (ah (comb_no hno).1.symm))<|tl 5 Z (y:=(combE x b)) (comb_no hno).2.symm ?_
  exact Qd Z (aI Z (aI Z ay)) ⟨Z,Z⟩
 ·
  refine Wg Z Z (cd Z)<|Wg Z Z (aJ Z U23)<|Wg Z Z (cd Z)<|Wg Z Z (bG Z Z)<|Ws (cb Z Z)<|Wn ?_
  refine aM Z (fun h_t22=>?_)<|fun h_t22=>?_
  ·
   refine Cr<|Wa Z<|Wa Z<|Wn<|aA<|a6 ?_
   have hno:¬combOk x b:=fun h=>h_t22 (by rw [h.2];unfold shN;rw [if_pos h.1])
   refine dA (q:=kVC.is (combA x b)) 4 Z (d9 (dU _) (ah (comb_no hno).1.symm))<|tl 5 Z (y:=(combE x b)) (comb_no hno).2.symm ?_
   exact Qd Z (aI Z (aI Z ay)) ⟨Z,Z⟩
  ·
   refine Ck<|ab ?_
   have hok:combOk x b:=⟨rect_of_shE h_t17,by have h:=h_t22;unfold shN at h;rw [if_pos (rect_of_shE h_t17)] at h;omega⟩
   refine ak<|Wm Z<|Wm Z<|Ws (f2 fn118 Z Z (c_mat_combine n x b (by assumption) (by assumption) (rectL hok.1) (by have:=hok.2;omega) (by assumption)))<|Wa Z<|Wa Z<|Wn<|aA<|tl 4 Z (y:=(combA x b)) (comb_yes hok).1<|tl 5 Z (y:=(combE x b)) (comb_yes hok).2.symm ?_
   exact Qd Z (aI Z (aI Z ay)) ⟨Z,Z⟩
theorem c_gso_built (n:Nat) (b:List (List Int)) (hb:SzM n b) (hr:RectL b) (hl:b.length≤12) (hc:(b.getD 0 []).length≤12) (hn:n≤4194304):Fn Tryz.prog 204 [kMZ.is b] (VP.tup [kGso.is (gsoV (gram b) b.length),kBool.is (gOk (gram b) b.length)]):=by
 refine aN Tryz.func204 Z Z fun m w=>a8 (i:=0) Z bF fun hB=>a8 (i:=0) Z fg fun hlc=>?_
 have hs:=gram_symG hr
 have hz:∀i j,Sz (n+n+12) (gram b i j):=fun i j=>gram_Sz hb hr hc i j
 have hU:∀k,k≤12→szU (n+n+12) k≤34359902208:=fun k hk=>by have:=szU_le (n+n+12) hk;omega
 refine Cr<|aW .n eo fun b1=>Wa Z<|Wr<|Ws (aB eG (aj Z (cP (by omega)) ar) (ew 1))<|WP.bso .n U23 bv (bV Z bA) Z (by decide) fun v2=>bo 0 Z fun hcell_=>Ws (bY cO Z (bC Z (bn (by assumption)) br) (.cons Z (aD Li) (.nil _)))<|Ax (l:=(kPair kVal kVal)) (u:=(v2,(.slice none 0 0))) c8 Z bl (fun _=>Z) Lr fun b3=>Wn<|ab<|Cr<|Wm Z<|Ws (aJ Z U22)<|Wm Z<|Wn ?_
 refine aF<|bT 23 kVC<|dz (fun (i:Nat) (vD:Value) (vL:Value)=>i≤b.length∧PosU (gram b) i) (fun (i:Nat) (vD:Value) (vL:Value)=>[(0,kMZ.is b),(2,VP.pt b1 0),(3,kBool.is false),(4,VP.pt b3 0),(16,kN6.is (b.length:Int)),(17,kN6.is (i:Int))]) (fun (i:Nat) (vD:Value) (vL:Value)=>[OB.row vL 23 kVC (gLs (gram b) i),OB.box b3 25 (kPair kVal kVal) (vD,vL),OB.row vD 29 kC (gDs (gram b) i),OB.box b1 25 kGso ([],[])]) (fun (i:Nat) (vD:Value) (vL:Value)=>b.length-i) 0 v2 (.slice none 0 0) ⟨Nat.zero_le _,fun l hl=>absurd hl (by omega)⟩ (ao Z Z Z Z (ac Z (az Z (ah (y:=(0:Int)) (by rfl)) aq))) (a9 (OS.keepLe (bi (by rfl)) (OS.keep (OS.keepLe (bi (by rfl)) (OS.keep OS.nil))))) ?_
 intro i vD vL ⟨hi,hP⟩
 refine Cr<|Ws (aX Z Z)<|Wn<|ab ?_
 refine aM Z (fun h_t18=>?_)<|fun h_t18=>?_
 ·
  refine Ck<|ab<|aF<|Cr<|Wm Z<|Wa Z<|Wr<|Wm Z<|Ws (aR Z Z (c:=((i:Int)+1)) (aH (by omega)))<|fS ((((i:Int)+1)).toNat) .n Z Z (by omega) (by omega) U23 bv bd fun v4=>Wa Z<|Wn<|ab<|Cr<|Wa Z<|Wn ?_
  refine aF<|bU (fun (j:Nat) (v:Value)=>j≤i+1) (fun (j:Nat) (v:Value)=>[(0,kMZ.is b),(2,VP.pt b1 0),(3,kBool.is false),(4,VP.pt b3 0),(5,kN6.is (i:Int)),(6,VP.ex v),(7,kN6.is (j:Int)),(16,kN6.is (b.length:Int)),(17,kN6.is (i:Int))]) (fun (j:Nat) (v:Value)=>[OB.row v 29 kC (gRow (gram b) i j),OB.row vL 23 kVC (gLs (gram b) i),OB.box b3 25 (kPair kVal kVal) (vD,vL),OB.row vD 29 kC (gDs (gram b) i),OB.box b1 25 kGso ([],[])]) (fun (j:Nat) (v:Value)=>i+1-j) 0 v4 (by omega) (ao Z Z Z Z (ac Z (ac Z (az Z (ah (y:=(0:Int)) (by rfl)) (ac Z (ac Z aq)))))) (a9 (OS.keepLe (bi (by rfl)) (OS.keep (OS.keep (OS.keep (OS.keep OS.nil)))))) ?_
  intro j v hj
  refine ab<|Cr<|Wm Z<|Wm Z<|Ws (dL Z Z)<|Wn ?_
  refine aM Z (fun h_t25=>?_)<|fun h_t25=>?_
  ·
   refine Ck<|ab<|aF<|ab ?_
   have hi2:i<b.length:=by omega
   refine a5 (Γ:=[.fr (kMZ.is b),.fr (kN6.is (i:Int)),.fr (VP.pim kVZ (b.getD i [])),.fr (kVZ.is (b.getD i [])),.fr (kMZ.is b),.fr (kN6.is (j:Int)),.fr (VP.pim kVZ (b.getD j [])),.fr (kVZ.is (b.getD j [])),.fr (VP.tup [kC.is (uE (gram b) 0 i j),kN6.is 0]),.fr (VP.tup [kC.is (uE (gram b) 0 i j),kN6.is 0]),.fr (kC.is (uE (gram b) 0 i j)),.lt (kN6.is 0),.al (fun b=>OB.box b 29 kC 0)]) (om Z Z (om Z Z (aa Z (fun N=>aU i Z Z U22 aK Z (v:=(b.getD i [])) (gd [] (by omega))) (aa Z (fun N=>aO Z aK) (om Z Z (om Z Z (aa Z (fun N=>aU j Z Z U22 aK Z (v:=(b.getD j [])) (gd [] (by omega))) (aa Z (fun N=>aO Z aK) (aa Z (fun N=>aV (f2 fn252 Z Z (c_mat_Dot n (b.getD i []) (b.getD j []) (hb _) (hb _) (by have:=row_le hr hc i;omega))) (tup_le (fF (ah (if_pos (by rw [hr i (by omega),hr j (by omega)]))) (fF (ah (if_pos (by rw [hr i (by omega),hr j (by omega)]))) tup_nil)))) (om Z Z (aa Z (fun N=>aP Z Z) (oc (dc Z .n (dw Z Z)) (oc (cR Z bd) oz)))))))))))))<|fun σ1=>?_
   refine aE .n (aC (l:=kC) (u:=uE (gram b) 0 i j) 0 Z Z Z af Z Lr)<|Wa Z<|Wn<|ab<|Cr<|Wa Z<|Wn<|aF<|bU (fun (k:Nat) (p:Nat)=>k≤j) (fun (k:Nat) (p:Nat)=>[(0,kMZ.is b),(2,VP.pt b1 0),(3,kBool.is false),(4,VP.pt b3 0),(5,kN6.is (i:Int)),(6,VP.ex v),(7,kN6.is (j:Int)),(8,VP.pt p 0),(10,kN6.is (k:Int)),(16,kN6.is (b.length:Int)),(17,kN6.is (i:Int))]) (fun (k:Nat) (p:Nat)=>[OB.box p 29 kC (uE (gram b) k i j),OB.row v 29 kC (gRow (gram b) i j),OB.row vL 23 kVC (gLs (gram b) i),OB.box b3 25 (kPair kVal kVal) (vD,vL),OB.row vD 29 kC (gDs (gram b) i),OB.box b1 25 kGso ([],[])]) (fun (k:Nat) (p:Nat)=>j-k) 0 (σ1 12) (by omega) (ao Z Z Z Z (ao Z Z Z Z (az Z (ah (y:=(0:Int)) (by rfl)) (ac Z (ac Z aq))))) (aG _) ?_
   intro k p hk
   refine ab<|Cr<|Wm Z<|Wm Z<|Ws (aX Z Z)<|Wn ?_
   refine aM Z (fun h_t42=>?_)<|fun h_t42=>?_
   ·
    refine Ck<|ab<|aF<|ab ?_
    have hE:=uE_Sz hs hz hP
    have hD:=uD_Sz hs hz hP
    have hUk:=hU k (by omega)
    refine ak<|Wm Z<|Wa Z<|Wn<|ab<|Cr<|Wm Z<|Wm Z<|Ws (aX Z Z)<|Wn ?_
    refine aM Z (fun h_t48=>?_)<|fun h_t48=>?_
    ·
     refine ak<|Ws (aw Z ct Z)<|Ws (aV (ae (p:=kVal.is vL) Z (ag 3 Z) (am Li) bf Z) (bc _))<|Wm Z<|Ws (bb (k:=kVC) (xs:=(gLs (gram b) i)) (n:=(j:Int)) j Z Z (ag 2 Z) U22 aK Z (by simp only [gRow_len,gDs_len,gLs_len];omega))<|Ws (bp j Z (ag 2 Z) Li Z (y:=((gLs (gram b) i).getD j [])) (gd [] (by simp only [gRow_len,gDs_len,gLs_len];omega)) aK Z)<|Wa Z<|Wn<|ab ?_
     refine a5 (Γ:=[.fr (VP.pt b3 0),.fr (VP.ex vD),.fr (kN6.is (k:Int)),.fr (kN6.is ((k:Int)+1)),.fr (VP.pel vD ((((k:Int)+1)).toNat*2)),.fr (kC.is (uD (gram b) (k+1))),.fr (kC.is (uE (gram b) k i j)),.fr (kC.is ((uD (gram b) (k+1))*(uE (gram b) k i j))),.fr (VP.ex v),.fr (kN6.is (k:Int)),.fr (VP.pel v (k*2)),.fr (kC.is (uE (gram b) k i k)),.fr (kVC.is ((gLs (gram b) i).getD j [])),.fr (kN6.is (k:Int)),.fr (VP.pim kC (uE (gram b) k j k)),.fr (kC.is (uE (gram b) k j k)),.fr (kC.is ((uE (gram b) k i k)*(uE (gram b) k j k))),.fr (kC.is (((uD (gram b) (k+1))*(uE (gram b) k i j))-((uE (gram b) k i k)*(uE (gram b) k j k))))]) (aa Z (fun N=>aw Z cK Z) (aa Z (fun N=>aV (ae (p:=kVal.is vD) Z (mN N 3 Z) (aD Li) aK Z) (bc _)) (om Z Z (aa Z (fun N=>aR Z Z (c:=((k:Int)+1)) (aH (by omega))) (aa Z (fun N=>bb (k:=kC) (xs:=(gDs (gram b) i)) (n:=((k:Int)+1)) ((((k:Int)+1)).toNat) Z Z (mN N 4 Z) U23 af (by omega) (by simp only [gRow_len,gDs_len,gLs_len];omega)) (aa Z (fun N=>bp (k:=kC) (xs:=(gDs (gram b) i)) ((((k:Int)+1)).toNat) Z (mN N 4 Z) Li (ho:=Z) (y:=(uD (gram b) (k+1))) (dv (by omega)) af Z) (aa Z (fun N=>ae Z (mN N 0 Z) Li af Z) (aa Z (fun N=>aB cY (aj Z (aL ((hE k (by omega) k k (by omega) (by omega)).sm (by omega))) (aj Z (aL ((hE k (by omega) i j (by omega) (by omega)).sm (by omega))) ar)) (cW (uD (gram b) (k+1)) (uE (gram b) k i j))) (om Z Z (om Z Z (aa Z (fun N=>bb (k:=kC) (xs:=(gRow (gram b) i j)) (n:=(k:Int)) k Z Z (mN N 1 Z) U23 af Z (by simp only [gRow_len,gDs_len,gLs_len];omega)) (aa Z (fun N=>bp (k:=kC) (xs:=(gRow (gram b) i j)) k Z (mN N 1 Z) Li (ho:=Z) (y:=(uE (gram b) k i k)) (gRow_at (by omega)) af Z) (om Z Z (om Z Z (aa Z (fun N=>aU k Z Z U23 af Z (v:=(uE (gram b) k j k)) (fQ (by omega) (by omega))) (aa Z (fun N=>aO Z af) (aa Z (fun N=>aB cY (aj Z (aL ((hE k (by omega) i k (by omega) (by omega)).sm (by omega))) (aj Z (aL ((hE k (by omega) j k (by omega) (by omega)).sm (by omega))) ar)) (cW (uE (gram b) k i k) (uE (gram b) k j k))) (aa Z (fun N=>aB fn213 (aj Z (aL (((hE k (by omega) k k (by omega) (by omega)).mul (hE k (by omega) i j (by omega) (by omega))).sm (by omega))) (aj Z (aL (((hE k (by omega) i k (by omega) (by omega)).mul (hE k (by omega) j k (by omega) (by omega))).sm (by omega))) ar)) (f9 ((uD (gram b) (k+1))*(uE (gram b) k i j)) ((uE (gram b) k i k)*(uE (gram b) k j k)))) oz))))))))))))))))))<|fun σ2=>?_
     refine aE .n (aC (l:=kC) (u:=((uD (gram b) (k+1))*(uE (gram b) k i j))-((uE (gram b) k i k)*(uE (gram b) k j k))) 0 Z Z Z af Z Lr)<|Wn ?_
     refine a5 (Γ:=[.fr (kC.is (((uD (gram b) (k+1))*(uE (gram b) k i j))-((uE (gram b) k i k)*(uE (gram b) k j k)))),.fr (VP.pt b3 0),.fr (VP.ex vD),.fr (kN6.is (k:Int)),.fr (VP.pel vD (k*2)),.fr (kC.is (uD (gram b) k)),.fr (VP.tup [kC.is ((((uD (gram b) (k+1))*(uE (gram b) k i j))-((uE (gram b) k i k)*(uE (gram b) k j k))).fdiv (uD (gram b) k)),kC.is (if (uD (gram b) k)=0 then 0 else (((uD (gram b) (k+1))*(uE (gram b) k i j))-((uE (gram b) k i k)*(uE (gram b) k j k))).fmod (uD (gram b) k)),kN6.is (if (uD (gram b) k)=0 then 11 else 0)]),.fr (VP.tup [kC.is ((((uD (gram b) (k+1))*(uE (gram b) k i j))-((uE (gram b) k i k)*(uE (gram b) k j k))).fdiv (uD (gram b) k)),kC.is (if (uD (gram b) k)=0 then 0 else (((uD (gram b) (k+1))*(uE (gram b) k i j))-((uE (gram b) k i k)*(uE (gram b) k j k))).fmod (uD (gram b) k)),kN6.is (if (uD (gram b) k)=0 then 11 else 0)]),.fr (kC.is ((((uD (gram b) (k+1))*(uE (gram b) k i j))-((uE (gram b) k i k)*(uE (gram b) k j k))).fdiv (uD (gram b) k))),.lt (kC.is (if (uD (gram b) k)=0 then 0 else (((uD (gram b) (k+1))*(uE (gram b) k i j))-((uE (gram b) k i k)*(uE (gram b) k j k))).fmod (uD (gram b) k))),.lt (kN6.is (if (uD (gram b) k)=0 then 11 else 0))]) (aa Z (fun N=>ae Z (mN N 0 Z) Li af Z) (aa Z (fun N=>aw Z cK Z) (aa Z (fun N=>aV (ae (p:=kVal.is vD) Z (mN N 3 Z) (aD Li) aK Z) (bc _)) (om Z Z (aa Z (fun N=>bb (k:=kC) (xs:=(gDs (gram b) i)) (n:=(k:Int)) k Z Z (mN N 4 Z) U23 af Z (by simp only [gRow_len,gDs_len,gLs_len];omega)) (aa Z (fun N=>bp (k:=kC) (xs:=(gDs (gram b) i)) k Z (mN N 4 Z) Li (ho:=Z) (y:=(uD (gram b) k)) (dv (by omega)) af Z) (aa Z (fun N=>aB fn214 (aj Z (aL ((((hE k (by omega) k k (by omega) (by omega)).mul (hE k (by omega) i j (by omega) (by omega))).sub ((hE k (by omega) i k (by omega) (by omega)).mul (hE k (by omega) j k (by omega) (by omega)))).sm (by omega))) (aj Z (aL ((hD k (by omega)).sm (by omega))) ar)) (fW (((uD (gram b) (k+1))*(uE (gram b) k i j))-((uE (gram b) k i k)*(uE (gram b) k j k))) (uD (gram b) k))) (om Z Z (aa Z (fun N=>aP Z Z) (oc (dc Z .n (dw Z Z)) (oc (dc Z .n (dw Z Z)) oz)))))))))))<|fun σ3=>?_
     refine aE .n (aC (l:=kC) (u:=(((uD (gram b) (k+1))*(uE (gram b) k i j))-((uE (gram b) k i k)*(uE (gram b) k j k))).fdiv (uD (gram b) k)) 0 Z Z Z af Z Lr)<|au<|Qb<|ak<|Wm Z<|Ws (aR Z Z (c:=((k:Int)+1)) (aH (by omega)))<|Wa Z<|au<|tb 0 Z (y:=(uE (gram b) (k+1) i j)) (uE_succ _ k i j).symm ?_
     exact bS (k+1) p (by omega) (by omega) (ao Z Z Z Z (ao Z Z Z Z (az Z (ah (y:=(((k+1):Nat):Int)) (by rfl)) (ac Z (ac Z aq)))))<|aG _
    ·
     refine Ck<|ab ?_
     refine a5 (Γ:=[.fr (VP.pt b3 0),.fr (VP.ex vD),.fr (kN6.is (k:Int)),.fr (kN6.is ((k:Int)+1)),.fr (VP.pel vD ((((k:Int)+1)).toNat*2)),.fr (kC.is (uD (gram b) (k+1))),.fr (kC.is (uE (gram b) k i j)),.fr (kC.is ((uD (gram b) (k+1))*(uE (gram b) k i j))),.fr (VP.ex v),.fr (kN6.is (k:Int)),.fr (VP.pel v (k*2)),.fr (kC.is (uE (gram b) k i k)),.fr (VP.ex v),.fr (kN6.is (k:Int)),.fr (VP.pel v (k*2)),.fr (kC.is (uE (gram b) k j k)),.fr (kC.is ((uE (gram b) k i k)*(uE (gram b) k j k))),.fr (kC.is (((uD (gram b) (k+1))*(uE (gram b) k i j))-((uE (gram b) k i k)*(uE (gram b) k j k))))]) (aa Z (fun N=>aw Z cK Z) (aa Z (fun N=>aV (ae (p:=kVal.is vD) Z (mN N 3 Z) (aD Li) aK Z) (bc _)) (om Z Z (aa Z (fun N=>aR Z Z (c:=((k:Int)+1)) (aH (by omega))) (aa Z (fun N=>bb (k:=kC) (xs:=(gDs (gram b) i)) (n:=((k:Int)+1)) ((((k:Int)+1)).toNat) Z Z (mN N 4 Z) U23 af (by omega) (by simp only [gRow_len,gDs_len,gLs_len];omega)) (aa Z (fun N=>bp (k:=kC) (xs:=(gDs (gram b) i)) ((((k:Int)+1)).toNat) Z (mN N 4 Z) Li (ho:=Z) (y:=(uD (gram b) (k+1))) (dv (by omega)) af Z) (aa Z (fun N=>ae Z (mN N 0 Z) Li af Z) (aa Z (fun N=>aB cY (aj Z (aL ((hE k (by omega) k k (by omega) (by omega)).sm (by omega))) (aj Z (aL ((hE k (by omega) i j (by omega) (by omega)).sm (by omega))) ar)) (cW (uD (gram b) (k+1)) (uE (gram b) k i j))) (om Z Z (om Z Z (aa Z (fun N=>bb (k:=kC) (xs:=(gRow (gram b) i j)) (n:=(k:Int)) k Z Z (mN N 1 Z) U23 af Z (by simp only [gRow_len,gDs_len,gLs_len];omega)) (aa Z (fun N=>bp (k:=kC) (xs:=(gRow (gram b) i j)) k Z (mN N 1 Z) Li (ho:=Z) (y:=(uE (gram b) k i k)) (gRow_at (by omega)) af Z) (om Z Z (om Z Z (aa Z (fun N=>bb (k:=kC) (xs:=(gRow (gram b) i j)) (n:=(k:Int)) k Z Z (mN N 1 Z) U23 af Z (by simp only [gRow_len,gDs_len,gLs_len];omega)) (aa Z (fun N=>bp (k:=kC) (xs:=(gRow (gram b) i j)) k Z (mN N 1 Z) Li (ho:=Z) (y:=(uE (gram b) k j k)) (by rw [show j=i by omega];exact gRow_at (by omega)) af Z) (aa Z (fun N=>aB cY (aj Z (aL ((hE k (by omega) i k (by omega) (by omega)).sm (by omega))) (aj Z (aL ((hE k (by omega) j k (by omega) (by omega)).sm (by omega))) ar)) (cW (uE (gram b) k i k) (uE (gram b) k j k))) (aa Z (fun N=>aB fn213 (aj Z (aL (((hE k (by omega) k k (by omega) (by omega)).mul (hE k (by omega) i j (by omega) (by omega))).sm (by omega))) (aj Z (aL (((hE k (by omega) i k (by omega) (by omega)).mul (hE k (by omega) j k (by omega) (by omega))).sm (by omega))) ar)) (f9 ((uD (gram b) (k+1))*(uE (gram b) k i j)) ((uE (gram b) k i k)*(uE (gram b) k j k)))) oz))))))))))))))))))<|fun σ4=>?_
     refine aE .n (aC (l:=kC) (u:=((uD (gram b) (k+1))*(uE (gram b) k i j))-((uE (gram b) k i k)*(uE (gram b) k j k))) 0 Z Z Z af Z Lr)<|Wn ?_
     refine a5 (Γ:=[.fr (kC.is (((uD (gram b) (k+1))*(uE (gram b) k i j))-((uE (gram b) k i k)*(uE (gram b) k j k)))),.fr (VP.pt b3 0),.fr (VP.ex vD),.fr (kN6.is (k:Int)),.fr (VP.pel vD (k*2)),.fr (kC.is (uD (gram b) k)),.fr (VP.tup [kC.is ((((uD (gram b) (k+1))*(uE (gram b) k i j))-((uE (gram b) k i k)*(uE (gram b) k j k))).fdiv (uD (gram b) k)),kC.is (if (uD (gram b) k)=0 then 0 else (((uD (gram b) (k+1))*(uE (gram b) k i j))-((uE (gram b) k i k)*(uE (gram b) k j k))).fmod (uD (gram b) k)),kN6.is (if (uD (gram b) k)=0 then 11 else 0)]),.fr (VP.tup [kC.is ((((uD (gram b) (k+1))*(uE (gram b) k i j))-((uE (gram b) k i k)*(uE (gram b) k j k))).fdiv (uD (gram b) k)),kC.is (if (uD (gram b) k)=0 then 0 else (((uD (gram b) (k+1))*(uE (gram b) k i j))-((uE (gram b) k i k)*(uE (gram b) k j k))).fmod (uD (gram b) k)),kN6.is (if (uD (gram b) k)=0 then 11 else 0)]),.fr (kC.is ((((uD (gram b) (k+1))*(uE (gram b) k i j))-((uE (gram b) k i k)*(uE (gram b) k j k))).fdiv (uD (gram b) k))),.lt (kC.is (if (uD (gram b) k)=0 then 0 else (((uD (gram b) (k+1))*(uE (gram b) k i j))-((uE (gram b) k i k)*(uE (gram b) k j k))).fmod (uD (gram b) k))),.lt (kN6.is (if (uD (gram b) k)=0 then 11 else 0))]) (aa Z (fun N=>ae Z (mN N 0 Z) Li af Z) (aa Z (fun N=>aw Z cK Z) (aa Z (fun N=>aV (ae (p:=kVal.is vD) Z (mN N 3 Z) (aD Li) aK Z) (bc _)) (om Z Z (aa Z (fun N=>bb (k:=kC) (xs:=(gDs (gram b) i)) (n:=(k:Int)) k Z Z (mN N 4 Z) U23 af Z (by simp only [gRow_len,gDs_len,gLs_len];omega)) (aa Z (fun N=>bp (k:=kC) (xs:=(gDs (gram b) i)) k Z (mN N 4 Z) Li (ho:=Z) (y:=(uD (gram b) k)) (dv (by omega)) af Z) (aa Z (fun N=>aB fn214 (aj Z (aL ((((hE k (by omega) k k (by omega) (by omega)).mul (hE k (by omega) i j (by omega) (by omega))).sub ((hE k (by omega) i k (by omega) (by omega)).mul (hE k (by omega) j k (by omega) (by omega)))).sm (by omega))) (aj Z (aL ((hD k (by omega)).sm (by omega))) ar)) (fW (((uD (gram b) (k+1))*(uE (gram b) k i j))-((uE (gram b) k i k)*(uE (gram b) k j k))) (uD (gram b) k))) (om Z Z (aa Z (fun N=>aP Z Z) (oc (dc Z .n (dw Z Z)) (oc (dc Z .n (dw Z Z)) oz)))))))))))<|fun σ5=>?_
     refine aE .n (aC (l:=kC) (u:=(((uD (gram b) (k+1))*(uE (gram b) k i j))-((uE (gram b) k i k)*(uE (gram b) k j k))).fdiv (uD (gram b) k)) 0 Z Z Z af Z Lr)<|au<|Qb<|ak<|Wm Z<|Ws (aR Z Z (c:=((k:Int)+1)) (aH (by omega)))<|Wa Z<|au<|tb 0 Z (y:=(uE (gram b) (k+1) i j)) (uE_succ _ k i j).symm ?_
     exact bS (k+1) p (by omega) (by omega) (ao Z Z Z Z (ao Z Z Z Z (az Z (ah (y:=(((k+1):Nat):Int)) (by rfl)) (ac Z (ac Z aq)))))<|aG _
   ·
    refine Ex<|ak<|Wm Z<|Ws (ae Z (ag 0 Z) Li af Z)<|Ws (bB U23 bv (bV Z bA) Z (by decide))<|bI 1 .n Z Z Z Lr U23 bv (by simp only [gRow_len,gDs_len,gLs_len,List.length_cons,List.length_nil];omega) fun v5=>Wa Z<|au<|Qb<|ak<|Wm Z<|Ws (aR Z Z (c:=((j:Int)+1)) (aH (by omega)))<|Wa Z<|au<|tr 1 Z (y:=(gRow (gram b) i (j+1))) (by rw [show k=j by omega];exact gRow_app (gram b) i j) ?_
    exact bS (j+1) v5 (by omega) (by omega) (ao Z Z Z Z (ac Z (ac Z (az Z (ah (y:=(((j+1):Nat):Int)) (by rfl)) (ac Z (ac Z aq))))))<|a9<|OS.skip<|OS.keep<|OS.keep<|OS.keep<|OS.keep<|OS.keep OS.nil
  ·
   refine Ex<|ab<|ab<|tr 0 Z (y:=(gRow (gram b) i (i+1))) (by rw [show j=i+1 by omega]) ?_
   have hE:=uE_Sz hs hz hP
   have hUi:=hU i (by omega)
   refine ak<|Wm Z<|Wm Z<|Ws (bb (k:=kC) (xs:=(gRow (gram b) i (i+1))) (n:=(i:Int)) i Z Z (ag 0 Z) U23 af Z (by simp only [gRow_len,gDs_len,gLs_len];omega))<|Ws (bp (k:=kC) (xs:=(gRow (gram b) i (i+1))) i Z (ag 0 Z) Li (ho:=Z) (y:=(uE (gram b) i i i)) (gRow_at (by omega)) af Z)<|Ws (aB db (aj Z (aL ((hE i (by omega) i i (by omega) (by omega)).sm (by omega))) ar) (c9 (uE (gram b) i i i)))<|Ws (dL Z Z)<|Wn ?_
   refine aM Z (fun h_t92=>?_)<|fun h_t92=>?_
   ·
    refine Cr<|Ws (bY gI Z br (.nil _))<|aE .n (aC (l:=kGso) (u:=([],[])) 4 Z Z Z bl Z Lr)<|Wa Z<|Wn<|aA<|a6<|bQ<|a6<|a6<|bQ<|a6<|tb 4 Z (y:=(gsoV (gram b) b.length)) (gso_no (by omega) h_t92).2.symm<|tl 3 Z (y:=(gOk (gram b) b.length)) (gso_no (by omega) h_t92).1.symm ?_
    exact Qd Z (aY Z (ag 4 Z) bl (aI Z ay)) ⟨Z,Z⟩
   ·
    refine Ck<|ab ?_
    refine a5 (Γ:=[.fr (VP.pt b3 0),.fr (VP.ex vD),.fr (VP.ex v),.fr (kN6.is (i:Int)),.fr (VP.pel v (i*2)),.fr (kC.is (uE (gram b) i i i)),.fr (kVC.is [(uE (gram b) i i i)])]) (aa Z (fun N=>aw Z cK Z) (aa Z (fun N=>aV (ae (p:=kVal.is vD) Z (mN N 2 Z) (aD Li) aK Z) (bc _)) (om Z Z (om Z Z (aa Z (fun N=>bb (k:=kC) (xs:=(gRow (gram b) i (i+1))) (n:=(i:Int)) i Z Z (mN N 0 Z) U23 af Z (by simp only [gRow_len,gDs_len,gLs_len];omega)) (aa Z (fun N=>bp (k:=kC) (xs:=(gRow (gram b) i (i+1))) i Z (mN N 0 Z) Li (ho:=Z) (y:=(uE (gram b) i i i)) (gRow_at (by omega)) af Z) (aa Z (fun N=>bB U23 bv (bV Z bA) Z (by decide)) oz)))))))<|fun σ6=>?_
    refine bI 3 .n Z Z Z Lr U23 bv (by simp only [gRow_len,gDs_len,gLs_len,List.length_cons,List.length_nil];omega) fun v6=>Ws (aw Z cK Z)<|bo 3 Z fun hcell_=>aE .n (dx 2 Z Z (aD Li) aK Z (bn (by assumption)))<|Wn<|bL 0 Z (kp 0 Z (kp 2 Z (kp 3 Z (kp 4 Z (kp 5 Z (.hit (i:=6) Z (kp 7 Z (kp 16 Z (kp 17 Z (kp 23 Z (kp 24 Z (kp 25 Z (.hit (i:=87) Z (kp 88 Z (kp 89 Z (kp 90 Z (kp 91 Z (kp 92 Z (kp 94 Z (kp 95 Z (.hit (i:=96) Z (kp 97 Z (kp 98 Z (kp 99 Z (kp 100 Z (kp 101 Z (kp 102 Z .nil))))))))))))))))))))))))))) ?_
    refine a5 (Γ:=[.fr (VP.pt b3 1),.fr (VP.ex vL),.fr (kVC.is (gRow (gram b) i (i+1))),.fr (kN6.is (i:Int)),.fr (kN6.is (i:Int)),.fr (kVC.is ((gRow (gram b) i (i+1)).take i)),.fr (kMC.is [((gRow (gram b) i (i+1)).take i)])]) (aa Z (fun N=>aw Z ct Z) (aa Z (fun N=>aV (ae (p:=kVal.is vL) Z (mN N 1 Z) (am Li) bf Z) (bc _)) (om Z Z (om Z Z (om Z Z (aa Z (fun N=>O.sl3 i Z Z Z U23 af Z Z (by simp only [gRow_len,gDs_len,gLs_len];omega)) (aa Z (fun N=>bB U22 c6 (bV Z bA) Z (by decide)) oz)))))))<|fun σ7=>?_
    refine bI 0 .n Z Z Z Lr U22 c6 (by simp only [gRow_len,gDs_len,gLs_len,List.length_cons,List.length_nil];omega) fun v7=>Ws (aw Z ct Z)<|bo 0 Z fun hcell_=>aE .n (dx 1 Z Z (am Li) bf Z (bn (by assumption)))<|au<|Qb<|ak<|Ws (aR Z Z (c:=((i:Int)+1)) (aH (by omega)))<|Wm Z<|au<|tr 2 Z (y:=(gDs (gram b) (i+1))) (gDs_app (gram b) i)<|tr 0 Z (y:=(gLs (gram b) (i+1))) (by rw [gRow_take];exact gLs_app (gram b) i) ?_
    exact dd (i+1) v6 v7 (by omega) ⟨by omega,posU_succ hP h_t92⟩ (ao Z Z Z Z (ac Z (az Z (ah (y:=(((i+1):Nat):Int)) (by rfl)) aq)))<|aG _
 ·
  refine Ex<|ab<|eb (k2:=(kPair kVC kVal)) ((gDs (gram b) i),vL) 2 1 Z Z (fun m_ cs_ h_ c_=>fB m_ cs_ h_ c_) (kp 0 Z (kp 2 Z (kp 3 Z (kp 4 Z (kp 16 Z (kp 17 Z (kp 18 Z .nil)))))))<|eb (k2:=kGso) ((gDs (gram b) i),(gLs (gram b) i)) 0 0 Z Z (fun m_ cs_ h_ c_=>fA m_ cs_ h_ c_) (kp 0 Z (kp 2 Z (kp 3 Z (kp 4 Z (kp 16 Z (kp 17 Z (kp 18 Z .nil))))))) ?_
  have hib:i=b.length:=by omega
  refine ak<|Ws (ae (p:=kGso.is ((gDs (gram b) i),(gLs (gram b) i))) Z (ag 0 Z) Li bl Z)<|aE .n (aC (l:=kGso) (u:=((gDs (gram b) i),(gLs (gram b) i))) 1 Z Z Z bl Z Lr)<|Wa Z<|Wn<|aA<|tb 1 Z (y:=(gsoV (gram b) b.length)) (by rw [hib];rw [hib] at hP;exact (gso_yes hP).2.symm)<|tl 3 Z (y:=(gOk (gram b) b.length)) (by rw [hib] at hP;exact (gso_yes hP).1.symm) ?_
  exact Qd Z (aY Z (ag 1 Z) bl (aI Z ay)) ⟨Z,Z⟩
end Fw
