/- Frame, facts and contracts for ClosePlans. -/
import Derived.Test.YtjbfmocbophmlaaGreatCClosePlansD
set_option exponentiation.threshold 600
set_option linter.unusedVariables false
set_option linter.unusedSimpArgs false
set_option maxRecDepth 20000
set_option maxHeartbeats 1000000
namespace Fw
open Go
instance (G:Fi) (x:Nat):Decidable (lov G x):=inferInstanceAs (Decidable ((3/4:Rat)*frS G (x-1)≤frS G x+frM G x (x-1)*frM G x (x-1)*frS G (x-1)))
def pairV (F:Int→Int→Int) (u v:List Int):List Int:=(List.range u.length).map (fun l=>F (u.getD l 0) (v.getD l 0))
theorem pairV_len (F u v):(pairV F u v).length=u.length:=by simp [pairV]
theorem pairV_get {F u v i} (h:i<u.length):(pairV F u v).getD i 0=F (u.getD i 0) (v.getD i 0):=by
  rw [List.getD_eq_getElem?_getD];simp [pairV,h]
theorem getD_timesV (q:Int) (v:List Int) (i:Nat):(v.map (fun x=>q*x)).getD i 0=q*v.getD i 0:=by
  rw [List.getD_eq_getElem?_getD,List.getD_eq_getElem?_getD,List.getElem?_map]
  cases v[i]? <;> simp
def unitV (n:Nat):List (List Int):=(List.range n).map (fun x=>(List.replicate n 0).set x 1)
theorem unitV_len (n):(unitV n).length=n:=by simp [unitV]
theorem unitV_row {n x} (h:x<n):(unitV n).getD x []=(List.replicate n 0).set x 1:=by
  rw [List.getD_eq_getElem?_getD];simp [unitV,h]
theorem unitV_at (n:Nat) (x i:Nat) (hi:i<n):matF (unitV n) x i=if x=i then 1 else 0:=by
  unfold matF
  by_cases h:x<n
  · rw [unitV_row h,List.getD_eq_getElem?_getD,List.getElem?_set]
    by_cases e:x=i
    · subst e;simp [h]
    · simp [e,hi]
  · rw [if_neg (by omega),List.getD_eq_getElem?_getD (l:=unitV n),List.getElem?_eq_none (by rw [unitV_len];omega)];rfl
structure CU (n:Nat) (U:List (List Int)):Prop where
  len:U.length=n
  row:∀x,x<n→(U.getD x []).length=n
theorem CU_unit (n):CU n (unitV n):=⟨unitV_len n,fun x hx=>by rw [unitV_row hx];simp⟩
def rowU (U:List (List Int)) (k j:Nat) (q:Int):List (List Int):=U.set k (pairV (fun x y=>x+y) (U.getD k []) ((U.getD j []).map (fun x=>q*x)))
theorem getD_setL {α:Type} (l:List α) (i k:Nat) (x d:α) (h:i<l.length):(l.set i x).getD k d=if k=i then x else l.getD k d:=by
  rw [List.getD_eq_getElem?_getD,List.getElem?_set]
  by_cases e:i=k
  · subst e;simp [h]
  · rw [if_neg e,if_neg (fun h=>e h.symm),List.getD_eq_getElem?_getD]
section
variable {n:Nat} {U:List (List Int)}
theorem CU_row (h:CU n U) {k j:Nat} (q:Int) (hk:k<n):CU n (rowU U k j q):=⟨by simp [rowU,h.len],fun x hx=>by
  unfold rowU
  rw [getD_setL _ _ _ _ _ (by rw [h.len];exact hk)]
  split
  · rw [pairV_len];exact h.row k hk
  · exact h.row x hx⟩
theorem matF_rowU (h:CU n U) {k j:Nat} (q:Int) (hk:k<n) (x i:Nat) (hi:i<n):matF (rowU U k j q) x i=rU (matF U) k j q x i:=by
  unfold rowU rU
  show ((U.set k _).getD x []).getD i 0=_
  rw [getD_setL _ _ _ _ _ (by rw [h.len];exact hk)]
  by_cases e:x=k
  · subst e
    rw [if_pos rfl,if_pos rfl,pairV_get (by rw [h.row x hk];exact hi),getD_timesV];rfl
  · rw [if_neg e,if_neg e];show matF U x i=_;omega
def swpU (U:List (List Int)) (p:Nat):List (List Int):=(U.set (p+1) (U.getD p [])).set p (U.getD (p+1) [])
theorem swpU_get (h:CU n U) {p:Nat} (hp:p+1<n) (x:Nat):(swpU U p).getD x []=U.getD (sg p x) []:=by
  unfold swpU
  rw [getD_setL _ _ _ _ _ (by rw [List.length_set,h.len];omega),getD_setL _ _ _ _ _ (by rw [h.len];omega)]
  by_cases e:x=p
  · subst e;rw [if_pos rfl,sg_p]
  · rw [if_neg e]
    by_cases e2:x=p+1
    · subst e2;rw [if_pos rfl,sg_q]
    · rw [if_neg e2,sg_ne e e2]
theorem CU_swp (h:CU n U) {p:Nat} (hp:p+1<n):CU n (swpU U p):=⟨by simp [swpU,h.len],fun x hx=>by
  rw [swpU_get h hp];refine h.row _ ?_
  unfold sg;split
  · omega
  · split <;> omega⟩
end
def gB (M Dm:Int):Int:=4*M*(2+32*Dm*M)^12
structure LB (M Dm:Int) (N:Nat):Prop where
  m1:1≤M
  d1:1≤Dm
  d:Dm≤((2^N:Nat):Int)
  g:gB M Dm≤((2^N:Nat):Int)
  c:bdC (gB M Dm*Dm) (1+12*(gB M Dm*Dm)) 12≤((2^N:Nat):Int)
  n:N≤536870912
theorem Sz_pw {N:Nat} {z:Int} (h1 : -((2^N:Nat):Int)≤z) (h2:z≤((2^N:Nat):Int)):Sz (N+1) z:=by
  show z.natAbs<2^(N+1)
  have:=Nat.two_pow_pos N
  rw [Nat.pow_succ];omega
section
variable {G0 G A:Fi} {n N:Nat} {M Dm:Int}
theorem LB.k1 (h:LB M Dm N):1≤2+32*Dm*M:=by
  have:=Int.mul_pos (show 0<Dm by have:=h.d1;omega) (show 0<M by have:=h.m1;omega)
  rw [Int.mul_assoc];omega
theorem pow_mono {K:Int} (h:1≤K) {m k:Nat} (hm:m≤k):K^m≤K^k:=by
  obtain ⟨c,rfl⟩:=Nat.exists_eq_add_of_le hm
  clear hm
  induction c with
  | zero=>exact Int.le_refl _
  | succ c ih=>
    have h0:0<K^(m+c):=Int.pow_pos (by omega)
    have:=Int.mul_le_mul_of_nonneg_left h (Int.le_of_lt h0)
    rw [show m+(c+1)=(m+c)+1 by omega,Int.pow_succ]
    omega
theorem LB.g4 (h:LB M Dm N) {m:Nat} (hm:m≤12):4*M*(2+32*Dm*M)^m≤gB M Dm:=by
  have h1:=h.k1
  have h2:=h.m1
  unfold gB
  refine Int.mul_le_mul_of_nonneg_left ?_ (by omega)
  exact pow_mono h1 hm
theorem LB.g0 (h:LB M Dm N):4*M≤gB M Dm:=by
  have:=h.g4 (m:=0) (by omega)
  rwa [Int.pow_zero,Int.mul_one] at this
theorem LL.dia {a b:Nat} (h:LL G0 n M Dm G a b) (hB:LB M Dm N):∀x,x<n→G x x≤gB M Dm:=fun x hx=>Int.le_trans (h.z x hx) hB.g0
theorem LR.dia {k j:Nat} (h:LR G0 n M Dm G k j) (hB:LB M Dm N) (hk:k<n) (h12:n≤12):∀x,x<n→G x x≤gB M Dm:=fun x hx=>by
  by_cases e:x=k
  · subst e;exact Int.le_trans h.zk (hB.g4 (by omega))
  · exact Int.le_trans (h.z x hx e) hB.g0
theorem sz_D (h:LC G0 n M Dm G) (hB:LB M Dm N):∀k,k≤n→Sz (4*N+8) (uD G k):=fun k hk=>by
  have h1:=h.d k hk
  have h2:=h.p.uD hk
  have h3:=hB.d
  exact (Sz_pw (N:=N) (by omega) (by omega)).up (by omega)
theorem mul_pw {x y:Int} {a b:Nat} (hx:x≤((2^a:Nat):Int)) (hy:y≤((2^b:Nat):Int)) (h0:0≤x) (h1:0≤y):x*y≤((2^(a+b):Nat):Int):=by
  have:=Int.mul_le_mul hx hy h1 (Int.natCast_nonneg _)
  rw [Nat.pow_add];push_cast at this ⊢;exact this
theorem sz_L (h:LC G0 n M Dm G) (hB:LB M Dm N) (hd:∀x,x<n→G x x≤gB M Dm):∀x k,x<n→k<x→Sz (4*N+8) (uE G k x k):=fun x k hx hk=>by
  have h1:=uE_sq h.s h.p hk hx
  have a1:=h.d k (by omega)
  have a2:=h.d (k+1) (by omega)
  have b1:=h.p.uD (show k≤n by omega)
  have b2:=h.p.uD (show k+1≤n by omega)
  have c1:=hd x hx
  have c2:=dia_pos h.s h.p hx
  have e1:=mul_pw (Int.le_trans a1 hB.d) (Int.le_trans a2 hB.d) (Int.le_of_lt b1) (Int.le_of_lt b2)
  have e2:=mul_pw e1 (Int.le_trans c1 hB.g) (Int.le_of_lt (Int.mul_pos b1 b2)) (Int.le_of_lt c2)
  have e3:=Int.mul_pos (Int.mul_pos b1 b2) c2
  exact (Sz.sq (Sz_pw (N:=N+N+N) (by omega) e2) h1).up (by omega)
theorem sz_q (h:LC G0 n M Dm G) (hB:LB M Dm N) (hd:∀x,x<n→G x x≤gB M Dm) {k j:Nat} (hj:j<k) (hk:k<n):Sz (4*N+8) (nearQ (frM G k j)):=by
  have h1:=near_uE h.s h.p hj hk
  have a1:=h.d j (by omega)
  have b1:=h.p.uD (show j≤n by omega)
  have c1:=hd k hk
  have c2:=dia_pos h.s h.p hk
  have e1:=mul_pw (Int.le_trans a1 hB.d) (Int.le_trans c1 hB.g) (Int.le_of_lt b1) (Int.le_of_lt c2)
  have e2:=mul_pw (a:=2) (x:=4) (by decide) e1 (by omega) (Int.le_of_lt (Int.mul_pos b1 c2))
  have e3:=Int.mul_pos b1 c2
  exact (Sz.sq (Sz_pw (N:=2+(N+N)) (by omega) e2) h1).up (by omega)
theorem sz_U (hs:SymG A) (hp:PosU A n) (h12:n≤12) (hB:LB M Dm N) (hM:∀x,x<n→A x x≤M) (hD:∀l,l≤n→uD A l≤Dm) {u:Fi} (hd:∀x,x<n→fU A n u x x≤gB M Dm):∀x l,x<n→l<n→Sz (4*N+8) (u x l):=fun x l hx hl=>by
  have g0:=hB.g0
  have m1:=hB.m1
  have hQ:qf (qG A) n (fun i=>(u x i:Rat))≤((gB M Dm:Int):Rat):=by
    rw [←fU_qf];exact Rat.intCast_le_intCast.mpr (hd x hx)
  have w:=coef_le hs hp h12 (M:=gB M Dm) (fun x hx=>Int.le_trans (hM x hx) (by omega)) hD (fun i=>(u x i:Rat)) hQ (by omega) (by omega) 12 l hl (by omega)
  obtain ⟨w1,w2⟩:=wi_int w
  have c:=hB.c
  exact (Sz_pw (N:=N) (by omega) (by omega)).up (by omega)
theorem sz_Ul {U:List (List Int)} (hU:CU n U) (h:∀x l,x<n→l<n→Sz (4*N+8) (matF U x l)) (x:Nat):SzL (4*N+8) (U.getD x []):=fun i=>by
  by_cases hx:x<n
  · by_cases hi:i<n
    · exact h x i hx hi
    · rw [List.getD_eq_getElem?_getD,List.getElem?_eq_none (by rw [hU.row x hx];omega)];exact Sz.zero _
  · rw [List.getD_eq_getElem?_getD (l:=U),List.getElem?_eq_none (by rw [hU.len];omega)];exact Sz.zero _
end
theorem LB_pow (e d:Nat) (he:e≤1024) (hd:d≤2200000):∃N,LB ((2^e:Nat):Int) ((2^d:Nat):Int) N:=by
  have e1:(1:Int)≤((2^e:Nat):Int):=by have:=Nat.two_pow_pos e;omega
  have d1:(1:Int)≤((2^d:Nat):Int):=by have:=Nat.two_pow_pos d;omega
  generalize hM:((2^e:Nat):Int)=M at *
  generalize hDm:((2^d:Nat):Int)=Dm at *
  have hm:=mul_pw (Int.le_of_eq hDm.symm) (Int.le_of_eq hM.symm) (by omega) (by omega)
  have hm0:=Int.mul_pos (show 0<Dm by omega) (show 0<M by omega)
  have pm:∀{a b:Nat},a≤b→((2^a:Nat):Int)≤((2^b:Nat):Int):=fun h=>by have:=Nat.pow_le_pow_right (show 0<2 by omega) h;omega
  have hK:2+32*Dm*M≤((2^(d+e+6):Nat):Int):=by
    rw [Int.mul_assoc,show d+e+6=(d+e)+6 by omega,Nat.pow_add];push_cast at hm ⊢;omega
  have hK0:0≤2+32*Dm*M:=by rw [Int.mul_assoc];omega
  have hKp:∀m,0≤(2+32*Dm*M)^m∧(2+32*Dm*M)^m≤((2^((d+e+6)*m):Nat):Int):=fun m=>by
    induction m with
    | zero=>exact ⟨by rw [Int.pow_zero];omega,by rw [Int.pow_zero,Nat.mul_zero];decide⟩
    | succ m ih=>
      rw [Int.pow_succ,Nat.mul_succ]
      exact ⟨Int.mul_nonneg ih.1 hK0,mul_pw ih.2 hK ih.1 hK0⟩
  have h4:=mul_pw (a:=2) (x:=4) (by decide) (Int.le_of_eq hM.symm) (by omega) (by omega)
  have hg:=mul_pw h4 (hKp 12).2 (by omega) (hKp 12).1
  have hg0:0<gB M Dm:=by
    unfold gB
    exact Int.mul_pos (by omega) (Int.pow_pos (by rw [Int.mul_assoc];omega))
  have hg2:gB M Dm≤((2^(2+e+(d+e+6)*12):Nat):Int):=hg
  have ht:=mul_pw hg2 (Int.le_of_eq hDm.symm) (Int.le_of_lt hg0) (by omega)
  have ht0:=Int.mul_pos hg0 (show 0<Dm by omega)
  have hk:1+12*(gB M Dm*Dm)≤((2^(2+e+(d+e+6)*12+d+4):Nat):Int):=by
    rw [Nat.pow_add _ _ 4];push_cast at ht ⊢;omega
  have hb:=bdC_pow ht0 (show 0<1+12*(gB M Dm*Dm) by omega) ht hk 12
  refine ⟨2+e+(d+e+6)*12+d+(2+e+(d+e+6)*12+d+4)*12,e1,d1,?_,?_,?_,by omega⟩
  · rw [←hDm];exact pm (by omega)
  · exact Int.le_trans hg2 (pm (by omega))
  · exact hb
section
variable {G0 G A:Fi} {n N:Nat} {M Dm:Int}
theorem LL.init (hs:SymG A) (hp:PosU A n) (hM:∀x,x<n→A x x≤M) (hD:∀l,l≤n→uD A l≤Dm) (hB:LB M Dm N):LL A n M Dm A 1 1:=
  ⟨⟨hs,hp,hD,rfl,fun l hl=>Rat.le_trans (frS_le hs hp hl) (Rat.intCast_le_intCast.mpr (hM l hl))⟩,fun x hx=>by have:=hM x hx;have:=hB.m1;omega,fun x hx l hl=>absurd hl (by omega),fun x h1 h2=>absurd h1 (by omega)⟩
theorem LR.zero' {k c:Nat} (h:LR G0 n M Dm G k c) (h0:0<c) (hc:c≤k) (hk:k<n) (hz:nearQ (frM G k (c-1))=0):LR G0 n M Dm G k (c-1):=by
  obtain ⟨j,rfl⟩:∃j,c=j+1:=⟨c-1,by omega⟩
  exact LR.zero h (by omega) hk hz
theorem LR.step' {k c:Nat} (h:LR G0 n M Dm G k c) (h0:0<c) (hc:c≤k) (hk:k<n):LR G0 n M Dm (rowI G k (c-1) (-(nearQ (frM G k (c-1))))) k (c-1):=by
  obtain ⟨j,rfl⟩:∃j,c=j+1:=⟨c-1,by omega⟩
  exact LR.step h (by omega) hk
theorem LL.no' {k:Nat} (h:LL G0 n M Dm G (k+1) k) (h0:0<k) (hk:k<n) (hl:¬lov G (k-1+1)):LL G0 n M Dm (swpI G (k-1)) (max (k-1) 1) (max (k-1) 1):=by
  obtain ⟨p,rfl⟩:∃p,k=p+1:=⟨k-1,by omega⟩
  have h2:=LL.no h hk hl
  by_cases e:p=0
  · subst e;exact h2.one
  · rw [show max (p+1-1) 1=p by omega];exact h2
def muL (G:Fi) (n k:Nat):Nat:=sumD G n*(n+2)+(n-k)
theorem muL_yes {G H:Fi} {n k:Nat} (h:sumD H n=sumD G n) (hk:k<n):muL H n (k+1)<muL G n k:=by
  unfold muL;rw [h];omega
theorem muL_no {G H:Fi} {n k:Nat} (h:sumD H n<sumD G n) (k2:Nat):muL H n k2<muL G n k:=by
  unfold muL
  have:=Nat.mul_le_mul_right (n+2) h
  rw [Nat.succ_mul] at this
  omega
theorem timesV_Sz {m n:Nat} {q:Int} {v:List Int} (hv:SzL n v) (hq:Sz m q):SzL (m+n) (v.map (fun x=>q*x)):=fun i=>by
  rw [getD_timesV];exact hq.mul (hv i)
end
end Fw
namespace Fw
open Go Go.Proofs
theorem c_mat_Times1 (k x:Int):Fn Tryz.prog 220 [kZ.is x,VP.pim kZ k] (kC.is (k*x)):=by
 refine aN Tryz.func220 Z Z fun m w=>Cr<|aZ .n Z fun b1=>aW .n bd fun b2=>Wr<|Ws (aO Z af)<|Ws (ae Z (ag 1 Z) Li af Z)<|Ws (f2 cY Z Z (cW k x))<|aE .n (aC (l:=kC) (u:=k*x) 0 Z Z Z af Z Lr)<|Wn<|aA ?_
 exact Qd Z (aY Z (ag 0 Z) af ay) ⟨Z,Z⟩
theorem c_mat_Times (k:Int) (v:List Int):Fn Tryz.prog 148 [kZ.is k,kVZ.is v] (kVC.is (v.map (fun x=>k*x))):=by
 refine aN Tryz.func148 Z Z fun m w=>Cr<|aZ .n Z fun b1=>Wa Z<|Wr<|Wm Z<|ee 0 Z (kp 0 Z (kp 1 Z (.hit (i:=2) Z (kp 4 Z (kp 5 Z .nil)))))<|Ws (O.mkf (aS Z ar))<|Ws (f2 fn219 Z Z (c_mat_eachII 220 [VP.pim kZ k] (fun x=>k*x) v fn220 (fun x _=>c_mat_Times1 k x)))<|Wa Z<|Wn<|aA ?_
 exact Qd Z (aI Z ay) ⟨Z,Z⟩
theorem c_mat_pairs (fid:FuncId) (caps:List VP) (F:Int→Int→Int) (u v:List Int) (huv:u.length=v.length) (hok:FnOk Tryz.prog fid) (hF:∀x y,x∈u→y∈v→Fn Tryz.prog fid (kZ.is x::kZ.is y::caps) (kC.is (F x y))):Fn Tryz.prog 218 [kVZ.is u,kVZ.is v,VP.clo fid caps] (VP.tup [kVC.is (pairV F u v),kN6.is 0]):=by
 refine aN Tryz.func218 Z Z fun m w=>a8 (i:=0) Z bF fun hB=>Cr<|Wa Z<|Wa Z<|Wn<|ab<|Cr<|Wm Z<|Ws (aJ Z U23)<|Wm Z<|Ws (aJ Z U23)<|Ws (bG Z Z)<|Wn ?_
 refine CN Z (by omega) fun h_t14=>?_
 refine Ck<|Cr<|Wa Z<|Wn<|ab<|Cr<|Wm Z<|Ws (aJ Z U23)<|Wm Z<|Wn<|aF<|bT 29 kC<|bU (fun (i:Nat) (w:Value)=>i≤u.length) (fun (i:Nat) (w:Value)=>[(0,kVZ.is u),(1,kVZ.is v),(2,VP.clo fid caps),(8,VP.ex w),(16,kN6.is (u.length:Int)),(17,kN6.is (i:Int))]) (fun (i:Nat) (w:Value)=>[OB.row w 29 kC ((List.range i).map (fun l=>F (u.getD l 0) (v.getD l 0)))]) (fun (i:Nat) (w:Value)=>u.length-i) 0 (.slice none 0 0) (by omega) (ao Z Z Z Z (ac Z (az Z (ah (y:=(0:Int)) (by rfl)) aq))) (a9 (OS.keepLe (bi (by rfl)) OS.nil)) ?_
 intro i w hi
 refine Cr<|Ws (aX Z Z)<|Wn<|ab ?_
 refine aM Z (fun h_t18=>?_)<|fun h_t18=>?_
 ·
  refine Ck<|ab<|aF<|Cr<|Wm Z<|Wa Z<|Wn ?_
  refine a5 (Γ:=[.fr (VP.ex w),.fr (VP.clo fid caps),.fr (kVZ.is u),.fr (kN6.is (i:Int)),.fr (VP.pim kZ (u.getD i 0)),.fr (kZ.is (u.getD i 0)),.fr (kVZ.is v),.fr (kN6.is (i:Int)),.fr (VP.pim kZ (v.getD i 0)),.fr (kZ.is (v.getD i 0)),.fr (kC.is (F (u.getD i 0) (v.getD i 0))),.fr (kVC.is [F (u.getD i 0) (v.getD i 0)])]) (om Z Z (om Z Z (om Z Z (om Z Z (aa Z (fun N=>aU i Z Z U23 af Z (v:=(u.getD i 0)) (gd 0 (by omega))) (aa Z (fun N=>aO Z af) (om Z Z (om Z Z (aa Z (fun N=>aU i Z Z U23 af Z (v:=(v.getD i 0)) (gd 0 (by omega))) (aa Z (fun N=>aO Z af) (aa Z (fun N=>eQ Z hok (aS Z (aS Z ar)) (hF _ _ (fu 0 (by omega)) (fu 0 (by omega)))) (aa Z (fun N=>bB U23 bv (bV Z bA) Z (by decide)) oz))))))))))))<|fun σ1=>?_
  refine bI 0 .n Z Z Z Lr U23 bv (by simp;omega) fun v1=>Wa Z<|au<|Qb<|ak<|Ws (aR Z Z (c:=((i:Int)+1)) (aH (by omega)))<|Wm Z<|au<|tr 0 Z (y:=((List.range (i+1)).map (fun l=>F (u.getD l 0) (v.getD l 0)))) (fq (fun l=>F (u.getD l 0) (v.getD l 0)) i) ?_
  exact bS (i+1) v1 (by omega) (by omega) (ao Z Z Z Z (ac Z (az Z (ah (y:=(((i+1):Nat):Int)) (by rfl)) aq)))<|aG _
 ·
  refine Ex<|Cr<|Wm Z<|Wa Z<|Wa Z<|Wn<|aA<|bL 0 Z (kp 0 Z (kp 1 Z (kp 2 Z (.hit (i:=6) Z (kp 7 Z (.hit (i:=8) Z (kp 16 Z (kp 17 Z (kp 18 Z (.hit (i:=34) Z .nil))))))))))<|tl 6 Z (y:=(pairV F u v)) (by rw [show i=u.length by omega];rfl) ?_
  exact Qd Z (aI Z (aI Z ay)) ⟨Z,Z⟩
theorem c_mat_Unit (n:Nat) (hn:n≤12):Con Tryz.prog 142 [kN6.is (n:Int)] [] (fun p Lo=>∃(v:Value),p=VP.tup [VP.ex v,kN6.is 0]∧Lo=[OB.row v 23 kVC (unitV n)]∧True):=by
 refine aN Tryz.func142 Z Z fun m w=>Cr<|Wa Z<|Wa Z<|Wn<|ab<|aF<|Cr<|Wm Z<|Ws (aX Z Z)<|Wa Z<|Wn ?_
 refine CN Z (by omega) fun h_t7=>?_
 refine Cr<|Wm Z<|Ws (cF Z Z)<|Wa Z<|Wn ?_
 refine CN Z (by omega) fun h_t10=>?_
 refine cx<|Qb<|Cr<|Wa Z<|Wn<|ab<|Cr<|Wm Z<|Wm Z<|Wn<|aF<|bT 23 kVC<|bU (fun (i:Nat) (v:Value)=>i≤n) (fun (i:Nat) (v:Value)=>[(0,kN6.is (n:Int)),(4,VP.ex v),(13,kN6.is (n:Int)),(14,kN6.is (i:Int))]) (fun (i:Nat) (v:Value)=>[OB.row v 23 kVC ((List.range i).map (fun x=>(List.replicate n 0).set x 1))]) (fun (i:Nat) (v:Value)=>n-i) 0 (.slice none 0 0) (by omega) (ac Z (ac Z (ac Z (az Z (ah (y:=(0:Int)) (by rfl)) aq)))) (a9 (OS.keepLe (bi (by rfl)) OS.nil)) ?_
 intro i v hi
 refine Cr<|Ws (aX Z Z)<|Wn<|ab ?_
 refine aM Z (fun h_t15=>?_)<|fun h_t15=>?_
 ·
  refine Ck<|ab<|aF<|Cr<|Wm Z<|Wa Z<|Wr<|Wm Z<|bH n .n Z Z Z (by omega) U23 bv bd fun v1=>Wa Z<|Wr<|Wm Z<|Wm Z<|Ws (aB eG (aj Z (cP (by omega)) ar) (ew 1))<|Ws (bb (k:=kC) (xs:=(List.replicate n 0)) (n:=(i:Int)) i Z Z (ag 0 Z) U23 af Z (by simp;omega))<|aE .n (co 0 i Z Z Li Z (y0:=((List.replicate n 0).getD i 0)) (gd 0 (by simp;omega)) af Z Lr) ?_
  refine Wn<|bL 0 Z (kp 0 Z (kp 4 Z (kp 5 Z (.hit (i:=6) Z (kp 13 Z (kp 14 Z (kp 15 Z (kp 16 Z (kp 17 Z (.hit (i:=18) Z (.hit (i:=19) Z (kp 20 Z (kp 21 Z (kp 22 Z .nil))))))))))))))<|ak<|Wm Z<|Wm Z<|Ws (bB U22 c6 (bV Z bA) Z (by decide))<|bI 0 .n Z Z Z Lr U22 c6 (by simp;omega) fun v2=>Wa Z<|au<|Qb<|ak<|Ws (aR Z Z (c:=((i:Int)+1)) (aH (by omega)))<|Wm Z<|au<|tr 0 Z (y:=((List.range (i+1)).map (fun x=>(List.replicate n 0).set x 1))) (fq (fun x=>(List.replicate n (0:Int)).set x 1) i) ?_
  exact bS (i+1) v2 (by omega) (by omega) (ac Z (ac Z (ac Z (az Z (ah (y:=(((i+1):Nat):Int)) (by rfl)) aq))))<|aG _
 ·
  refine Ex<|Cr<|Wm Z<|Wa Z<|Wa Z<|Wn<|aA<|tr 0 Z (y:=(unitV n)) (by rw [show i=n by omega];rfl) ?_
  exact cg (.inl Z) Z (aI Z (aI Z ay)) (aG _) ⟨v,Z,Z,trivial⟩
end Fw
namespace Fw
open Go
structure CR (n m:Nat) (B:List (List Int)):Prop where
  len:B.length=n
  row:∀x,x<n→(B.getD x []).length=m
theorem CU.cr {n:Nat} {U:List (List Int)} (h:CU n U):CR n n U:=⟨h.len,h.row⟩
theorem CR.cu {n:Nat} {U:List (List Int)} (h:CR n n U):CU n U:=⟨h.len,h.row⟩
theorem CR.rl {n m:Nat} {B:List (List Int)} (h:CR n m B):RectL B:=fun i hi=>by
  have h1:=h.len
  rw [h.row i (by omega),h.row 0 (by omega)]
theorem getD_nil_of {α:Type} (l:List α) (d:α) {i:Nat} (h:l.length≤i):l.getD i d=d:=by
  rw [List.getD_eq_getElem?_getD,List.getElem?_eq_none h];rfl
theorem CR_row {n m:Nat} {B:List (List Int)} (h:CR n m B) {k j:Nat} (q:Int) (hk:k<n):CR n m (rowU B k j q):=⟨by simp [rowU,h.len],fun x hx=>by
  unfold rowU
  rw [getD_setL _ _ _ _ _ (by rw [h.len];exact hk)]
  by_cases e:x=k
  · rw [if_pos e,pairV_len,h.row k hk]
  · rw [if_neg e,h.row x hx]⟩
theorem matF_rowR {n m:Nat} {B:List (List Int)} (h:CR n m B) {k j:Nat} (q:Int) (hk:k<n) (x i:Nat) (hi:i<m):matF (rowU B k j q) x i=rU (matF B) k j q x i:=by
  unfold matF rU rowU
  rw [getD_setL _ _ _ _ _ (by rw [h.len];exact hk)]
  by_cases e:x=k
  · rw [if_pos e,if_pos e,e,pairV_get (by rw [h.row k hk];exact hi),getD_timesV]
  · rw [if_neg e,if_neg e];simp [matF]
theorem swpR_get {n m:Nat} {B:List (List Int)} (h:CR n m B) {p:Nat} (hp:p+1<n) (x:Nat):(swpU B p).getD x []=B.getD (sg p x) []:=by
  unfold swpU
  rw [getD_setL _ _ _ _ _ (by rw [List.length_set,h.len];omega),getD_setL _ _ _ _ _ (by rw [h.len];omega)]
  by_cases e1:x=p
  · rw [if_pos e1,e1,sg_p]
  · rw [if_neg e1]
    by_cases e2:x=p+1
    · rw [if_pos e2,e2,sg_q]
    · rw [if_neg e2,sg_ne e1 e2]
theorem sg_lt {n p x:Nat} (hp:p+1<n) (hx:x<n):sg p x<n:=by
  unfold sg;split
  · omega
  · split <;> omega
theorem CR_swp {n m:Nat} {B:List (List Int)} (h:CR n m B) {p:Nat} (hp:p+1<n):CR n m (swpU B p):=⟨by simp [swpU,h.len],fun x hx=>by
  rw [swpR_get h hp,h.row _ (sg_lt hp hx)]⟩
theorem gram_sum {n m:Nat} {B:List (List Int)} (h:CR n m B) (x y:Nat):gram B x y=sumN (fun c=>matF B x c*matF B y c) m:=by
  unfold gram dotV
  rw [dotN_sum]
  by_cases e:x<n
  · rw [h.row x e];rfl
  · rw [getD_nil_of B [] (show B.length≤x by rw [h.len];omega)]
    have:(fun c=>matF B x c*matF B y c)=fun _=>0:=by
      funext c;unfold matF;rw [getD_nil_of B [] (show B.length≤x by rw [h.len];omega)];simp
    rw [this,sumN_zero];rfl
theorem gram_row {n m:Nat} {B:List (List Int)} (h:CR n m B) {k j:Nat} (q:Int) (hk:k<n):gram (rowU B k j q)=rowI (gram B) k j q:=by
  funext x y
  rw [gram_sum (CR_row h q hk)]
  unfold rowI
  rw [gram_sum h,gram_sum h,gram_sum h,gram_sum h,mul_sumN,mul_sumN,mul_sumN,←sumN_add,←sumN_add,←sumN_add]
  apply sumN_congr
  intro i hi
  rw [matF_rowR h q hk x i hi,matF_rowR h q hk y i hi]
  unfold rU
  grind
theorem gram_swp {n m:Nat} {B:List (List Int)} (h:CR n m B) {p:Nat} (hp:p+1<n):gram (swpU B p)=swpI (gram B) p:=by
  funext x y
  unfold gram swpI
  rw [swpR_get h hp,swpR_get h hp]
theorem gram_out {n m:Nat} {B:List (List Int)} (h:CR n m B) {x y:Nat} (hxy:¬(x<n∧y<n)):gram B x y=0:=by
  rw [gram_sum h]
  have:(fun c=>matF B x c*matF B y c)=fun _=>0:=by
    funext c;unfold matF
    by_cases e:x<n
    · rw [getD_nil_of B [] (show B.length≤y by rw [h.len];omega)];simp
    · rw [getD_nil_of B [] (show B.length≤x by rw [h.len];omega)];simp
  rw [this,sumN_zero]
theorem entry_sq {n m:Nat} {B:List (List Int)} (h:CR n m B) {x c:Nat} (hc:c<m):matF B x c*matF B x c≤gram B x x:=by
  rw [gram_sum h]
  have h1:∀i,0≤matF B x i*matF B x i:=fun i=>by
    rcases Int.le_total 0 (matF B x i) with e | e
    · exact Int.mul_nonneg e e
    · exact Int.mul_nonneg_of_nonpos_of_nonpos e e
  have h2:∀k,(0:Int)≤sumN (fun i=>matF B x i*matF B x i) k:=fun k=>sumN_nonneg fun i _=>h1 i
  have key:∀k,c<k→matF B x c*matF B x c≤sumN (fun i=>matF B x i*matF B x i) k:=by
    intro k
    induction k with
    | zero=>intro e;omega
    | succ k ih=>
      intro e
      show _≤sumN _ k+matF B x k*matF B x k
      by_cases e2:c=k
      · subst e2;have:=h2 c;omega
      · have:=ih (by omega);have:=h1 k;omega
  exact key m hc
def colV (V:List (List Int)) (k j:Nat) (q:Int):List (List Int):=V.map (fun r=>r.set j (r.getD j 0+q*r.getD k 0))
def colS (V:List (List Int)) (k:Nat):List (List Int):=V.map (fun r=>(r.set k (r.getD (k-1) 0)).set (k-1) (r.getD k 0))
theorem getD_setI (l:List Int) (i k:Nat) (x:Int) (h:i<l.length):(l.set i x).getD k 0=if k=i then x else l.getD k 0:=getD_setL l i k x 0 h
theorem CR_map {n m:Nat} {V:List (List Int)} (h:CR n m V) {F:List Int→List Int} (hF:∀r,(F r).length=r.length):CR n m (V.map F):=⟨by simp [h.len],fun x hx=>by
  rw [getD_map F V [] [] (by rw [h.len];exact hx),hF,h.row x hx]⟩
theorem CR_colV {n m:Nat} {V:List (List Int)} (h:CR n m V) (k j:Nat) (q:Int):CR n m (colV V k j q):=CR_map h fun r=>by simp
theorem CR_colS {n m:Nat} {V:List (List Int)} (h:CR n m V) (k:Nat):CR n m (colS V k):=CR_map h fun r=>by simp
theorem matF_colV {n:Nat} {V:List (List Int)} (h:CR n n V) {k j:Nat} (q:Int) (hj:j<n) (x i:Nat) (hx:x<n):matF (colV V k j q) x i=matF V x i+(if i=j then q*matF V x k else 0):=by
  unfold matF colV
  rw [getD_map (fun r:List Int=>r.set j (r.getD j 0+q*r.getD k 0)) V [] [] (by rw [h.len];exact hx),getD_setI _ _ _ _ (by rw [h.row x hx];exact hj)]
  by_cases e:i=j
  · rw [if_pos e,if_pos e,e]
  · rw [if_neg e,if_neg e];omega
theorem matF_colS {n:Nat} {V:List (List Int)} (h:CR n n V) {p:Nat} (hp:p+1<n) (x i:Nat) (hx:x<n):matF (colS V (p+1)) x i=matF V x (sg p i):=by
  unfold matF colS
  rw [getD_map (fun r:List Int=>(r.set (p+1) (r.getD (p+1-1) 0)).set (p+1-1) (r.getD (p+1) 0)) V [] [] (by rw [h.len];exact hx),getD_setI _ _ _ _ (by rw [List.length_set,h.row x hx];omega),getD_setI _ _ _ _ (by rw [h.row x hx];omega)]
  rw [show p+1-1=p by omega]
  by_cases e1:i=p
  · rw [if_pos e1,e1,sg_p]
  · rw [if_neg e1]
    by_cases e2:i=p+1
    · rw [if_pos e2,e2,sg_q]
    · rw [if_neg e2,sg_ne e1 e2]
theorem sumN_dl (f:Nat→Int) {k n:Nat} (hk:k<n) (t:Int):sumN (fun i=>(if i=k then t else 0)*f i) n=t*f k:=by
  rw [sumN_one hk (fun i _ h=>by rw [if_neg h];omega),if_pos rfl]
theorem fU_col {G:Fi} {n:Nat} {u:Fi} {k j:Nat} {t:Int} (hk:k<n) (hj:j<n):fU (rowI G k j t) n u=fU G n (fun x i=>u x i+(if i=j then t*u x k else 0)):=by
  funext x y
  unfold fU
  -- the inner sum
  have c1:∀b,sumN (fun i=>u x i*rowI G k j t i b) n=(sumN (fun i=>u x i*G i b) n+t*u x k*G j b)+(if b=k then t else 0)*(sumN (fun i=>u x i*G i j) n+t*u x k*G j j):=fun b=>by
    have e:(fun i=>u x i*rowI G k j t i b)=fun i=>(u x i*G i b+(if i=k then t else 0)*(u x i*G j b))+((if b=k then t else 0)*(u x i*G i j)+(if i=k then t else 0)*((if b=k then t else 0)*(u x i*G j j))):=by
      funext i;unfold rowI;grind
    rw [e,sumN_add (fun i=>u x i*G i b+(if i=k then t else 0)*(u x i*G j b)) _,sumN_add,sumN_add,←mul_sumN,sumN_dl _ hk,sumN_dl _ hk]
    grind
  have c2:∀b,sumN (fun i=>(u x i+(if i=j then t*u x k else 0))*G i b) n=sumN (fun i=>u x i*G i b) n+t*u x k*G j b:=fun b=>by
    have e:(fun i=>(u x i+(if i=j then t*u x k else 0))*G i b)=fun i=>u x i*G i b+(if i=j then t*u x k else 0)*G i b:=by funext i;grind
    rw [e,sumN_add,sumN_dl _ hj]
  have d1:(fun b=>sumN (fun i=>u x i*rowI G k j t i b) n*u y b)=fun b=>sumN (fun i=>(u x i+(if i=j then t*u x k else 0))*G i b) n*u y b+(if b=k then t else 0)*(sumN (fun i=>(u x i+(if i=j then t*u x k else 0))*G i j) n*u y b):=by
    funext b;rw [c1,c2,c2];grind
  have d2:(fun b=>sumN (fun i=>(u x i+(if i=j then t*u x k else 0))*G i b) n*(u y b+(if b=j then t*u y k else 0)))=fun b=>sumN (fun i=>(u x i+(if i=j then t*u x k else 0))*G i b) n*u y b+(if b=j then t*u y k else 0)*sumN (fun i=>(u x i+(if i=j then t*u x k else 0))*G i b) n:=by
    funext b;grind
  rw [d1,d2,sumN_add,sumN_add,sumN_dl _ hk,sumN_dl _ hj]
  grind
theorem fU_col_back {G:Fi} {n:Nat} {V:List (List Int)} (h:CR n n V) {k j:Nat} {q:Int} (hk:k<n) (hj:j<n) (hkj:k≠j) {x y:Nat} (hx:x<n) (hy:y<n):fU (rowI G k j (-q)) n (matF (colV V k j q)) x y=fU G n (matF V) x y:=by
  rw [fU_col hk hj]
  have key:∀z,z<n→∀i,matF (colV V k j q) z i+(if i=j then -q*matF (colV V k j q) z k else 0)=matF V z i:=fun z hz i=>by
    rw [matF_colV h q hj z i hz,matF_colV h q hj z k hz,if_neg hkj]
    by_cases e:i=j
    · rw [if_pos e,if_pos e,Int.add_zero];grind
    · rw [if_neg e,if_neg e];omega
  unfold fU
  apply sumN_congr
  intro b hb
  dsimp only
  rw [key y hy b]
  congr 1
  apply sumN_congr
  intro i hi
  rw [key x hx i]
theorem sumN_sg (f:Nat→Int) {p:Nat}:∀{n},p+1<n→sumN (fun i=>f (sg p i)) n=sumN f n
  | 0,h=>by omega
  | n+1,h=>by
    by_cases e:n=p+1
    · subst e
      show sumN (fun i=>f (sg p i)) p+f (sg p p)+f (sg p (p+1))=sumN f p+f p+f (p+1)
      rw [sg_p,sg_q,sumN_congr (f:=fun i=>f (sg p i)) (g:=f) (fun i hi=>by rw [sg_ne (by omega) (by omega)])]
      omega
    · show sumN (fun i=>f (sg p i)) n+f (sg p n)=sumN f n+f n
      rw [sumN_sg f (by omega),sg_ne (by omega) (by omega)]
theorem fU_swp_back {G:Fi} {n:Nat} {V:List (List Int)} (h:CR n n V) {p:Nat} (hp:p+1<n) {x y:Nat} (hx:x<n) (hy:y<n):fU (swpI G p) n (matF (colS V (p+1))) x y=fU G n (matF V) x y:=by
  unfold fU swpI
  have e:∀b,sumN (fun i=>matF (colS V (p+1)) x i*G (sg p i) (sg p b)) n=sumN (fun i=>matF V x i*G i (sg p b)) n:=fun b=>by
    rw [←sumN_sg (fun i=>matF V x i*G i (sg p b)) hp]
    exact sumN_congr fun i _=>by rw [matF_colS h hp x i hx]
  rw [←sumN_sg (fun b=>sumN (fun i=>matF V x i*G i b) n*matF V y b) hp]
  apply sumN_congr
  intro b _
  rw [e,matF_colS h hp y b hy]
def pD (G:Fi):Nat→Int
  | 0=>1
  | k+1=>pD G k*uD G (k+1)
theorem pD_pos {G:Fi} {n:Nat} (hp:PosU G n):∀k,k≤n→0<pD G k
  | 0,_=>Int.zero_lt_one
  | k+1,h=>Int.mul_pos (pD_pos hp k (by omega)) (hp.uD h)
theorem pD_congr {G H:Fi}:∀k,(∀l,l≤k→uD G l=uD H l)→pD G k=pD H k
  | 0,_=>rfl
  | k+1,h=>by
    show pD G k*uD G (k+1)=pD H k*uD H (k+1)
    rw [pD_congr k (fun l hl=>h l (by omega)),h (k+1) (Nat.le_refl _)]
theorem pD_row {G:Fi} {n:Nat} (hs:SymG G) (hp:PosU G n) {k j:Nat} (hj:j<k) (t:Int):pD (rowI G k j t) n=pD G n:=pD_congr n fun l hl=>rowI_uD hs hp hj hl
theorem uD_swp_34 {G:Fi} {n:Nat} (hs:SymG G) (hp:PosU G n) {p:Nat} (h:p+1<n) (hl:¬lov G (p+1)):4*uD (swpI G p) (p+1)≤3*uD G (p+1):=by
  have h1:=(swp_frS hs hp h).1
  have hl':frS (swpI G p) p<(3/4:Rat)*frS G p:=by
    rw [h1]
    unfold lov at hl
    rw [show p+1-1=p by omega] at hl
    exact Rat.not_le.1 hl
  have a1:=uD_succ hs hp (show p<n by omega)
  have a2:=uD_succ (swpI_sym hs) (swpI_pos hs hp h) (show p<n by omega)
  rw [swpI_uD hs hp h (show p≤n by omega) (by omega)] at a2
  have d0:(0:Rat)<(uD G p:Rat):=by
    have:=hp.uD (show p≤n by omega)
    exact Rat.intCast_lt_intCast.mpr this
  have m:=Rat.mul_lt_mul_of_pos_left hl' d0
  have e:(4:Rat)*(uD (swpI G p) (p+1):Rat)≤3*(uD G (p+1):Rat):=by
    rw [a1,a2];grind
  have e2:((4*uD (swpI G p) (p+1):Int):Rat)≤((3*uD G (p+1):Int):Rat):=by
    rw [Rat.intCast_mul,Rat.intCast_mul];exact e
  exact Rat.intCast_le_intCast.mp e2
theorem pD_swp {G:Fi} {n:Nat} (hs:SymG G) (hp:PosU G n) {p:Nat} (h:p+1<n) (hl:¬lov G (p+1)):∀k,p+1≤k→k≤n→4*pD (swpI G p) k≤3*pD G k
  | 0,h1,_=>by omega
  | k+1,h1,h2=>by
    show 4*(pD (swpI G p) k*uD (swpI G p) (k+1))≤3*(pD G k*uD G (k+1))
    by_cases e:k=p
    · subst e
      have a:=pD_congr (G:=swpI G k) (H:=G) k (fun l hl=>swpI_uD hs hp h (by omega) (by omega))
      have b:=uD_swp_34 hs hp h hl
      have c:=pD_pos hp k (by omega)
      rw [a]
      have:=Int.mul_le_mul_of_nonneg_left b (Int.le_of_lt c)
      grind
    · have ih:=pD_swp hs hp h hl k (by omega) (by omega)
      rw [swpI_uD hs hp h (k:=k+1) h2 (by omega)]
      have d:=hp.uD (show k+1≤n by omega)
      have:=Int.mul_le_mul_of_nonneg_right ih (Int.le_of_lt d)
      grind
theorem pow_3k {K t:Nat} (h:(4:Int)^(3*t)≤3^(3*t)*((2^K:Nat):Int)):t≤K:=by
  have e4:(4:Int)^(3*t)=((64^t:Nat):Int):=by rw [Int.pow_mul];push_cast;rfl
  have e3:(3:Int)^(3*t)=((27^t:Nat):Int):=by rw [Int.pow_mul];push_cast;rfl
  rw [e4,e3] at h
  have h':64^t≤27^t*2^K:=by exact_mod_cast h
  have h2:27^t*2^t≤27^t*2^K:=by
    rw [←Nat.mul_pow];exact Nat.le_trans (Nat.pow_le_pow_left (by decide) t) h'
  have h3:=Nat.le_of_mul_le_mul_left h2 (Nat.pow_pos (by decide))
  exact (Nat.pow_le_pow_iff_right (by decide)).1 h3
theorem swaps_le {K s:Nat} {P:Int} (hP:P≤((2^K:Nat):Int)) {p:Int} (hp:0<p) (h:(4:Int)^s*p≤3^s*P):s≤3*K+2:=by
  have h4:(0:Int)<4^s:=Int.pow_pos (by decide)
  have h3:(0:Int)<3^s:=Int.pow_pos (by decide)
  have h1:(4:Int)^s≤3^s*((2^K:Nat):Int):=by
    have a:=Int.mul_le_mul_of_nonneg_left (show 1≤p by omega) (Int.le_of_lt h4)
    have b:=Int.mul_le_mul_of_nonneg_left hP (Int.le_of_lt h3)
    omega
  obtain ⟨t,r,hr,hs⟩:∃t r,r<3∧s=3*t+r:=⟨s/3,s%3,by omega,by omega⟩
  have h5:(4:Int)^(3*t)≤3^(3*t)*((2^K:Nat):Int):=by
    rw [hs,Int.pow_add,Int.pow_add] at h1
    have hr2:(3:Int)^r≤4^r:=by
      have:r=0∨r=1∨r=2:=by omega
      rcases this with rfl | rfl | rfl <;> decide
    have hr0:(0:Int)<4^r:=Int.pow_pos (by decide)
    have hb:(0:Int)≤3^(3*t)*((2^K:Nat):Int):=Int.mul_nonneg (Int.le_of_lt (Int.pow_pos (by decide))) (Int.natCast_nonneg _)
    have c:=Int.mul_le_mul_of_nonneg_left hr2 hb
    have d:(4:Int)^(3*t)*4^r≤3^(3*t)*((2^K:Nat):Int)*4^r:=by grind
    exact Int.le_of_mul_le_mul_right d hr0
  have:=pow_3k h5
  omega
instance (G:Fi) (x:Nat):Decidable (lov G x):=by unfold lov;infer_instance
structure WL where
  b:List (List Int)
  u:List (List Int)
  v:List (List Int)
def qN (w:WL) (k j:Nat):Int:=nearQ (frM (gram w.b) k j)
def wlose (w:WL) (k j:Nat) (q:Int):WL:=⟨rowU w.b k j (-q),rowU w.u k j (-q),colV w.v k j q⟩
def wswp (w:WL) (k:Nat):WL:=⟨swpU w.b (k-1),swpU w.u (k-1),colS w.v k⟩
def wsz1 (w:WL) (k j:Nat):WL:=if qN w k j=0 then w else wlose w k j (qN w k j)
def wszs (k:Nat):Nat→WL→WL
  | 0,w=>w
  | c+1,w=>wszs k c (wsz1 w k c)
def wstep (n:Nat) (s:WL×List Int×Nat):WL×List Int×Nat:=
  if s.2.2<n then
    (if lov (gram (wszs s.2.2 s.2.2 s.1).b) s.2.2 then (wszs s.2.2 s.2.2 s.1,s.2.1,s.2.2+1)
     else (wswp (wszs s.2.2 s.2.2 s.1) s.2.2,s.2.1++[(s.2.2:Int)],max (s.2.2-1) 1))
  else s
def wit (n:Nat) (s:WL×List Int×Nat):Nat→WL×List Int×Nat
  | 0=>s
  | t+1=>wstep n (wit n s t)
def wR (n:Nat) (s y:WL×List Int×Nat):Prop:=∃t,wit n s t=y
theorem wR.refl {n s}:wR n s s:=⟨0,rfl⟩
theorem wR.step {n s y} (h:wR n s y):wR n s (wstep n y):=by
  obtain ⟨t,rfl⟩:=h;exact ⟨t+1,rfl⟩
theorem wit_add (n s) (t:Nat):∀r,wit n s (t+r)=wit n (wit n s t) r
  | 0=>rfl
  | r+1=>by show wstep n (wit n s (t+r))=_;rw [wit_add n s t r];rfl
theorem wit_end {n:Nat} {s:WL×List Int×Nat} (h:¬s.2.2<n):∀r,wit n s r=s
  | 0=>rfl
  | r+1=>by show wstep n (wit n s r)=s;rw [wit_end h r];unfold wstep;rw [if_neg h]
theorem wR.det {n:Nat} {s y z:WL×List Int×Nat} (h:wR n s y) (h2:wR n s z) (hy:¬y.2.2<n) (hz:¬z.2.2<n):y=z:=by
  obtain ⟨t,rfl⟩:=h
  obtain ⟨r,rfl⟩:=h2
  rcases Nat.le_total t r with e | e
  · obtain ⟨d,rfl⟩:∃d,r=t+d:=⟨r-t,by omega⟩
    rw [wit_add,wit_end hy]
  · obtain ⟨d,rfl⟩:∃d,t=r+d:=⟨t-r,by omega⟩
    rw [wit_add,wit_end hz]
def w0 (b:List (List Int)):WL×List Int×Nat:=(⟨b,unitV b.length,unitV b.length⟩,[],1)
structure WC (b:List (List Int)) (P:Int) (B U V:List (List Int)) (S:List Int):Prop where
  rb:CR b.length (b.getD 0 []).length B
  ru:CU b.length U
  rv:CU b.length V
  gu:gram B=fU (gram b) b.length (matF U)
  gv:∀x y,x<b.length→y<b.length→gram b x y=fU (gram B) b.length (matF V) x y
  sw:(4:Int)^S.length*pD (gram B) b.length≤3^S.length*P
structure WI (b:List (List Int)) (M Dm P:Int) (B U V:List (List Int)) (S:List Int) (k:Nat):Prop where
  wc:WC b P B U V S
  l:LL (gram b) b.length M Dm (gram B) k k
  r:wR b.length (w0 b) (⟨B,U,V⟩,S,k)
  k0:0<k
  kn:k≤b.length
structure WJ (b:List (List Int)) (M Dm P:Int) (B0 U0 V0 B U V:List (List Int)) (S:List Int) (k c:Nat):Prop where
  wc:WC b P B U V S
  l:LR (gram b) b.length M Dm (gram B) k c
  e:wszs k c ⟨B,U,V⟩=wszs k k ⟨B0,U0,V0⟩
  ck:c≤k
  s:sumD (gram B) b.length=sumD (gram B0) b.length
structure WK (b:List (List Int)) (M Dm P:Int) (B0 U0 V0 B U V:List (List Int)) (S:List Int) (k:Nat):Prop where
  wc:WC b P B U V S
  l:LL (gram b) b.length M Dm (gram B) (k+1) k
  e:(⟨B,U,V⟩:WL)=wszs k k ⟨B0,U0,V0⟩
  s:sumD (gram B) b.length=sumD (gram B0) b.length
section
variable {b B0 U0 V0 B U V:List (List Int)} {S:List Int} {M Dm P:Int} {k c N:Nat}
theorem basis_CR (h:Basis b):CR b.length (b.getD 0 []).length b:=⟨rfl,fun x hx=>h.r x hx⟩
theorem WI.init (h:Basis b) (hM:∀x,x<b.length→gram b x x≤M) (hD:∀l,l≤b.length→uD (gram b) l≤Dm) (hB:LB M Dm N):WI b M Dm (pD (gram b) b.length) b (unitV b.length) (unitV b.length) [] 1:=by
  have hc:=basis_CR h
  have hg:gram b=fU (gram b) b.length (matF (unitV b.length)):=(fU_unit (unitV_at _) fun x y hxy=>gram_out hc hxy).symm
  exact ⟨⟨hc,CU_unit _,CU_unit _,hg,fun x y _ _=>by rw [←hg],by simp⟩,LL.init (gram_symG h.r) h.p hM hD hB,wR.refl,by omega,h.n0⟩
theorem WI.begin (h:WI b M Dm P B U V S k) (hk:k<b.length):WJ b M Dm P B U V B U V S k k:=
  ⟨h.wc,h.l.start hk,rfl,Nat.le_refl _,rfl⟩
theorem WJ.zero (h:WJ b M Dm P B0 U0 V0 B U V S k c) (h0:0<c) (hk:k<b.length) (hz:nearQ (frM (gram B) k (c-1))=0):WJ b M Dm P B0 U0 V0 B U V S k (c-1):=by
  refine ⟨h.wc,h.l.zero' h0 h.ck hk hz,?_,by have:=h.ck;omega,h.s⟩
  obtain ⟨j,rfl⟩:∃j,c=j+1:=⟨c-1,by omega⟩
  rw [←h.e]
  show _=wszs k j (wsz1 ⟨B,U,V⟩ k j)
  exact congrArg (wszs k j) (if_pos (c:=nearQ (frM (gram B) k j)=0) hz).symm
theorem WC.lose (h:WC b P B U V S) (hs:SymG (gram B)) (hp:PosU (gram B) b.length) {j:Nat} (hj:j<k) (hk:k<b.length) (q:Int):WC b P (rowU B k j (-q)) (rowU U k j (-q)) (colV V k j q) S:=by
  have hg:=gram_row h.rb (j:=j) (-q) hk
  refine ⟨CR_row h.rb _ hk,CU_row h.ru _ hk,(CR_colV h.rv.cr k j q).cu,?_,?_,?_⟩
  · rw [hg,h.gu,←fU_row]
    exact (fU_congr fun x i hi=>matF_rowU h.ru (-q) hk x i hi).symm
  · intro x y hx hy
    rw [hg,fU_col_back h.rv.cr hk (by omega) (by omega) hx hy]
    exact h.gv x y hx hy
  · rw [hg,pD_row hs hp hj];exact h.sw
theorem WJ.lose (h:WJ b M Dm P B0 U0 V0 B U V S k c) (h0:0<c) (hk:k<b.length) (hz:nearQ (frM (gram B) k (c-1))≠0):WJ b M Dm P B0 U0 V0 (rowU B k (c-1) (-(nearQ (frM (gram B) k (c-1))))) (rowU U k (c-1) (-(nearQ (frM (gram B) k (c-1))))) (colV V k (c-1) (nearQ (frM (gram B) k (c-1)))) S k (c-1):=by
  have hck:=h.ck
  refine ⟨h.wc.lose h.l.c.s h.l.c.p (by omega) hk _,?_,?_,by omega,?_⟩
  · rw [gram_row h.wc.rb _ hk];exact h.l.step' h0 hck hk
  · obtain ⟨j,rfl⟩:∃j,c=j+1:=⟨c-1,by omega⟩
    rw [←h.e]
    show _=wszs k j (wsz1 ⟨B,U,V⟩ k j)
    exact congrArg (wszs k j) (if_neg (c:=nearQ (frM (gram B) k j)=0) hz).symm
  · rw [gram_row h.wc.rb _ hk,sumD_row h.l.c.s h.l.c.p (by omega)];exact h.s
theorem WJ.fin (h:WJ b M Dm P B0 U0 V0 B U V S k 0) (hk:k<b.length) (h12:b.length≤12):WK b M Dm P B0 U0 V0 B U V S k:=
  ⟨h.wc,h.l.fin hk h12,h.e,h.s⟩
theorem WK.yes (h:WK b M Dm P B0 U0 V0 B U V S k) (hi:WI b M Dm P B0 U0 V0 S k) (hk:k<b.length) (hl:lov (gram B) k):WI b M Dm P B U V S (k+1):=by
  refine ⟨h.wc,h.l.yes hl,?_,by omega,by omega⟩
  have:=hi.r.step
  unfold wstep at this
  rw [if_pos hk] at this
  dsimp only at this
  rw [←h.e,if_pos hl] at this
  exact this
theorem WC.swp (h:WC b P B U V S) (hs:SymG (gram B)) (hp:PosU (gram B) b.length) {p:Nat} (hk:p+1<b.length) (hl:¬lov (gram B) (p+1)):WC b P (swpU B p) (swpU U p) (colS V (p+1)) (S++[((p+1:Nat):Int)]):=by
  have hg:=gram_swp h.rb hk
  refine ⟨CR_swp h.rb hk,CU_swp h.ru hk,(CR_colS h.rv.cr (p+1)).cu,?_,?_,?_⟩
  · rw [hg,h.gu,←fU_swp]
    exact (fU_congr fun x i hi=>by unfold matF;rw [swpU_get h.ru hk]).symm
  · intro x y hx hy
    rw [hg,fU_swp_back h.rv.cr hk hx hy]
    exact h.gv x y hx hy
  · rw [hg,List.length_append]
    have h1:=pD_swp hs hp hk hl b.length (by omega) (Nat.le_refl _)
    have h2:=h.sw
    have h4:(0:Int)≤4^S.length:=Int.le_of_lt (Int.pow_pos (by decide))
    have h5:=Int.mul_le_mul_of_nonneg_left h1 h4
    show (4:Int)^(S.length+1)*_≤3^(S.length+1)*P
    rw [Int.pow_succ,Int.pow_succ]
    grind
theorem WK.no (h:WK b M Dm P B0 U0 V0 B U V S k) (hi:WI b M Dm P B0 U0 V0 S k) (hk:k<b.length) (hl:¬lov (gram B) k):WI b M Dm P (swpU B (k-1)) (swpU U (k-1)) (colS V k) (S++[(k:Int)]) (max (k-1) 1):=by
  have hk0:=hi.k0
  have hr:=hi.r.step
  unfold wstep at hr
  rw [if_pos hk] at hr
  dsimp only at hr
  rw [←h.e,if_neg hl] at hr
  obtain ⟨p,rfl⟩:∃p,k=p+1:=⟨k-1,by omega⟩
  refine ⟨h.wc.swp h.l.c.s h.l.c.p hk hl,?_,hr,by omega,by omega⟩
  have:=LL.no' h.l (by omega) hk (by rw [show p+1-1+1=p+1 by omega];exact hl)
  rw [show p+1-1=p by omega] at this ⊢
  rw [gram_swp h.wc.rb hk]
  exact this
theorem WK.mu_no (h:WK b M Dm P B0 U0 V0 B U V S k) (h0:0<k) (hk:k<b.length) (hl:¬lov (gram B) k) (k2:Nat):muL (gram (swpU B (k-1))) b.length k2<muL (gram B0) b.length k:=by
  obtain ⟨p,rfl⟩:∃p,k=p+1:=⟨k-1,by omega⟩
  refine muL_no ?_ k2
  rw [show p+1-1=p by omega,gram_swp h.wc.rb hk,←h.s]
  exact sumD_swp h.l.c.s h.l.c.p hk hl
theorem WK.mu_yes (h:WK b M Dm P B0 U0 V0 B U V S k) (hk:k<b.length):muL (gram B) b.length (k+1)<muL (gram B0) b.length k:=muL_yes h.s hk
theorem WC.szB (h:WC b P B U V S) (hB:LB M Dm N) (hd:∀x,x<b.length→gram B x x≤gB M Dm):SzM (4*N+8) B:=fun x i=>by
  by_cases hx:x<b.length
  · by_cases hi:i<(b.getD 0 []).length
    · have h1:=entry_sq h.rb (x:=x) hi
      have h2:=Int.le_trans (hd x hx) hB.g
      have h3:(0:Int)≤gram B x x:=Int.le_trans (by rcases Int.le_total 0 (matF B x i) with e | e;exact Int.mul_nonneg e e;exact Int.mul_nonneg_of_nonpos_of_nonpos e e) h1
      exact (Sz.sq (Sz_pw (N:=N) (by omega) h2) h1).up (by omega)
    · rw [getD_nil_of _ _ (by rw [h.rb.row x hx];omega)];exact Sz.zero _
  · rw [getD_nil_of B _ (by rw [h.rb.len];omega)];exact Sz.zero _
theorem WC.szU (h:WC b P B U V S) (hs:SymG (gram b)) (hp:PosU (gram b) b.length) (h12:b.length≤12) (hB:LB M Dm N) (hM:∀x,x<b.length→gram b x x≤M) (hD:∀l,l≤b.length→uD (gram b) l≤Dm) (hd:∀x,x<b.length→gram B x x≤gB M Dm):SzM (4*N+8) U:=
  sz_Ul h.ru (sz_U hs hp h12 hB hM hD fun x hx=>by rw [←h.gu];exact hd x hx)
theorem WC.szV (h:WC b P B U V S) (hl:LC (gram b) b.length M Dm (gram B)) (h12:b.length≤12) (hB:LB M Dm N) (hM:∀x,x<b.length→gram b x x≤M) (hd:∀x,x<b.length→gram B x x≤gB M Dm):SzM (4*N+8) V:=sz_Ul h.rv fun x l hx hll=>by
  have g0:=hB.g0
  have m1:=hB.m1
  have hQ:qf (qG (gram B)) b.length (fun i=>(matF V x i:Rat))≤((gB M Dm:Int):Rat):=by
    rw [←fU_qf,←h.gv x x hx hx];exact Rat.intCast_le_intCast.mpr (Int.le_trans (hM x hx) (by omega))
  have w:=coef_le hl.s hl.p h12 (M:=gB M Dm) hd hl.d (fun i=>(matF V x i:Rat)) hQ (by omega) (by omega) 12 l hll (by omega)
  obtain ⟨w1,w2⟩:=wi_int w
  have c:=hB.c
  exact (Sz_pw (N:=N) (by omega) (by omega)).up (by omega)
end
section
variable {G:Fi} {n:Nat}
theorem lov_iff (hs:SymG G) (hp:PosU G n) {p:Nat} (h:p+1<n):(3*(uD G (p+1)*uD G (p+1))-4*(uD G p*uD G (p+2)+uE G p (p+1) p*uE G p (p+1) p)).sign≤0↔lov G (p+1):=by
  have a0:(0:Rat)<(uD G p:Rat):=Rat.intCast_lt_intCast.mpr (hp.uD (by omega))
  have b0:(0:Rat)<(uD G (p+1):Rat):=Rat.intCast_lt_intCast.mpr (hp.uD (by omega))
  have e1:=uD_succ hs hp (show p<n by omega)
  have e2:=uD_succ hs hp (show p+1<n by omega)
  have e3:=uE_fr hs hp (show p<p+1 by omega) h
  have hl:lov G (p+1)↔(3/4:Rat)*frS G p≤frS G (p+1)+frM G (p+1) p*frM G (p+1) p*frS G p:=by unfold lov;rw [show p+1-1=p by omega]
  have hd:(3*(uD G (p+1)*uD G (p+1))-4*(uD G p*uD G (p+2)+uE G p (p+1) p*uE G p (p+1) p)).sign≤0↔3*(uD G (p+1)*uD G (p+1))≤4*(uD G p*uD G (p+2)+uE G p (p+1) p*uE G p (p+1) p):=by
    constructor
    · exact sgn_le
    · intro h1
      by_cases h2:(3*(uD G (p+1)*uD G (p+1))-4*(uD G p*uD G (p+2)+uE G p (p+1) p*uE G p (p+1) p)).sign≤0
      · exact h2
      · have:=sgn_gt h2;omega
  have hq:3*(uD G (p+1)*uD G (p+1))≤4*(uD G p*uD G (p+2)+uE G p (p+1) p*uE G p (p+1) p)↔(3:Rat)*((uD G (p+1):Rat)*(uD G (p+1):Rat))≤4*((uD G p:Rat)*(uD G (p+2):Rat)+(uE G p (p+1) p:Rat)*(uE G p (p+1) p:Rat)):=by
    rw [←Rat.intCast_le_intCast]
    simp only [Rat.intCast_mul,Rat.intCast_add]
    exact Iff.rfl
  rw [hd,hl,hq]
  replace e2:(uD G (p+2):Rat)=(uD G (p+1):Rat)*frS G (p+1):=e2
  generalize frS G p=s0 at *
  generalize frS G (p+1)=s1 at *
  generalize frM G (p+1) p=m at *
  have x1:(3:Rat)*((uD G (p+1):Rat)*(uD G (p+1):Rat))=(4*(uD G p:Rat)*(uD G (p+1):Rat))*(3/4*s0):=by grind
  have x2:(4:Rat)*((uD G p:Rat)*(uD G (p+2):Rat)+(uE G p (p+1) p:Rat)*(uE G p (p+1) p:Rat))=(4*(uD G p:Rat)*(uD G (p+1):Rat))*(s1+m*m*s0):=by grind
  rw [x1,x2]
  have hc:(0:Rat)<4*(uD G p:Rat)*(uD G (p+1):Rat):=Rat.mul_pos (Rat.mul_pos (by decide) a0) b0
  constructor
  · intro h1
    by_cases h2:(3/4:Rat)*s0≤s1+m*m*s0
    · exact h2
    · have:=Rat.mul_lt_mul_of_pos_left (Rat.not_le.1 h2) hc
      exact absurd h1 (Rat.not_le.2 this)
  · intro h1
    exact Rat.mul_le_mul_of_nonneg_left h1 (Rat.le_of_lt hc)
theorem nearI_spec {a b:Int} (h0:0<b):(b+b)*nearI a b≤a+a+b∧a+a+b<(b+b)*nearI a b+(b+b):=by
  have hdef:=Int.fmod_def (a+a+b) (b+b)
  have f1:=Int.fmod_nonneg_of_pos (a+a+b) (show 0<b+b by omega)
  have f2:=Int.fmod_lt_of_pos (a+a+b) (show 0<b+b by omega)
  have e:nearI a b=(a+a+b).fdiv (b+b):=rfl
  rw [e]
  generalize (a+a+b).fdiv (b+b)=z at *
  omega
theorem nearI_scale {a b g:Int} (h0:0<b) (hg:0<g):nearI (g*a) (g*b)=nearI a b:=by
  obtain ⟨h1,h2⟩:=nearI_spec (a:=g*a) (b:=g*b) (Int.mul_pos hg h0)
  obtain ⟨h3,h4⟩:=nearI_spec (a:=a) h0
  generalize nearI (g*a) (g*b)=x at *
  generalize nearI a b=y at *
  have e1:(g*b+g*b)*x=g*((b+b)*x):=by grind
  have e2:g*a+g*a+g*b=g*(a+a+b):=by grind
  have e3:g*((b+b)*x)+(g*b+g*b)=g*((b+b)*x+(b+b)):=by grind
  rw [e1,e2] at h1
  rw [e1,e2,e3] at h2
  have h5:=Int.le_of_mul_le_mul_left h1 hg
  have h6:=Int.lt_of_mul_lt_mul_left h2 (Int.le_of_lt hg)
  have hb:0<b+b:=by omega
  have k1:(b+b)*x<(b+b)*(y+1):=by rw [Int.mul_add,Int.mul_one];omega
  have k2:(b+b)*y<(b+b)*(x+1):=by rw [Int.mul_add,Int.mul_one];omega
  have k3:=Int.lt_of_mul_lt_mul_left k1 (Int.le_of_lt hb)
  have k4:=Int.lt_of_mul_lt_mul_left k2 (Int.le_of_lt hb)
  omega
theorem rq_scale {n d:Int} {q:Rat} (hd:0<d) (h:(n:Rat)=(d:Rat)*q):∃g:Int,0<g∧n=g*(rq q).1∧d=g*(rq q).2:=by
  have e:=rq_val q
  have hq:=rq_den_pos q
  have hqq:((rq q).2:Rat)≠0:=pos_ne (by exact_mod_cast hq)
  have ea:((rq q).1:Rat)=q*((rq q).2:Rat):=by rw [←e];grind
  have h1:(n:Rat)*((rq q).2:Rat)=(d:Rat)*((rq q).1:Rat):=by rw [h,ea];grind
  have h2:n*(rq q).2=d*(rq q).1:=by exact_mod_cast h1
  have hdvd:(rq q).2∣d:=by
    show ((q.den:Nat):Int)∣d
    rw [Int.ofNat_dvd_left]
    have h3:q.den∣q.num.natAbs*d.natAbs:=by
      refine ⟨n.natAbs,?_⟩
      have h4:=congrArg Int.natAbs h2
      rw [Int.natAbs_mul,Int.natAbs_mul] at h4
      have h5:((rq q).2).natAbs=q.den:=rfl
      have h6:((rq q).1).natAbs=q.num.natAbs:=rfl
      rw [h5,h6] at h4
      rw [Nat.mul_comm,←h4,Nat.mul_comm]
    exact (Nat.Coprime.symm q.reduced).dvd_of_dvd_mul_left h3
  obtain ⟨g,hg⟩:=hdvd
  have hg0:0<g:=by
    rcases Int.lt_or_le 0 g with e0 | e0
    · exact e0
    · have:=Int.mul_nonpos_of_nonneg_of_nonpos (Int.le_of_lt hq) e0;omega
  refine ⟨g,hg0,?_,by rw [hg,Int.mul_comm]⟩
  have h3:(rq q).2*n=(rq q).2*(g*(rq q).1):=by
    rw [Int.mul_comm,h2,hg];grind
  exact Int.eq_of_mul_eq_mul_left (by omega) h3
theorem nearI_frM (hs:SymG G) (hp:PosU G n) {k j:Nat} (hj:j<k) (hk:k<n):nearI (uE G j k j) (uD G (j+1))=nearQ (frM G k j):=by
  obtain ⟨g,g0,e1,e2⟩:=rq_scale (hp.uD (show j+1≤n by omega)) (uE_fr hs hp hj hk)
  rw [e1,e2,nearI_scale (rq_den_pos _) g0]
  rfl
end
theorem minus_row (q:Int) (u v:List Int):pairV (fun x y=>x-y) u (v.map (fun x=>q*x))=pairV (fun x y=>x+y) u (v.map (fun x=>-q*x)):=by
  unfold pairV
  apply List.map_congr_left
  intro l hl
  rw [getD_timesV,getD_timesV,Int.neg_mul]
  show u.getD l 0-q*v.getD l 0=u.getD l 0 + -(q*v.getD l 0)
  omega
def mapN (F:List Int→List Int) (i:Nat) (V:List (List Int)):List (List Int):=(V.take i).map F++V.drop i
theorem mapN_0 (F V):mapN F 0 V=V:=by simp [mapN]
theorem mapN_end {F V} {i:Nat} (h:i=V.length):mapN F i V=V.map F:=by subst h;simp [mapN]
theorem mapN_len (F V) {i:Nat} (h:i≤V.length):(mapN F i V).length=V.length:=by simp [mapN];omega
theorem mapN_at {F V} {i:Nat} (h:i<V.length):(mapN F i V).getD i []=V.getD i []:=by
  unfold mapN
  rw [List.getD_eq_getElem?_getD,List.getElem?_append_right (by simp;omega)]
  simp only [List.length_map,List.length_take,List.getElem?_drop]
  rw [show i+(i-min i V.length)=i+(i-i) by rw [Nat.min_eq_left (by omega)],Nat.sub_self,Nat.add_zero,←List.getD_eq_getElem?_getD]
theorem mapN_at2 {F V} {i j:Nat} (h:i<V.length) (hj:j<(V.getD i []).length):((mapN F i V).getD i [])[j]?=some ((V.getD i []).getD j 0):=by
  rw [mapN_at h,List.getElem?_eq_getElem hj,gde _ 0 hj]
abbrev fH:=@mapN_at2
theorem mapN_set {F V} {i:Nat} {r:List Int} (h:i<V.length) (hr:r=F (V.getD i [])):(mapN F i V).set i r=mapN F (i+1) V:=by
  subst hr
  unfold mapN
  have e:V.drop i=V.getD i []::V.drop (i+1):=by
    rw [List.drop_eq_getElem_cons h,List.getD_eq_getElem?_getD,List.getElem?_eq_getElem h];rfl
  have e2:V.take (i+1)=V.take i++[V.getD i []]:=by
    rw [List.take_add_one,List.getElem?_eq_getElem h,gde V [] h];rfl
  have e3:i-((V.take i).map F).length=0:=by simp;omega
  rw [e,e2,List.map_append,List.append_assoc,List.set_append_right _ _ (by simp;omega),e3]
  rfl
def colF (k j:Nat) (q:Int):List Int→List Int:=fun r=>r.set j (r.getD j 0+q*r.getD k 0)
def colG (k:Nat):List Int→List Int:=fun r=>(r.set k (r.getD (k-1) 0)).set (k-1) (r.getD k 0)
theorem mapN_len2 {F:List Int→List Int} {V:List (List Int)} {i a:Nat} {x:Int} (h:i<V.length):(((mapN F i V).set i ((V.getD i []).set a x)).getD i []).length=(V.getD i []).length:=by
  rw [getD_setL _ _ _ _ _ (by rw [mapN_len _ _ (by omega)];exact h),if_pos rfl,List.length_set]
theorem mapN_set2 {V:List (List Int)} {i c:Nat} (h:i<V.length):((mapN (colG (c+1)) i V).set i (((mapN (colG (c+1)) i V).getD i []).set (c+1) ((V.getD i []).getD c 0))).set i ((((mapN (colG (c+1)) i V).set i (((mapN (colG (c+1)) i V).getD i []).set (c+1) ((V.getD i []).getD c 0))).getD i []).set c ((V.getD i []).getD (c+1) 0))=mapN (colG (c+1)) (i+1) V:=by
  rw [getD_setL _ _ _ _ _ (by rw [mapN_len _ _ (by omega)];exact h),if_pos rfl,List.set_set,mapN_at h]
  exact mapN_set h rfl
theorem wide_ok {b:List (List Int)} (h0:0<b.length) (h12:b.length≤12) (hr:RectL b) (hc:∀i,(b.getD i []).length≤12) (hp:PosU (gram b) b.length):gsoE b false=0∧gsoR b false=(gDs (gram b) b.length,gLs (gram b) b.length):=by
  have h1:¬bigN b false b.length=true:=rowsTo_end (by omega) fun j hj=>⟨hc j,fun h=>by cases h⟩
  have h2:gshape b false=0:=by
    rw [gshape_else h1 (by omega)]
    unfold shE;rw [if_pos (rect_iff.2 hr)]
  obtain ⟨a,c⟩:=gsoE_3 (b:=b) (bits:=false) (by omega) (gOk_iff.2 hp)
  exact ⟨a,c.trans (gso_yes hp).2⟩
theorem wide_basis {b:List (List Int)} (h:Basis b):gsoE b false=0∧gsoR b false=(gDs (gram b) b.length,gLs (gram b) b.length):=wide_ok h.n0 h.n h.r h.c h.p
theorem pD_le {G:Fi} {n d:Nat} (hp:PosU G n) (hD:∀l,l≤n→uD G l≤((2^d:Nat):Int)):∀k,k≤n→pD G k≤((2^(d*k):Nat):Int)
  | 0,_=>by simp [pD]
  | k+1,h=>by
    have ih:=pD_le hp hD k (by omega)
    have a:=hD (k+1) h
    have b:=mul_pw ih a (Int.le_of_lt (pD_pos hp k (by omega))) (Int.le_of_lt (hp.uD h))
    rw [Nat.mul_succ];exact b
structure LS (b:List (List Int)) (M Dm P:Int) (N K:Nat):Prop where
  lb:LB M Dm N
  m:∀x,x<b.length→gram b x x≤M
  d:∀l,l≤b.length→uD (gram b) l≤Dm
  pe:P=pD (gram b) b.length
  p:P≤((2^K:Nat):Int)
  k:K≤26400000
  me:M=((2^524:Nat):Int)
theorem basis_LS {b:List (List Int)} (h:Basis b):∃M Dm P N K,LS b M Dm P N K:=by
  have hz:∀i j,Sz 524 (gram b i j):=fun i j=>gram_Sz h.z h.r (h.c 0) i j
  have hs:=gram_symG h.r
  have hd:∀l,l≤b.length→uD (gram b) l≤((2^2150400:Nat):Int):=fun l hl=>by
    have h1:=uD_Sz hs hz h.p l hl
    have h2:=szU_le 524 (show l≤12 by have:=h.n;omega)
    have h3:=h1.up (show szU 524 l+1≤2150400+1 by omega)
    have h4:=h1.up (show szU 524 l+1≤2150401 by omega)
    have h5:szU 524 l+1≤2150400:=by
      have:=szU_eq 524 l
      have h6:2^l≤2^12:=Nat.pow_le_pow_right (by decide) (show l≤12 by have:=h.n;omega)
      have h7:=Nat.mul_le_mul_right (524+1) h6
      omega
    have h8:=h1.up h5
    unfold Sz at h8
    generalize (2:Nat)^2150400=X at *
    omega
  obtain ⟨N,hN⟩:=LB_pow 524 2150400 (by decide) (by decide)
  refine ⟨_,_,_,N,2150400*b.length,hN,fun x hx=>?_,hd,rfl,pD_le h.p hd _ (Nat.le_refl _),?_,rfl⟩
  · have:=hz x x
    unfold Sz at this
    omega
  · have:=h.n;omega
theorem WI.swn {b B U V:List (List Int)} {S:List Int} {M Dm P:Int} {N K k:Nat} (h:WI b M Dm P B U V S k) (hL:LS b M Dm P N K):S.length≤79200002:=by
  have:=swaps_le hL.p (pD_pos h.l.c.p b.length (Nat.le_refl _)) h.wc.sw
  have:=hL.k
  omega
end Fw
namespace Fw
open Go Go.Proofs
theorem c_mat_Minus (u v:List Int) (huv:u.length=v.length):Fn Tryz.prog 269 [kVZ.is u,kVZ.is v] (VP.tup [kVC.is (pairV (fun x y=>x-y) u v),kN6.is 0]):=by
 refine aN Tryz.func269 Z Z fun m w=>Cr<|Wa Z<|Wa Z<|Wr<|Wm Z<|Wm Z<|Ws (aB fn218 (aS Z (aS Z (aj Z fR ar))) (c_mat_pairs 213 [] (fun x y=>x-y) u v huv fn213 (fun x y _ _=>f9 x y)))<|Ws (aP Z Z)<|Ws (aP Z Z)<|Wa Z<|Wa Z<|Wn<|aA ?_
 exact Qd Z (aI Z (aI Z ay)) ⟨Z,Z⟩
theorem c_gso_Wide (n:Nat) (b:List (List Int)) (hb:SzM n b) (hn:n≤4194304):Fn Tryz.prog 66 [kMZ.is b] (VP.tup [kGso.is (gsoR b false),kN6.is (gsoE b false)]):=by
 refine aN Tryz.func66 Z Z fun m w=>Cr<|aW .n eo fun b1=>Wa Z<|Wr<|Wm Z<|Ws (f2 fn131 Z Z (c_gso_of n b false (fun _=>hb) hn))<|Ws (aP Z Z)<|Ws (aP Z Z)<|aE .n (aC (l:=kGso) (u:=gsoR b false) 0 Z Z Z bl Z Lr)<|Wa Z<|Wn<|aA ?_
 exact Qd Z (aY Z (ag 0 Z) bl (aI Z ay)) ⟨Z,Z⟩
theorem c_mat_eachRRx (fid:FuncId) (caps:List VP) (F:List Int→List Int) (l:List (List Int)) (hok:FnOk Tryz.prog fid) (hF:∀x,x∈l→Fn Tryz.prog fid (kVZ.is x::caps) (kVC.is (F x))):Con Tryz.prog 223 [kMZ.is l,VP.clo fid caps] [] (fun p Lo=>∃(v:Value),p=VP.ex v∧Lo=[OB.row v 23 kVC (l.map F)]∧True):=by
 refine aN Tryz.func223 Z Z fun m w=>a8 (i:=0) Z bF fun hB=>Cr<|Wa Z<|Wr<|Wm Z<|Ws (aJ Z U22)<|fS l.length .n Z Z Z (by omega) U22 c6 z23_sl_C fun v1=>Wa Z<|Wn<|ab<|Cr<|Wm Z<|Ws (aJ Z U22)<|Wm Z<|Wn<|aF ?_
 refine bU (fun (i:Nat) (v:Value)=>i≤l.length) (fun (i:Nat) (v:Value)=>[(0,kMZ.is l),(1,VP.clo fid caps),(5,VP.ex v),(11,kMZ.is l),(12,kN6.is (l.length:Int)),(13,kN6.is (i:Int))]) (fun (i:Nat) (v:Value)=>[OB.row v 23 kVC ((l.take i).map F)]) (fun (i:Nat) (v:Value)=>l.length-i) 0 v1 (by omega) (ao Z Z Z Z (ac Z (az Z (ah (y:=(0:Int)) (by rfl)) aq))) (a9 (OS.keepLe (bi (by rfl)) OS.nil)) ?_
 intro i v hi
 refine Cr<|Ws (aX Z Z)<|Wn<|ab ?_
 refine aM Z (fun h_t14=>?_)<|fun h_t14=>?_
 ·
  refine Ck<|ab<|aF<|Cr<|Ws (aU i Z Z U22 aK Z (v:=(l.getD i [])) (gd [] (by omega)))<|Ws (aO Z aK)<|Wa Z<|Wn<|ak<|Wm Z<|Wm Z<|Wm Z<|Ws (eQ Z hok (aS Z ar) (hF _ (fu [] (by omega))))<|Ws (bB U22 c6 (bV Z bA) Z (by decide))<|bI 0 .n Z Z Z Lr U22 c6 (by simp;omega) fun v2=>Wa Z<|au<|Qb<|ak<|Ws (aR Z Z (c:=((i:Int)+1)) (aH (by omega))) ?_
  refine Wm Z<|au<|tr 0 Z (y:=((l.take (i+1)).map F)) (fV (by omega)) ?_
  exact bS (i+1) v2 (by omega) (by omega) (ao Z Z Z Z (ac Z (az Z (ah (y:=(((i+1):Nat):Int)) (by rfl)) aq)))<|aG _
 ·
  refine Ex<|Cr<|Wm Z<|Wa Z<|Wn<|aA<|tr 0 Z (y:=(l.map F)) (by rw [List.take_of_length_le (by omega)]) ?_
  exact cg (.inl Z) Z (aI Z ay) (aG _) ⟨v,Z,Z,trivial⟩
theorem c_mat_Formx (l:List (List Int)) (hl:∀r,r∈l→∀x,x∈r→Sm x):Con Tryz.prog 248 [kMZ.is l] [] (fun p Lo=>∃(v:Value),p=VP.ex v∧Lo=[OB.row v 23 kVC l]∧True):=by
 refine aN Tryz.func248 Z Z fun m w=>Cr<|Wa Z<|Wr<|Wm Z<|cC (Li:=[]) (L:=[]) .n fn223 (aS Z (aj Z fR ar)) (c_mat_eachRRx 268 [] (fun x=>x) l fn268 (fun r hr=>c_mat_Form1 r (hl r hr))) fun p_ Lo_ hp_=>?_
 obtain ⟨v1,rfl,rfl,hx_t4⟩:=hp_
 refine Wa Z<|Wn<|aA<|tr 0 Z (y:=l) (by simp) ?_
 exact cg (.inl Z) Z (aI Z ay) (aG _) ⟨v1,Z,Z,trivial⟩
theorem c_mat_Unitf (n:Nat) (hn:n≤12):Con Tryz.prog 142 [kN6.is (n:Int)] [] (fun p Lo=>∃(v:Value) (vs:List Value),p=VP.tup [VP.ex v,kN6.is 0]∧Lo=[OB.row v 23 kVal vs,OB.fam vs 29 kC (unitV n)]∧vs.length=n):=by
 refine aN Tryz.func142 Z Z fun m w=>Cr<|Wa Z<|Wa Z<|Wn<|ab<|aF<|Cr<|Wm Z<|Ws (aX Z Z)<|Wa Z<|Wn ?_
 refine CN Z (by omega) fun h_t7=>?_
 refine Cr<|Wm Z<|Ws (cF Z Z)<|Wa Z<|Wn ?_
 refine CN Z (by omega) fun h_t10=>?_
 refine cx<|Qb<|Cr<|Wa Z<|Wn<|ab<|Cr<|Wm Z<|Wm Z<|Wn<|aF<|bT 23 kVal<|gG 29 kC<|dz (fun (i:Nat) (v:Value) (vs:List Value)=>i≤n∧vs.length=i) (fun (i:Nat) (v:Value) (vs:List Value)=>[(0,kN6.is (n:Int)),(4,VP.ex v),(13,kN6.is (n:Int)),(14,kN6.is (i:Int))]) (fun (i:Nat) (v:Value) (vs:List Value)=>[OB.fam vs 29 kC ((List.range i).map (fun x=>(List.replicate n 0).set x 1)),OB.row v 23 kVal vs]) (fun (i:Nat) (v:Value) (vs:List Value)=>n-i) 0 (.slice none 0 0) [] ⟨Nat.zero_le _,Z⟩ (ac Z (ac Z (ac Z (az Z (ah (y:=(0:Int)) (by rfl)) aq)))) (a9 (OS.keepLe (ff (by rfl) (by rfl)) (OS.keep OS.nil))) ?_
 intro i v vs ⟨hi,hvs⟩
 refine Cr<|Ws (aX Z Z)<|Wn<|ab ?_
 refine aM Z (fun h_t15=>?_)<|fun h_t15=>?_
 ·
  refine Ck<|ab<|aF<|Cr<|Wm Z<|Wa Z<|Wr<|Wm Z<|bH n .n Z Z Z (by omega) U23 bv bd fun v1=>Wa Z<|Wr<|Wm Z<|Wm Z<|Ws (aB eG (aj Z (cP (by omega)) ar) (ew 1))<|Ws (bb (k:=kC) (xs:=(List.replicate n 0)) (n:=(i:Int)) i Z Z (ag 0 Z) U23 af Z (by simp;omega))<|aE .n (co 0 i Z Z Li Z (y0:=((List.replicate n 0).getD i 0)) (gd 0 (by simp;omega)) af Z Lr) ?_
  refine Wn<|ak<|Wm Z<|Wm Z<|bo 0 Z fun hcell_=>Ws (bB U22 cD (cz Z (bn (by assumption)) bA) Z (by decide))<|bI 2 .n Z Z Z Lr U22 cD (by simp;omega) fun v2=>Wa Z<|au<|Qb<|ak<|Ws (aR Z Z (c:=((i:Int)+1)) (aH (by omega)))<|Wm Z<|au<|bg (fam_push 0 Z)<|tf 0 Z (y:=((List.range (i+1)).map (fun x=>(List.replicate n 0).set x 1))) (fq (fun x=>(List.replicate n (0:Int)).set x 1) i) ?_
  exact dd (i+1) v2 (vs++[v1]) (by omega) ⟨by omega,by simp [hvs]⟩ (ac Z (ac Z (ac Z (az Z (ah (y:=(((i+1):Nat):Int)) (by rfl)) aq))))<|aG _
 ·
  refine Ex<|Cr<|Wm Z<|Wa Z<|Wa Z<|Wn<|aA ?_
  have hvl:vs.length=n:=by omega
  refine tf 0 Z (y:=(unitV n)) (by rw [show i=n by omega];rfl)<|bg (bm [1,0] (by decide) Z) ?_
  exact cg (.inl Z) Z (aI Z (aI Z ay)) (aG _) ⟨v,vs,Z,Z,hvl⟩
theorem c_lll_begun (b:List (List Int)) (hZ:Basis b):Con Tryz.prog 200 [kMZ.is b] [] (fun p Lo=>∃(pw:Nat) (vB:Value) (vU:Value) (vV:Value) (vS:Value) (vs:List Value),p=VP.pt pw 0∧Lo=[OB.box pw 173 (kPair kVal (kPair kVal (kPair kVal (kPair kGso kVal)))) (vB,vU,vV,(gDs (gram b) b.length,gLs (gram b) b.length),vS),OB.row vB 23 kVC b,OB.row vU 23 kVC (unitV b.length),OB.row vV 23 kVal vs,OB.fam vs 29 kC (unitV b.length),OB.row vS 3 kI64 []]∧vs.length=b.length):=by
 refine aN Tryz.func200 Z Z fun m w=>a8 (i:=0) Z bF fun hB=>a8 (i:=0) Z fg fun hlc=>?_
 have hb12:=hZ.n
 have hW:=wide_basis hZ
 refine Cr<|Wa Z<|Wr<|Wm Z<|Ws (f1 fn66 Z (c_gso_Wide 256 b hZ.z (by decide)))<|Wm Z<|Ws (aP Z Z)<|Ws (aP Z Z)<|Ax (l:=kGso) (u:=gsoR b false) eo Z bl (fun _=>Z) Lr fun b1=>Wa Z<|Wn<|ab<|tb 0 Z (y:=(gDs (gram b) b.length,gLs (gram b) b.length)) hW.2<|ak<|Wm Z<|Ws (aJ Z U22)<|cC (Li:=[]) (L:=[OB.box b1 25 kGso (gDs (gram b) b.length,gLs (gram b) b.length)]) .n fn142 (aj Z (ah (y:=((b.length:Nat):Int)) (by rfl)) ar) (c_mat_Unit b.length hb12) fun p_ Lo_ hp_=>?_
 obtain ⟨vU,rfl,rfl,hxU⟩:=hp_
 refine Wm Z<|Ws (aP Z Z)<|Ws (aP Z Z)<|Wa Z<|Wa Z<|Wr<|Wm Z<|Ws (aJ Z U22)<|cC (Li:=[]) (L:=[OB.row vU 23 kVC (unitV b.length),OB.box b1 25 kGso (gDs (gram b) b.length,gLs (gram b) b.length)]) .n fn142 (aj Z (ah (y:=((b.length:Nat):Int)) (by rfl)) ar) (c_mat_Unitf b.length hb12) fun p_ Lo_ hp_=>?_
 obtain ⟨vV,vs,rfl,rfl,hxV⟩:=hp_
 refine Wm Z<|Ws (aP Z Z)<|Ws (aP Z Z)<|Wa Z<|Wa Z<|Wn<|ab<|dV (by kernel_rfl)<|bK 0 Z (by kernel_rfl) (by kernel_rfl) (by kernel_rfl) (fun _ _ _ _ _ h=>h) .n (dW Z)<|bK 2 Z (by kernel_rfl) (by kernel_rfl) (by kernel_rfl) (fun _ _ _ _ _ h=>h) .n (dW Z)<|bK 3 Z (by kernel_rfl) (by kernel_rfl) (by kernel_rfl) (fun _ _ _ _ _ h=>h) .n (dW Z) ?_
 refine bO 1 [4] ⟨?_,⟨?_,trivial⟩⟩
 ·
  refine bz Z<|cC (Li:=[]) (L:=[OB.row vV 23 kVal vs,OB.fam vs 29 kC (unitV b.length),OB.row vU 23 kVC (unitV b.length),OB.box b1 25 kGso (gDs (gram b) b.length,gLs (gram b) b.length)]) .n fn248 (aS Z ar) (c_mat_Formx b (hZ.z.sm (by decide))) fun p_ Lo_ hp_=>?_
  obtain ⟨vB,rfl,rfl,hxB⟩:=hp_
  refine au<|bw<|aQ 4<|aT Z .n (ae (p:=kGso.is (gDs (gram b) b.length,gLs (gram b) b.length)) Z (ag 4 Z) Li bl Z)<|bo 0 Z fun hcell_=>bo 3 Z fun hcell_=>bo 1 Z fun hcell_=>bK 5 Z (by kernel_rfl) (by kernel_rfl) (by kernel_rfl) (fun _ _ _ _ _ h=>h) .n (cN gP Z (bC Z (bn (by assumption)) (bC Z (bn (by assumption)) (bC Z (bn (by assumption)) (cy Z br)))) (.cons Z (aD Li) (.cons Z (am (aD Li)) (.cons Z (am (am (aD Li))) (.cons Z (am (am (am (aD Li)))) (.nil _))))))<|aQ 6<|bz Z<|aZ .n Z fun b2=>au<|bw<|aQ 7<|aT Z .n (bt Z)<|bu (by kernel_rfl)<|cw<|aA<|bT 3 kI64<|bg (bm [1,2,5,3,4,0] (by decide) Z) ?_
  exact cg (.inl Z) Z (aI Z ay) (a9 (OS.keepLe (cm (by rfl)) (OS.keep (OS.keep (OS.keep (OS.keep (OS.keep OS.nil))))))) ⟨b2,vB,vU,vV,(.slice none 0 0),vs,Z,Z,hxV⟩
 ·
  refine aT Z .n (ae (p:=kGso.is (gDs (gram b) b.length,gLs (gram b) b.length)) Z (ag 3 Z) Li bl Z)<|aQ 1<|bz Z<|cC (Li:=[]) (L:=[OB.row vV 23 kVal vs,OB.fam vs 29 kC (unitV b.length),OB.row vU 23 kVC (unitV b.length),OB.box b1 25 kGso (gDs (gram b) b.length,gLs (gram b) b.length)]) .n fn248 (aS Z ar) (c_mat_Formx b (hZ.z.sm (by decide))) fun p_ Lo_ hp_=>?_
  obtain ⟨vB,rfl,rfl,hxB⟩:=hp_
  refine au<|bw<|bo 0 Z fun hcell_=>bo 3 Z fun hcell_=>bo 1 Z fun hcell_=>bK 5 Z (by kernel_rfl) (by kernel_rfl) (by kernel_rfl) (fun _ _ _ _ _ h=>h) .n (cN gP Z (bC Z (bn (by assumption)) (bC Z (bn (by assumption)) (bC Z (bn (by assumption)) (cy Z br)))) (.cons Z (aD Li) (.cons Z (am (aD Li)) (.cons Z (am (am (aD Li))) (.cons Z (am (am (am (aD Li)))) (.nil _))))))<|aQ 6<|bz Z<|aZ .n Z fun b3=>au<|bw<|aQ 7<|aT Z .n (bt Z)<|bu (by kernel_rfl)<|cw<|aA<|bT 3 kI64<|bg (bm [1,2,5,3,4,0] (by decide) Z) ?_
  exact cg (.inl Z) Z (aI Z ay) (a9 (OS.keepLe (cm (by rfl)) (OS.keep (OS.keep (OS.keep (OS.keep (OS.keep OS.nil))))))) ⟨b3,vB,vU,vV,(.slice none 0 0),vs,Z,Z,hxV⟩
theorem c_lll_lose (pw:Nat) (vB vU vV vS:Value) (vs:List Value) (B U V:List (List Int)) (G:Nat→Nat→Int) (n mc nB k j:Nat) (q:Int) (hrB:CR n mc B) (hrU:CU n U) (hrV:CU n V) (hvl:vs.length=n) (h0:0<n) (h12:n≤12) (hP:PosU G n) (hs:SymG G) (hD:∀l,l≤n→Sz nB (uD G l)) (hL:∀x l,x<n→l<x→Sz nB (uE G l x l)) (hq:Sz nB q) (zB:SzM nB B) (zU:SzM nB U) (zV:SzM nB V) (hj:j<k) (hk:k<n) (hN:nB≤34359738368):Con Tryz.prog 251 [VP.pt pw 0,kN6.is (k:Int),kN6.is (j:Int),kZ.is q] [OB.box pw 173 (kPair kVal (kPair kVal (kPair kVal (kPair kGso kVal)))) (vB,vU,vV,(gDs (G) n,gLs (G) n),vS),OB.row vB 23 kVC B,OB.row vU 23 kVC U,OB.row vV 23 kVal vs,OB.fam vs 29 kC V] (fun p Lo=>p=VP.tup []∧Lo=[OB.box pw 173 (kPair kVal (kPair kVal (kPair kVal (kPair kGso kVal)))) (vB,vU,vV,(gDs (rowI G k j (-q)) n,gLs (rowI G k j (-q)) n),vS),OB.row vB 23 kVC (rowU B k j (-q)),OB.row vU 23 kVC (rowU U k j (-q)),OB.row vV 23 kVal vs,OB.fam vs 29 kC (colV V k j q)]∧True):=by
 refine aN Tryz.func251 Z Z fun m w=>?_
 have hlB:=hrB.len
 have hlU:=hrU.len
 have hlV:=hrV.len
 refine Cr<|aZ .n Z fun b1=>Wn<|ab ?_
 refine a5 (Γ:=[.fr (VP.pt pw 0),.fr (VP.pt pw 0),.fr (VP.pt pw 0),.fr (VP.ex vB),.fr (kN6.is (k:Int)),.fr (VP.pt pw 0),.fr (VP.pt pw 0),.fr (VP.pt pw 0),.fr (VP.ex vB),.fr (kN6.is (k:Int)),.fr (VP.pel vB (k*1)),.fr (kVC.is (B.getD k [])),.fr (kZ.is q),.fr (VP.pt pw 0),.fr (VP.pt pw 0),.fr (VP.pt pw 0),.fr (VP.ex vB),.fr (kN6.is (j:Int)),.fr (VP.pel vB (j*1)),.fr (kVC.is (B.getD j [])),.fr (kVC.is ((B.getD j []).map (fun x=>q*x))),.fr (VP.tup [kVC.is (pairV (fun x y=>x-y) (B.getD k []) ((B.getD j []).map (fun x=>q*x))),kN6.is 0]),.fr (VP.tup [kVC.is (pairV (fun x y=>x-y) (B.getD k []) ((B.getD j []).map (fun x=>q*x))),kN6.is 0]),.fr (kVC.is (pairV (fun x y=>x-y) (B.getD k []) ((B.getD j []).map (fun x=>q*x)))),.lt (kN6.is 0),.fr (VP.pel vB (k*1))]) (om Z Z (ch Z Z (aa Z (fun N=>aw Z gi Z) (aa Z (fun N=>aV (ae (p:=kVal.is vB) Z (mN N 1 Z) (aD Li) bf Z) (bc _)) (om Z Z (om Z Z (ch Z Z (aa Z (fun N=>aw Z gi Z) (aa Z (fun N=>aV (ae (p:=kVal.is vB) Z (mN N 1 Z) (aD Li) bf Z) (bc _)) (om Z Z (aa Z (fun N=>bb (k:=kVC) (xs:=B) (n:=(k:Int)) k Z Z (mN N 2 Z) U22 aK Z (by omega)) (aa Z (fun N=>bp k Z (mN N 2 Z) Li Z (y:=(B.getD k [])) (gd [] (by omega)) aK Z) (aa Z (fun N=>ae Z (mN N 0 Z) Li af Z) (om Z Z (ch Z Z (aa Z (fun N=>aw Z gi Z) (aa Z (fun N=>aV (ae (p:=kVal.is vB) Z (mN N 1 Z) (aD Li) bf Z) (bc _)) (om Z Z (aa Z (fun N=>bb (k:=kVC) (xs:=B) (n:=(j:Int)) j Z Z (mN N 2 Z) U22 aK Z (by omega)) (aa Z (fun N=>bp j Z (mN N 2 Z) Li Z (y:=(B.getD j [])) (gd [] (by omega)) aK Z) (aa Z (fun N=>aB fn148 (aS Z (aj Z (dB ((zB _).sm (by omega))) ar)) (c_mat_Times q (B.getD j []))) (aa Z (fun N=>aB fn269 (aj Z (dB ((zB _).sm (by omega))) (aj Z (dB ((timesV_Sz (zB _) hq).sm (by omega))) ar)) (c_mat_Minus (B.getD k []) ((B.getD j []).map (fun x=>q*x)) (by rw [hrB.row k hk,List.length_map,hrB.row j (by omega)]))) (om Z Z (aa Z (fun N=>aP Z Z) (oc (dc Z .n (dw Z Z)) (aa Z (fun N=>bb (k:=kVC) (xs:=B) (n:=(k:Int)) k Z Z (mN N 2 Z) U22 aK Z (by omega)) oz))))))))))))))))))))))))))<|fun σ1=>?_
 refine aE .n (co 2 k Z Z Li Z (y0:=(B.getD k [])) (gd [] (by omega)) aK Z Lr)<|Wn<|ab<|tr 2 Z (y:=(rowU B k j (-q))) (by rw [minus_row];rfl) ?_
 refine a5 (Γ:=[.fr (VP.pt pw 0),.fr (VP.pt pw 0),.fr (VP.pt pw 1),.fr (VP.ex vU),.fr (kN6.is (k:Int)),.fr (VP.pt pw 0),.fr (VP.pt pw 0),.fr (VP.pt pw 1),.fr (VP.ex vU),.fr (kN6.is (k:Int)),.fr (VP.pel vU (k*1)),.fr (kVC.is (U.getD k [])),.fr (kZ.is q),.fr (VP.pt pw 0),.fr (VP.pt pw 0),.fr (VP.pt pw 1),.fr (VP.ex vU),.fr (kN6.is (j:Int)),.fr (VP.pel vU (j*1)),.fr (kVC.is (U.getD j [])),.fr (kVC.is ((U.getD j []).map (fun x=>q*x))),.fr (VP.tup [kVC.is (pairV (fun x y=>x-y) (U.getD k []) ((U.getD j []).map (fun x=>q*x))),kN6.is 0]),.fr (VP.tup [kVC.is (pairV (fun x y=>x-y) (U.getD k []) ((U.getD j []).map (fun x=>q*x))),kN6.is 0]),.fr (kVC.is (pairV (fun x y=>x-y) (U.getD k []) ((U.getD j []).map (fun x=>q*x)))),.lt (kN6.is 0),.fr (VP.pel vU (k*1))]) (om Z Z (ch Z Z (aa Z (fun N=>aw Z fld173_1 Z) (aa Z (fun N=>aV (ae (p:=kVal.is vU) Z (mN N 1 Z) (am (aD Li)) bf Z) (bc _)) (om Z Z (om Z Z (ch Z Z (aa Z (fun N=>aw Z fld173_1 Z) (aa Z (fun N=>aV (ae (p:=kVal.is vU) Z (mN N 1 Z) (am (aD Li)) bf Z) (bc _)) (om Z Z (aa Z (fun N=>bb (k:=kVC) (xs:=U) (n:=(k:Int)) k Z Z (mN N 3 Z) U22 aK Z (by omega)) (aa Z (fun N=>bp k Z (mN N 3 Z) Li Z (y:=(U.getD k [])) (gd [] (by omega)) aK Z) (aa Z (fun N=>ae Z (mN N 0 Z) Li af Z) (om Z Z (ch Z Z (aa Z (fun N=>aw Z fld173_1 Z) (aa Z (fun N=>aV (ae (p:=kVal.is vU) Z (mN N 1 Z) (am (aD Li)) bf Z) (bc _)) (om Z Z (aa Z (fun N=>bb (k:=kVC) (xs:=U) (n:=(j:Int)) j Z Z (mN N 3 Z) U22 aK Z (by omega)) (aa Z (fun N=>bp j Z (mN N 3 Z) Li Z (y:=(U.getD j [])) (gd [] (by omega)) aK Z) (aa Z (fun N=>aB fn148 (aS Z (aj Z (dB ((zU _).sm (by omega))) ar)) (c_mat_Times q (U.getD j []))) (aa Z (fun N=>aB fn269 (aj Z (dB ((zU _).sm (by omega))) (aj Z (dB ((timesV_Sz (zU _) hq).sm (by omega))) ar)) (c_mat_Minus (U.getD k []) ((U.getD j []).map (fun x=>q*x)) (by rw [hrU.row k hk,List.length_map,hrU.row j (by omega)]))) (om Z Z (aa Z (fun N=>aP Z Z) (oc (dc Z .n (dw Z Z)) (aa Z (fun N=>bb (k:=kVC) (xs:=U) (n:=(k:Int)) k Z Z (mN N 3 Z) U22 aK Z (by omega)) oz))))))))))))))))))))))))))<|fun σ2=>?_
 refine aE .n (co 3 k Z Z Li Z (y0:=(U.getD k [])) (gd [] (by omega)) aK Z Lr)<|Wn<|ab<|ab<|tr 3 Z (y:=(rowU U k j (-q))) (by rw [minus_row];rfl)<|ak<|Wm Z<|Ws (cM Z)<|Ws (aw Z fI Z)<|Ws (aV (ae (p:=kVal.is vV) Z (ag 1 Z) (am (am (aD Li))) bf Z) (bc _))<|Ws (de Z (ag 4 Z) U22)<|Wm Z<|Wn<|aF<|tl 65 Z (y:=(n:Int)) (by rw [hvl])<|tf 5 Z (y:=(mapN (colF k j q) 0 V)) (mapN_0 _ _).symm<|bJ (fun (i:Nat)=>i≤n) (fun (i:Nat)=>[(0,VP.pt pw 0),(1,kN6.is (k:Int)),(2,kN6.is (j:Int)),(7,VP.pt b1 0),(65,kN6.is (n:Int)),(66,kN6.is (i:Int))]) (fun (i:Nat)=>[OB.box b1 29 kZ q,OB.box pw 173 (kPair kVal (kPair kVal (kPair kVal (kPair kGso kVal)))) (vB,vU,vV,(gDs (G) n,gLs (G) n),vS),OB.row vB 23 kVC (rowU B k j (-q)),OB.row vU 23 kVC (rowU U k j (-q)),OB.row vV 23 kVal vs,OB.fam vs 29 kC (mapN (colF k j q) i V)]) (fun (i:Nat)=>n-i) 0 (by omega) (ao Z Z Z Z (ac Z (az Z (ah (y:=(0:Int)) (by rfl)) aq))) (aG _) ?_
 intro i hi
 refine Cr<|Ws (aX Z Z)<|Wn<|ab ?_
 refine aM Z (fun h_t67=>?_)<|fun h_t67=>?_
 ·
  refine Ck<|ab<|aF<|Cr<|Wm Z<|Wa Z<|Wn ?_
  refine a5 (Γ:=[.fr (VP.pt pw 0),.fr (VP.pt pw 0),.fr (VP.pt pw 2),.fr (VP.ex vV),.fr (kN6.is (i:Int)),.fr (VP.pel vV (i*1)),.fr (VP.ex (vs.getD i nilV)),.fr (kN6.is (j:Int)),.fr (VP.pt pw 0),.fr (VP.pt pw 0),.fr (VP.pt pw 2),.fr (VP.ex vV),.fr (kN6.is (i:Int)),.fr (VP.pel vV (i*1)),.fr (VP.ex (vs.getD i nilV)),.fr (kN6.is (j:Int)),.fr (VP.pel (vs.getD i nilV) (j*2)),.fr (kC.is ((V.getD i []).getD j 0)),.fr (kZ.is q),.fr (VP.pt pw 0),.fr (VP.pt pw 0),.fr (VP.pt pw 2),.fr (VP.ex vV),.fr (kN6.is (i:Int)),.fr (VP.pel vV (i*1)),.fr (VP.ex (vs.getD i nilV)),.fr (kN6.is (k:Int)),.fr (VP.pel (vs.getD i nilV) (k*2)),.fr (kC.is ((V.getD i []).getD k 0)),.fr (kC.is (q*((V.getD i []).getD k 0))),.fr (kC.is (((V.getD i []).getD j 0)+(q*((V.getD i []).getD k 0)))),.fr (VP.pel (vs.getD i nilV) (j*2))]) (om Z Z (ch Z Z (aa Z (fun N=>aw Z fI Z) (aa Z (fun N=>aV (ae (p:=kVal.is vV) Z (mN N 1 Z) (am (am (aD Li))) bf Z) (bc _)) (om Z Z (aa Z (fun N=>bb (k:=kVal) (xs:=vs) (n:=(i:Int)) i Z Z (mN N 4 Z) U22 aK Z (by omega)) (aa Z (fun N=>aV (bp i Z (mN N 4 Z) Li Z (y:=(vs.getD i nilV)) (gd nilV (by omega)) aK Z) (bc _)) (om Z Z (om Z Z (ch Z Z (aa Z (fun N=>aw Z fI Z) (aa Z (fun N=>aV (ae (p:=kVal.is vV) Z (mN N 1 Z) (am (am (aD Li))) bf Z) (bc _)) (om Z Z (aa Z (fun N=>bb (k:=kVal) (xs:=vs) (n:=(i:Int)) i Z Z (mN N 4 Z) U22 aK Z (by omega)) (aa Z (fun N=>aV (bp i Z (mN N 4 Z) Li Z (y:=(vs.getD i nilV)) (gd nilV (by omega)) aK Z) (bc _)) (om Z Z (aa Z (fun N=>cZ (e:=29) (k:=kC) (xss:=(mapN (colF k j q) i V)) (n:=(j:Int)) i j Z Z (mN N 5 Z) Z (by omega) U23 af Z (by rw [mapN_at (by rw [hrV.len];omega),hrV.row _ (by omega)];omega)) (aa Z (fun N=>dJ (k:=kC) (xss:=(mapN (colF k j q) i V)) i j Z (mN N 5 Z) Z (by omega) Li Z (y:=((V.getD i []).getD j 0)) (fH (by omega) (by rw [hrV.row i (by omega)];omega)) af Z) (aa Z (fun N=>ae Z (mN N 0 Z) Li af Z) (om Z Z (ch Z Z (aa Z (fun N=>aw Z fI Z) (aa Z (fun N=>aV (ae (p:=kVal.is vV) Z (mN N 1 Z) (am (am (aD Li))) bf Z) (bc _)) (om Z Z (aa Z (fun N=>bb (k:=kVal) (xs:=vs) (n:=(i:Int)) i Z Z (mN N 4 Z) U22 aK Z (by omega)) (aa Z (fun N=>aV (bp i Z (mN N 4 Z) Li Z (y:=(vs.getD i nilV)) (gd nilV (by omega)) aK Z) (bc _)) (om Z Z (aa Z (fun N=>cZ (e:=29) (k:=kC) (xss:=(mapN (colF k j q) i V)) (n:=(k:Int)) i k Z Z (mN N 5 Z) Z (by omega) U23 af Z (by rw [mapN_at (by rw [hrV.len];omega),hrV.row _ (by omega)];omega)) (aa Z (fun N=>dJ (k:=kC) (xss:=(mapN (colF k j q) i V)) i k Z (mN N 5 Z) Z (by omega) Li Z (y:=((V.getD i []).getD k 0)) (fH (by omega) (by rw [hrV.row i (by omega)];omega)) af Z) (aa Z (fun N=>aB cY (aS Z (aj Z (aL ((zV i k).sm (by omega))) ar)) (cW q ((V.getD i []).getD k 0))) (aa Z (fun N=>aB el (aj Z (aL ((zV i j).sm (by omega))) (aj Z (aL ((hq.mul (zV i k)).sm (by omega))) ar)) (ed ((V.getD i []).getD j 0) (q*((V.getD i []).getD k 0)))) (aa Z (fun N=>cZ (e:=29) (k:=kC) (xss:=(mapN (colF k j q) i V)) (n:=(j:Int)) i j Z Z (mN N 5 Z) Z (by omega) U23 af Z (by rw [mapN_at (by rw [hrV.len];omega),hrV.row _ (by omega)];omega)) oz))))))))))))))))))))))))))))))))<|fun σ3=>?_
  refine aE .n (d7 5 i j Z Z Z (by omega) Li Z (y0:=(((mapN (colF k j q) i V).getD i []).getD j 0)) (gd 0 (by rw [mapN_at (by rw [hrV.len];omega),hrV.row _ (by omega)];omega)) af Z Lr)<|au<|Qb<|ak<|Ws (aR Z Z (c:=((i:Int)+1)) (aH (by omega)))<|Wm Z<|au<|tf 5 Z (y:=(mapN (colF k j q) (i+1) V)) (mapN_set (by omega) (by rw [mapN_at (by omega)];rfl)) ?_
  exact bE (i+1) (by omega) (by omega) (ao Z Z Z Z (ac Z (az Z (ah (y:=(((i+1):Nat):Int)) (by rfl)) aq)))<|aG _
 ·
  refine Ex<|tf 5 Z (y:=(colV V k j q)) (mapN_end (by omega)) ?_
  refine a5 (Γ:=[.fr (VP.pt pw 0),.fr (VP.pt pw 0),.fr (VP.pt pw 0),.fr (VP.pt pw 3),.fr (kGso.is (gDs (G) n,gLs (G) n)),.fr (kN6.is (k:Int)),.fr (kN6.is (j:Int)),.fr (kZ.is q),.fr (kC.is (-q)),.fr (VP.tup [kGso.is (gDs (rowI G k j (-q)) n,gLs (rowI G k j (-q)) n),kN6.is 0]),.fr (VP.tup [kGso.is (gDs (rowI G k j (-q)) n,gLs (rowI G k j (-q)) n),kN6.is 0]),.fr (kGso.is (gDs (rowI G k j (-q)) n,gLs (rowI G k j (-q)) n)),.lt (kN6.is 0),.fr (VP.pt pw 0),.fr (VP.pt pw 3)]) (om Z Z (om Z Z (ch Z Z (aa Z (fun N=>aw Z fw Z) (aa Z (fun N=>ae (p:=kGso.is (gDs (G) n,gLs (G) n)) Z (mN N 1 Z) (am (am (am (aD Li)))) bl Z) (om Z Z (om Z Z (aa Z (fun N=>ae Z (mN N 0 Z) Li af Z) (aa Z (fun N=>f1 fn145 Z (ga q)) (aa Z (fun N=>aB fn146 (aj Z (ah (y:=(gDs G n,gLs G n)) (by rfl)) (aS Z (aS Z (aj Z (aL (hq.neg.sm (by omega))) ar)))) (c_gso_AddRow G n nB (by assumption) (by assumption) (by assumption) (by assumption) (by omega) k j (-q) (by assumption) (by assumption) (by assumption) (by assumption) hq.neg)) (om Z Z (aa Z (fun N=>aP Z Z) (oc (dc Z .n (dw Z Z)) (ch Z Z (aa Z (fun N=>aw Z fw Z) oz)))))))))))))))<|fun σ4=>?_
  refine aE .n (dx 1 Z Z (am (am (am (aD Li)))) bl Z Lr)<|au<|bg (bm [1,2,3,4,5] (by decide) Z) ?_
  exact cg (.inr Z) Z ay (a9 (OS.keepLe (cm (by rfl)) (OS.keep (OS.keep (OS.keep (OS.keep OS.nil)))))) ⟨Z,Z,trivial⟩
theorem c_lll_holds (G:Nat→Nat→Int) (n B:Nat) (h0:0<n) (h12:n≤12) (hP:PosU G n) (hD:∀k,k≤n→Sz B (uD G k)) (hB:B≤68719476736) (p:Nat) (hp1:p+1<n) (hs:SymG G) (hL:∀x k,x<n→k<x→Sz B (uE G k x k)) (hB8:B≤4294967296):Fn Tryz.prog 249 [kGso.is (gDs G n,gLs G n),kN6.is ((p:Int)+1)] (kBool.is (decide (lov G (p+1)))):=by
 refine aN Tryz.func249 Z Z fun m w=>?_
 have z0:=hD p (by omega)
 have z1:=hD (p+1) (by omega)
 have z2:=hD (p+2) (by omega)
 have zl:=hL (p+1) p hp1 (by omega)
 have z3:Sz 3 3:=show (3:Int).natAbs<2^3 by decide
 have z4:Sz 3 4:=show (4:Int).natAbs<2^3 by decide
 refine Cr<|aZ .n Z fun b1=>Wa Z<|Wr<|Ws (aw Z ct Z)<|Ws (ae (p:=kMC.is (gLs G n)) Z (ag 0 Z) (am Li) bf Z)<|Wm Z<|Ws (aU (p+1) Z Z U22 aK (by omega) (v:=((gLs G n).getD (p+1) [])) (gd [] (by simp only [gRow_len,gDs_len,gLs_len];omega)))<|Ws (aO Z aK)<|Wm Z<|Ws (bj Z Z (c:=(((p:Int)+1)-1)) (aH (by omega)))<|Ws (aU p Z Z U23 af (by omega) (v:=(uE G p (p+1) p)) (fQ (by omega) (by omega)))<|Ws (aO Z af)<|Ax (l:=kC) (u:=(uE G p (p+1) p)) bd Z af (fun _=>Z) Lr fun b2=>Wn<|ab ?_
 refine a5 (Γ:=[.fr (VP.pt b1 0),.fr (kVC.is (gDs G n)),.fr (kN6.is ((p:Int)+1)),.fr (kN6.is (((p:Int)+1)-1)),.fr (VP.pim kC (uD G p)),.fr (kC.is (uD G p)),.fr (VP.pt b1 0),.fr (kVC.is (gDs G n)),.fr (kN6.is ((p:Int)+1)),.fr (kN6.is (((p:Int)+1)+1)),.fr (VP.pim kC (uD G (p+2))),.fr (kC.is (uD G (p+2))),.fr (kC.is ((uD G p)*(uD G (p+2)))),.fr (kC.is (uE G p (p+1) p)),.fr (kC.is (uE G p (p+1) p)),.fr (kC.is ((uE G p (p+1) p)*(uE G p (p+1) p))),.fr (kC.is (((uD G p)*(uD G (p+2)))+((uE G p (p+1) p)*(uE G p (p+1) p)))),.al (fun b=>OB.box b 29 kC 0)]) (aa Z (fun N=>aw Z cK Z) (aa Z (fun N=>ae (p:=kVC.is (gDs G n)) Z (mN N 1 Z) (aD Li) aK Z) (om Z Z (aa Z (fun N=>bj Z Z (c:=(((p:Int)+1)-1)) (aH (by omega))) (aa Z (fun N=>aU p Z Z U23 af (by omega) (v:=(uD G p)) (dv (by omega))) (aa Z (fun N=>aO Z af) (aa Z (fun N=>aw Z cK Z) (aa Z (fun N=>ae (p:=kVC.is (gDs G n)) Z (mN N 1 Z) (aD Li) aK Z) (om Z Z (aa Z (fun N=>aR Z Z (c:=(((p:Int)+1)+1)) (aH (by omega))) (aa Z (fun N=>aU (p+2) Z Z U23 af (by omega) (v:=(uD G (p+2))) (dv (by omega))) (aa Z (fun N=>aO Z af) (aa Z (fun N=>aB cY (aj Z (aL (z0.sm (by omega))) (aj Z (aL (z2.sm (by omega))) ar)) (cW (uD G p) (uD G (p+2)))) (aa Z (fun N=>ae Z (mN N 0 Z) Li af Z) (aa Z (fun N=>ae Z (mN N 0 Z) Li af Z) (aa Z (fun N=>aB cY (aj Z (aL (zl.sm (by omega))) (aj Z (aL (zl.sm (by omega))) ar)) (cW (uE G p (p+1) p) (uE G p (p+1) p))) (aa Z (fun N=>aB el (aj Z (aL ((z0.mul z2).sm (by omega))) (aj Z (aL ((zl.mul zl).sm (by omega))) ar)) (ed ((uD G p)*(uD G (p+2))) ((uE G p (p+1) p)*(uE G p (p+1) p)))) (oc (cR Z bd) oz))))))))))))))))))<|fun σ1=>?_
 refine aE .n (aC (l:=kC) (u:=((uD G p)*(uD G (p+2)))+((uE G p (p+1) p)*(uE G p (p+1) p))) 0 Z Z Z af Z Lr)<|Wn<|ab ?_
 refine a5 (Γ:=[.fr (kC.is 3),.fr (VP.pt b1 0),.fr (kVC.is (gDs G n)),.fr (kN6.is ((p:Int)+1)),.fr (VP.pim kC (uD G (p+1))),.fr (kC.is (uD G (p+1))),.fr (VP.pt b1 0),.fr (kVC.is (gDs G n)),.fr (kN6.is ((p:Int)+1)),.fr (VP.pim kC (uD G (p+1))),.fr (kC.is (uD G (p+1))),.fr (kC.is ((uD G (p+1))*(uD G (p+1)))),.fr (kC.is (3*((uD G (p+1))*(uD G (p+1))))),.fr (kC.is 4),.fr (kC.is (((uD G p)*(uD G (p+2)))+((uE G p (p+1) p)*(uE G p (p+1) p)))),.fr (kC.is (4*(((uD G p)*(uD G (p+2)))+((uE G p (p+1) p)*(uE G p (p+1) p))))),.fr (kN6.is (((3*((uD G (p+1))*(uD G (p+1))))-(4*(((uD G p)*(uD G (p+2)))+((uE G p (p+1) p)*(uE G p (p+1) p))))).sign)),.fr (kBool.is (decide ((((3*((uD G (p+1))*(uD G (p+1))))-(4*(((uD G p)*(uD G (p+2)))+((uE G p (p+1) p)*(uE G p (p+1) p))))).sign)≤0)))]) (aa Z (fun N=>aB eG (aj Z (cP (by omega)) ar) (ew 3)) (aa Z (fun N=>aw Z cK Z) (aa Z (fun N=>ae (p:=kVC.is (gDs G n)) Z (mN N 2 Z) (aD Li) aK Z) (om Z Z (aa Z (fun N=>aU (p+1) Z Z U23 af (by omega) (v:=(uD G (p+1))) (dv (by omega))) (aa Z (fun N=>aO Z af) (aa Z (fun N=>aw Z cK Z) (aa Z (fun N=>ae (p:=kVC.is (gDs G n)) Z (mN N 2 Z) (aD Li) aK Z) (om Z Z (aa Z (fun N=>aU (p+1) Z Z U23 af (by omega) (v:=(uD G (p+1))) (dv (by omega))) (aa Z (fun N=>aO Z af) (aa Z (fun N=>aB cY (aj Z (aL (z1.sm (by omega))) (aj Z (aL (z1.sm (by omega))) ar)) (cW (uD G (p+1)) (uD G (p+1)))) (aa Z (fun N=>aB cY (aj Z (aL (z3.sm (by omega))) (aj Z (aL ((z1.mul z1).sm (by omega))) ar)) (cW 3 ((uD G (p+1))*(uD G (p+1))))) (aa Z (fun N=>aB eG (aj Z (cP (by omega)) ar) (ew 4)) (aa Z (fun N=>ae Z (mN N 0 Z) Li af Z) (aa Z (fun N=>aB cY (aj Z (aL (z4.sm (by omega))) (aj Z (aL ((fz (z0.mul z2) (zl.mul zl)).sm (by omega))) ar)) (cW 4 (((uD G p)*(uD G (p+2)))+((uE G p (p+1) p)*(uE G p (p+1) p))))) (aa Z (fun N=>aB fn119 (aj Z (aL ((z3.mul (z1.mul z1)).sm (by omega))) (aj Z (aL ((z4.mul (fz (z0.mul z2) (zl.mul zl))).sm (by omega))) ar)) (c_zint_Compare (3*((uD G (p+1))*(uD G (p+1)))) (4*(((uD G p)*(uD G (p+2)))+((uE G p (p+1) p)*(uE G p (p+1) p)))))) (aa Z (fun N=>dL Z Z) oz))))))))))))))))))<|fun σ2=>?_
 refine Wa Z<|Wn<|aA<|tl 4 Z (y:=(decide (lov G (p+1)))) (decide_eq_decide.2 (lov_iff hs hP hp1)) ?_
 exact Qd Z (aI Z ay) ⟨Z,Z⟩
theorem c_lll_swap (pw:Nat) (vB vU vV vS:Value) (vs:List Value) (B U V:List (List Int)) (S:List Int) (G:Nat→Nat→Int) (n mc nB c:Nat) (hrB:CR n mc B) (hrU:CU n U) (hrV:CU n V) (hvl:vs.length=n) (h0:0<n) (h12:n≤12) (hP:PosU G n) (hs:SymG G) (hD:∀l,l≤n→Sz nB (uD G l)) (hL:∀x l,x<n→l<x→Sz nB (uE G l x l)) (hc:c+1<n) (hS:S.length≤79200002) (hN:nB≤34359738368):Con Tryz.prog 250 [VP.pt pw 0,kN6.is ((c:Int)+1)] [OB.box pw 173 (kPair kVal (kPair kVal (kPair kVal (kPair kGso kVal)))) (vB,vU,vV,(gDs (G) n,gLs (G) n),vS),OB.row vB 23 kVC B,OB.row vU 23 kVC U,OB.row vV 23 kVal vs,OB.fam vs 29 kC V,OB.row vS 3 kI64 S] (fun p Lo=>∃(vT:Value),p=VP.tup []∧Lo=[OB.box pw 173 (kPair kVal (kPair kVal (kPair kVal (kPair kGso kVal)))) (vB,vU,vV,(gDs (swpI G c) n,gLs (swpI G c) n),vT),OB.row vB 23 kVC (swpU B c),OB.row vU 23 kVC (swpU U c),OB.row vV 23 kVal vs,OB.fam vs 29 kC (colS V (c+1)),OB.row vT 3 kI64 (S++[((c:Int)+1)])]∧True):=by
 refine aN Tryz.func250 Z Z fun m w=>?_
 have hlB:=hrB.len
 have hlU:=hrU.len
 have hlV:=hrV.len
 refine ab ?_
 refine CW.draw (Γ:=[.fr (VP.pt pw 0),.fr (VP.pt pw 0),.fr (VP.pt pw 0),.fr (VP.ex vB),.fr (kN6.is ((c:Int)+1)),.fr (VP.pt pw 0),.fr (VP.pt pw 0),.fr (VP.pt pw 0),.fr (VP.ex vB),.lt (kN6.is ((c:Int)+1)),.lt (kN6.is (((c:Int)+1)-1)),.fr (VP.pt pw 0),.fr (VP.pt pw 0),.fr (VP.pt pw 0),.fr (VP.ex vB),.fr (kN6.is ((c:Int)+1)),.fr (kN6.is (((c:Int)+1)-1)),.fr (VP.pel vB (c*1)),.fr (kVC.is (B.getD c [])),.fr (VP.pt pw 0),.fr (VP.pt pw 0),.fr (VP.pt pw 0),.fr (VP.ex vB),.fr (kN6.is ((c:Int)+1)),.fr (VP.pel vB ((c+1)*1)),.fr (kVC.is (B.getD (c+1) [])),.fr (VP.pel vB ((c+1)*1))]) (lates:=[false,false,false,false,false,false,false,false,false,true,true,false,false,false,false,false,false,false,false,false,false,false,false,false,false,false,false]) (by kernel_rfl) (Chk.of Z (by kernel_rfl) Z) (fun _ _ _ _ _ h=>h) (fun q_ x_ h_=>?_)<|fun σ1=>?_
 ·
  match q_,h_ with
  | 0,h_=>cases h_;exact Ob.f rfl .n fun N=>(O.mv rfl)
  | 1,h_=>cases h_;exact Ob.f rfl .n fun N=>(O.nck rfl)
  | 2,h_=>cases h_;exact Ob.f rfl .n fun N=>(O.fa rfl fld173_0 rfl)
  | 3,h_=>cases h_;exact Ob.f rfl .n fun N=>(OpOk.le (O.ld (p:=kVal.is vB) rfl (mN N 0 rfl) (Lens.fst Li) ty22 rfl) (val_ex _))
  | 4,h_=>cases h_;exact Ob.f rfl .n fun N=>(O.mv rfl)
  | 5,h_=>cases h_;exact Ob.f rfl .n fun N=>(O.mv rfl)
  | 6,h_=>cases h_;exact Ob.f rfl .n fun N=>(O.nck rfl)
  | 7,h_=>cases h_;exact Ob.f rfl .n fun N=>(O.fa rfl fld173_0 rfl)
  | 8,h_=>cases h_;exact Ob.f rfl .n fun N=>(OpOk.le (O.ld (p:=kVal.is vB) rfl (mN N 0 rfl) (Lens.fst Li) ty22 rfl) (val_ex _))
  | 9,h_=>cases h_;exact Ob.l rfl .n (OV.mv rfl)
  | 10,h_=>cases h_;exact Ob.l rfl .n (OV.sub rfl rfl (c:=(((c:Int)+1)-1)) (w64 (by omega)))
  | 11,h_=>cases h_;exact Ob.f rfl .n fun N=>(O.mv rfl)
  | 12,h_=>cases h_;exact Ob.f rfl .n fun N=>(O.nck rfl)
  | 13,h_=>cases h_;exact Ob.f rfl .n fun N=>(O.fa rfl fld173_0 rfl)
  | 14,h_=>cases h_;exact Ob.f rfl .n fun N=>(OpOk.le (O.ld (p:=kVal.is vB) rfl (mN N 0 rfl) (Lens.fst Li) ty22 rfl) (val_ex _))
  | 15,h_=>cases h_;exact Ob.f rfl .n fun N=>(O.mv rfl)
  | 16,h_=>cases h_;exact Ob.f rfl .n fun N=>(O.sub rfl rfl (c:=(((c:Int)+1)-1)) (w64 (by omega)))
  | 17,h_=>cases h_;exact Ob.f rfl .n fun N=>(O.ixR (k:=kVC) (xs:=B) (n:=(((c:Int)+1)-1)) c rfl rfl (mN N 1 rfl) U22 ty23 (by omega) (by omega))
  | 18,h_=>cases h_;exact Ob.f rfl .n fun N=>(O.ldR c rfl (mN N 1 rfl) Li rfl (y:=(B.getD c [])) (gd [] (by omega)) ty23 rfl)
  | 19,h_=>cases h_;exact Ob.f rfl .n fun N=>(O.mv rfl)
  | 20,h_=>cases h_;exact Ob.f rfl .n fun N=>(O.nck rfl)
  | 21,h_=>cases h_;exact Ob.f rfl .n fun N=>(O.fa rfl fld173_0 rfl)
  | 22,h_=>cases h_;exact Ob.f rfl .n fun N=>(OpOk.le (O.ld (p:=kVal.is vB) rfl (mN N 0 rfl) (Lens.fst Li) ty22 rfl) (val_ex _))
  | 23,h_=>cases h_;exact Ob.f rfl .n fun N=>(O.mv rfl)
  | 24,h_=>cases h_;exact Ob.f rfl .n fun N=>(O.ixR (k:=kVC) (xs:=B) (n:=((c:Int)+1)) (c+1) rfl rfl (mN N 1 rfl) U22 ty23 (by omega) (by omega))
  | 25,h_=>cases h_;exact Ob.f rfl .n fun N=>(O.ldR (c+1) rfl (mN N 1 rfl) Li rfl (y:=(B.getD (c+1) [])) (gd [] (by omega)) ty23 rfl)
  | 26,h_=>cases h_;exact Ob.f rfl .n fun N=>(O.ixR (k:=kVC) (xs:=B) (n:=((c:Int)+1)) (c+1) rfl rfl (mN N 1 rfl) U22 ty23 (by omega) (by omega))
  | n_+27,h_=>simp at h_
 refine aE .n (co 1 (c+1) Z Z Li Z (y0:=(B.getD (c+1) [])) (gd [] (by omega)) aK Z Lr)<|Ws (bb (k:=kVC) (xs:=(B.set (c+1) (B.getD c []))) (n:=(((c:Int)+1)-1)) c Z Z (ag 1 Z) U22 aK (by omega) (by rw [List.length_set,hrB.len];omega))<|aE .n (co 1 c Z Z Li Z (y0:=((B.set (c+1) (B.getD c [])).getD c [])) (gd [] (by rw [List.length_set,hrB.len];omega)) aK Z Lr)<|Wn<|ab<|tr 1 Z (y:=(swpU B c)) Z ?_
 refine CW.draw (Γ:=[.fr (VP.pt pw 0),.fr (VP.pt pw 0),.fr (VP.pt pw 1),.fr (VP.ex vU),.fr (kN6.is ((c:Int)+1)),.fr (VP.pt pw 0),.fr (VP.pt pw 0),.fr (VP.pt pw 1),.fr (VP.ex vU),.lt (kN6.is ((c:Int)+1)),.lt (kN6.is (((c:Int)+1)-1)),.fr (VP.pt pw 0),.fr (VP.pt pw 0),.fr (VP.pt pw 1),.fr (VP.ex vU),.fr (kN6.is ((c:Int)+1)),.fr (kN6.is (((c:Int)+1)-1)),.fr (VP.pel vU (c*1)),.fr (kVC.is (U.getD c [])),.fr (VP.pt pw 0),.fr (VP.pt pw 0),.fr (VP.pt pw 1),.fr (VP.ex vU),.fr (kN6.is ((c:Int)+1)),.fr (VP.pel vU ((c+1)*1)),.fr (kVC.is (U.getD (c+1) [])),.fr (VP.pel vU ((c+1)*1))]) (lates:=[false,false,false,false,false,false,false,false,false,true,true,false,false,false,false,false,false,false,false,false,false,false,false,false,false,false,false]) (by kernel_rfl) (Chk.of Z (by kernel_rfl) Z) (fun _ _ _ _ _ h=>h) (fun q_ x_ h_=>?_)<|fun σ2=>?_
 ·
  match q_,h_ with
  | 0,h_=>cases h_;exact Ob.f rfl .n fun N=>(O.mv rfl)
  | 1,h_=>cases h_;exact Ob.f rfl .n fun N=>(O.nck rfl)
  | 2,h_=>cases h_;exact Ob.f rfl .n fun N=>(O.fa rfl fld173_1 rfl)
  | 3,h_=>cases h_;exact Ob.f rfl .n fun N=>(OpOk.le (O.ld (p:=kVal.is vU) rfl (mN N 0 rfl) (Lens.snd (Lens.fst Li)) ty22 rfl) (val_ex _))
  | 4,h_=>cases h_;exact Ob.f rfl .n fun N=>(O.mv rfl)
  | 5,h_=>cases h_;exact Ob.f rfl .n fun N=>(O.mv rfl)
  | 6,h_=>cases h_;exact Ob.f rfl .n fun N=>(O.nck rfl)
  | 7,h_=>cases h_;exact Ob.f rfl .n fun N=>(O.fa rfl fld173_1 rfl)
  | 8,h_=>cases h_;exact Ob.f rfl .n fun N=>(OpOk.le (O.ld (p:=kVal.is vU) rfl (mN N 0 rfl) (Lens.snd (Lens.fst Li)) ty22 rfl) (val_ex _))
  | 9,h_=>cases h_;exact Ob.l rfl .n (OV.mv rfl)
  | 10,h_=>cases h_;exact Ob.l rfl .n (OV.sub rfl rfl (c:=(((c:Int)+1)-1)) (w64 (by omega)))
  | 11,h_=>cases h_;exact Ob.f rfl .n fun N=>(O.mv rfl)
  | 12,h_=>cases h_;exact Ob.f rfl .n fun N=>(O.nck rfl)
  | 13,h_=>cases h_;exact Ob.f rfl .n fun N=>(O.fa rfl fld173_1 rfl)
  | 14,h_=>cases h_;exact Ob.f rfl .n fun N=>(OpOk.le (O.ld (p:=kVal.is vU) rfl (mN N 0 rfl) (Lens.snd (Lens.fst Li)) ty22 rfl) (val_ex _))
  | 15,h_=>cases h_;exact Ob.f rfl .n fun N=>(O.mv rfl)
  | 16,h_=>cases h_;exact Ob.f rfl .n fun N=>(O.sub rfl rfl (c:=(((c:Int)+1)-1)) (w64 (by omega)))
  | 17,h_=>cases h_;exact Ob.f rfl .n fun N=>(O.ixR (k:=kVC) (xs:=U) (n:=(((c:Int)+1)-1)) c rfl rfl (mN N 2 rfl) U22 ty23 (by omega) (by omega))
  | 18,h_=>cases h_;exact Ob.f rfl .n fun N=>(O.ldR c rfl (mN N 2 rfl) Li rfl (y:=(U.getD c [])) (gd [] (by omega)) ty23 rfl)
  | 19,h_=>cases h_;exact Ob.f rfl .n fun N=>(O.mv rfl)
  | 20,h_=>cases h_;exact Ob.f rfl .n fun N=>(O.nck rfl)
  | 21,h_=>cases h_;exact Ob.f rfl .n fun N=>(O.fa rfl fld173_1 rfl)
  | 22,h_=>cases h_;exact Ob.f rfl .n fun N=>(OpOk.le (O.ld (p:=kVal.is vU) rfl (mN N 0 rfl) (Lens.snd (Lens.fst Li)) ty22 rfl) (val_ex _))
  | 23,h_=>cases h_;exact Ob.f rfl .n fun N=>(O.mv rfl)
  | 24,h_=>cases h_;exact Ob.f rfl .n fun N=>(O.ixR (k:=kVC) (xs:=U) (n:=((c:Int)+1)) (c+1) rfl rfl (mN N 2 rfl) U22 ty23 (by omega) (by omega))
  | 25,h_=>cases h_;exact Ob.f rfl .n fun N=>(O.ldR (c+1) rfl (mN N 2 rfl) Li rfl (y:=(U.getD (c+1) [])) (gd [] (by omega)) ty23 rfl)
  | 26,h_=>cases h_;exact Ob.f rfl .n fun N=>(O.ixR (k:=kVC) (xs:=U) (n:=((c:Int)+1)) (c+1) rfl rfl (mN N 2 rfl) U22 ty23 (by omega) (by omega))
  | n_+27,h_=>simp at h_
 refine aE .n (co 2 (c+1) Z Z Li Z (y0:=(U.getD (c+1) [])) (gd [] (by omega)) aK Z Lr)<|Ws (bb (k:=kVC) (xs:=(U.set (c+1) (U.getD c []))) (n:=(((c:Int)+1)-1)) c Z Z (ag 2 Z) U22 aK (by omega) (by rw [List.length_set,hrU.len];omega))<|aE .n (co 2 c Z Z Li Z (y0:=((U.set (c+1) (U.getD c [])).getD c [])) (gd [] (by rw [List.length_set,hrU.len];omega)) aK Z Lr)<|Wn<|ab<|ab<|tr 2 Z (y:=(swpU U c)) Z<|ak<|Wm Z<|Ws (cM Z)<|Ws (aw Z fI Z)<|Ws (aV (ae (p:=kVal.is vV) Z (ag 0 Z) (am (am (aD Li))) bf Z) (bc _))<|Ws (de Z (ag 3 Z) U22)<|Wm Z<|Wn<|aF<|tl 65 Z (y:=(n:Int)) (by rw [hvl])<|tf 4 Z (y:=(mapN (colG (c+1)) 0 V)) (mapN_0 _ _).symm<|bJ (fun (i:Nat)=>i≤n) (fun (i:Nat)=>[(0,VP.pt pw 0),(1,kN6.is ((c:Int)+1)),(65,kN6.is (n:Int)),(66,kN6.is (i:Int))]) (fun (i:Nat)=>[OB.box pw 173 (kPair kVal (kPair kVal (kPair kVal (kPair kGso kVal)))) (vB,vU,vV,(gDs (G) n,gLs (G) n),vS),OB.row vB 23 kVC (swpU B c),OB.row vU 23 kVC (swpU U c),OB.row vV 23 kVal vs,OB.fam vs 29 kC (mapN (colG (c+1)) i V),OB.row vS 3 kI64 S]) (fun (i:Nat)=>n-i) 0 (by omega) (ac Z (ac Z (ac Z (az Z (ah (y:=(0:Int)) (by rfl)) aq)))) (aG _) ?_
 intro i hi
 refine Cr<|Ws (aX Z Z)<|Wn<|ab ?_
 refine aM Z (fun h_t67=>?_)<|fun h_t67=>?_
 ·
  refine Ck<|ab<|aF<|Cr<|Wm Z<|Wa Z<|Wn ?_
  refine CW.draw (Γ:=[.fr (VP.pt pw 0),.fr (VP.pt pw 0),.fr (VP.pt pw 2),.fr (VP.ex vV),.fr (kN6.is (i:Int)),.fr (VP.pel vV (i*1)),.fr (VP.ex (vs.getD i nilV)),.fr (kN6.is ((c:Int)+1)),.fr (VP.pt pw 0),.fr (VP.pt pw 0),.fr (VP.pt pw 2),.fr (VP.ex vV),.fr (kN6.is (i:Int)),.fr (VP.pel vV (i*1)),.fr (VP.ex (vs.getD i nilV)),.lt (kN6.is ((c:Int)+1)),.lt (kN6.is (((c:Int)+1)-1)),.fr (VP.pt pw 0),.fr (VP.pt pw 0),.fr (VP.pt pw 2),.fr (VP.ex vV),.fr (kN6.is (i:Int)),.fr (VP.pel vV (i*1)),.fr (VP.ex (vs.getD i nilV)),.fr (kN6.is ((c:Int)+1)),.fr (kN6.is (((c:Int)+1)-1)),.fr (VP.pel (vs.getD i nilV) (c*2)),.fr (kC.is ((V.getD i []).getD c 0)),.fr (VP.pt pw 0),.fr (VP.pt pw 0),.fr (VP.pt pw 2),.fr (VP.ex vV),.fr (kN6.is (i:Int)),.fr (VP.pel vV (i*1)),.fr (VP.ex (vs.getD i nilV)),.fr (kN6.is ((c:Int)+1)),.fr (VP.pel (vs.getD i nilV) ((c+1)*2)),.fr (kC.is ((V.getD i []).getD (c+1) 0)),.fr (VP.pel (vs.getD i nilV) ((c+1)*2))]) (lates:=[false,false,false,false,false,false,false,false,false,false,false,false,false,false,false,true,true,false,false,false,false,false,false,false,false,false,false,false,false,false,false,false,false,false,false,false,false,false,false]) (by kernel_rfl) (Chk.of Z (by kernel_rfl) Z) (fun _ _ _ _ _ h=>h) (fun q_ x_ h_=>?_)<|fun σ3=>?_
  ·
   match q_,h_ with
   | 0,h_=>cases h_;exact Ob.f rfl .n fun N=>(O.mv rfl)
   | 1,h_=>cases h_;exact Ob.f rfl .n fun N=>(O.nck rfl)
   | 2,h_=>cases h_;exact Ob.f rfl .n fun N=>(O.fa rfl fld173_2 rfl)
   | 3,h_=>cases h_;exact Ob.f rfl .n fun N=>(OpOk.le (O.ld (p:=kVal.is vV) rfl (mN N 0 rfl) (Lens.snd (Lens.snd (Lens.fst Li))) ty22 rfl) (val_ex _))
   | 4,h_=>cases h_;exact Ob.f rfl .n fun N=>(O.mv rfl)
   | 5,h_=>cases h_;exact Ob.f rfl .n fun N=>(O.ixR (k:=kVal) (xs:=vs) (n:=(i:Int)) i rfl rfl (mN N 3 rfl) U22 ty23 rfl (by omega))
   | 6,h_=>cases h_;exact Ob.f rfl .n fun N=>(OpOk.le (O.ldR i rfl (mN N 3 rfl) Li rfl (y:=(vs.getD i nilV)) (gd nilV (by omega)) ty23 rfl) (val_ex _))
   | 7,h_=>cases h_;exact Ob.f rfl .n fun N=>(O.mv rfl)
   | 8,h_=>cases h_;exact Ob.f rfl .n fun N=>(O.mv rfl)
   | 9,h_=>cases h_;exact Ob.f rfl .n fun N=>(O.nck rfl)
   | 10,h_=>cases h_;exact Ob.f rfl .n fun N=>(O.fa rfl fld173_2 rfl)
   | 11,h_=>cases h_;exact Ob.f rfl .n fun N=>(OpOk.le (O.ld (p:=kVal.is vV) rfl (mN N 0 rfl) (Lens.snd (Lens.snd (Lens.fst Li))) ty22 rfl) (val_ex _))
   | 12,h_=>cases h_;exact Ob.f rfl .n fun N=>(O.mv rfl)
   | 13,h_=>cases h_;exact Ob.f rfl .n fun N=>(O.ixR (k:=kVal) (xs:=vs) (n:=(i:Int)) i rfl rfl (mN N 3 rfl) U22 ty23 rfl (by omega))
   | 14,h_=>cases h_;exact Ob.f rfl .n fun N=>(OpOk.le (O.ldR i rfl (mN N 3 rfl) Li rfl (y:=(vs.getD i nilV)) (gd nilV (by omega)) ty23 rfl) (val_ex _))
   | 15,h_=>cases h_;exact Ob.l rfl .n (OV.mv rfl)
   | 16,h_=>cases h_;exact Ob.l rfl .n (OV.sub rfl rfl (c:=(((c:Int)+1)-1)) (w64 (by omega)))
   | 17,h_=>cases h_;exact Ob.f rfl .n fun N=>(O.mv rfl)
   | 18,h_=>cases h_;exact Ob.f rfl .n fun N=>(O.nck rfl)
   | 19,h_=>cases h_;exact Ob.f rfl .n fun N=>(O.fa rfl fld173_2 rfl)
   | 20,h_=>cases h_;exact Ob.f rfl .n fun N=>(OpOk.le (O.ld (p:=kVal.is vV) rfl (mN N 0 rfl) (Lens.snd (Lens.snd (Lens.fst Li))) ty22 rfl) (val_ex _))
   | 21,h_=>cases h_;exact Ob.f rfl .n fun N=>(O.mv rfl)
   | 22,h_=>cases h_;exact Ob.f rfl .n fun N=>(O.ixR (k:=kVal) (xs:=vs) (n:=(i:Int)) i rfl rfl (mN N 3 rfl) U22 ty23 rfl (by omega))
   | 23,h_=>cases h_;exact Ob.f rfl .n fun N=>(OpOk.le (O.ldR i rfl (mN N 3 rfl) Li rfl (y:=(vs.getD i nilV)) (gd nilV (by omega)) ty23 rfl) (val_ex _))
   | 24,h_=>cases h_;exact Ob.f rfl .n fun N=>(O.mv rfl)
   | 25,h_=>cases h_;exact Ob.f rfl .n fun N=>(O.sub rfl rfl (c:=(((c:Int)+1)-1)) (w64 (by omega)))
   | 26,h_=>cases h_;exact Ob.f rfl .n fun N=>(O.ixF (e:=29) (k:=kC) (xss:=(mapN (colG (c+1)) i V)) (n:=(((c:Int)+1)-1)) i c rfl rfl (mN N 4 rfl) rfl (by omega) U23 ty29 (by omega) (by rw [mapN_at (by rw [hrV.len];omega),hrV.row _ (by omega)];omega))
   | 27,h_=>cases h_;exact Ob.f rfl .n fun N=>(O.ldF (k:=kC) (xss:=(mapN (colG (c+1)) i V)) i c rfl (mN N 4 rfl) rfl (by omega) Li rfl (y:=((V.getD i []).getD c 0)) (mapN_at2 (by omega) (by rw [hrV.row i (by omega)];omega)) ty29 rfl)
   | 28,h_=>cases h_;exact Ob.f rfl .n fun N=>(O.mv rfl)
   | 29,h_=>cases h_;exact Ob.f rfl .n fun N=>(O.nck rfl)
   | 30,h_=>cases h_;exact Ob.f rfl .n fun N=>(O.fa rfl fld173_2 rfl)
   | 31,h_=>cases h_;exact Ob.f rfl .n fun N=>(OpOk.le (O.ld (p:=kVal.is vV) rfl (mN N 0 rfl) (Lens.snd (Lens.snd (Lens.fst Li))) ty22 rfl) (val_ex _))
   | 32,h_=>cases h_;exact Ob.f rfl .n fun N=>(O.mv rfl)
   | 33,h_=>cases h_;exact Ob.f rfl .n fun N=>(O.ixR (k:=kVal) (xs:=vs) (n:=(i:Int)) i rfl rfl (mN N 3 rfl) U22 ty23 rfl (by omega))
   | 34,h_=>cases h_;exact Ob.f rfl .n fun N=>(OpOk.le (O.ldR i rfl (mN N 3 rfl) Li rfl (y:=(vs.getD i nilV)) (gd nilV (by omega)) ty23 rfl) (val_ex _))
   | 35,h_=>cases h_;exact Ob.f rfl .n fun N=>(O.mv rfl)
   | 36,h_=>cases h_;exact Ob.f rfl .n fun N=>(O.ixF (e:=29) (k:=kC) (xss:=(mapN (colG (c+1)) i V)) (n:=((c:Int)+1)) i (c+1) rfl rfl (mN N 4 rfl) rfl (by omega) U23 ty29 (by omega) (by rw [mapN_at (by rw [hrV.len];omega),hrV.row _ (by omega)];omega))
   | 37,h_=>cases h_;exact Ob.f rfl .n fun N=>(O.ldF (k:=kC) (xss:=(mapN (colG (c+1)) i V)) i (c+1) rfl (mN N 4 rfl) rfl (by omega) Li rfl (y:=((V.getD i []).getD (c+1) 0)) (mapN_at2 (by omega) (by rw [hrV.row i (by omega)];omega)) ty29 rfl)
   | 38,h_=>cases h_;exact Ob.f rfl .n fun N=>(O.ixF (e:=29) (k:=kC) (xss:=(mapN (colG (c+1)) i V)) (n:=((c:Int)+1)) i (c+1) rfl rfl (mN N 4 rfl) rfl (by omega) U23 ty29 (by omega) (by rw [mapN_at (by rw [hrV.len];omega),hrV.row _ (by omega)];omega))
   | n_+39,h_=>simp at h_
  refine aE .n (d7 4 i (c+1) Z Z Z (by omega) Li Z (y0:=(((mapN (colG (c+1)) i V).getD i []).getD (c+1) 0)) (gd 0 (by rw [mapN_at (by rw [hrV.len];omega),hrV.row _ (by omega)];omega)) af Z Lr)<|Ws (cZ (e:=29) (k:=kC) (xss:=((mapN (colG (c+1)) i V).set i (((mapN (colG (c+1)) i V).getD i []).set (c+1) ((V.getD i []).getD c 0)))) (n:=(((c:Int)+1)-1)) i c Z Z (ag 4 Z) Z (by omega) U23 af (by omega) (by rw [mapN_at (by rw [hrV.len];omega),mapN_len2 (by rw [hrV.len];omega),hrV.row _ (by omega)];omega))<|aE .n (d7 4 i c Z Z Z (by omega) Li Z (y0:=((((mapN (colG (c+1)) i V).set i (((mapN (colG (c+1)) i V).getD i []).set (c+1) ((V.getD i []).getD c 0))).getD i []).getD c 0)) (gd 0 (by rw [mapN_at (by rw [hrV.len];omega),mapN_len2 (by rw [hrV.len];omega),hrV.row _ (by omega)];omega)) af Z Lr)<|au<|Qb<|ak<|Ws (aR Z Z (c:=((i:Int)+1)) (aH (by omega)))<|Wm Z<|au<|tf 4 Z (y:=(mapN (colG (c+1)) (i+1) V)) (mapN_set2 (by omega)) ?_
  exact bE (i+1) (by omega) (by omega) (ac Z (ac Z (ac Z (az Z (ah (y:=(((i+1):Nat):Int)) (by rfl)) aq))))<|aG _
 ·
  refine Ex<|ab<|tf 4 Z (y:=(colS V (c+1))) (mapN_end (by omega))<|ak<|Wm Z<|Wm Z<|Ws (cM Z)<|Ws (aw Z fw Z)<|Ws (ae (p:=kGso.is (gDs (G) n,gLs (G) n)) Z (ag 0 Z) (am (am (am (aD Li)))) bl Z)<|Wm Z<|Ws (aB fn150 (aj Z (ah (y:=(gDs G n,gLs G n)) (by rfl)) (aS Z ar)) (c_gso_Swap G n nB (by assumption) (by assumption) (by assumption) (by assumption) (by omega) c (by assumption) (by assumption) (by assumption)))<|Wm Z<|Ws (aP Z Z)<|Ws (aP Z Z)<|Ws (cM Z)<|Ws (aw Z fw Z)<|aE .n (dx 0 Z Z (am (am (am (aD Li)))) bl Z Lr)<|Wn<|ak ?_
  refine Wm Z<|Wm Z<|Ws (cM Z)<|Ws (aw Z fld173_4 Z)<|Ws (aV (ae (p:=kVal.is vS) Z (ag 0 Z) (am (am (am (am Li)))) ty155 Z) (bc _))<|Wm Z<|Ws (bB U155 fN (cz Z (cP (by omega)) bA) Z (by decide))<|bI 5 .n Z Z Z Lr U155 fN (by simp;omega) fun v1=>Ws (cM Z)<|Ws (aw Z fld173_4 Z)<|bo 5 Z fun hcell_=>aE .n (dx 0 Z Z (am (am (am (am Li)))) ty155 Z (bn (by assumption)))<|au<|bg (bm [0,1,2,3,4,5] (by decide) Z) ?_
  exact cg (.inr Z) Z ay (a9 (OS.keepLe (cm (by rfl)) (OS.keep (OS.keep (OS.keep (OS.keep (OS.keep OS.nil))))))) ⟨v1,Z,Z,trivial⟩
theorem c_lll_sizes (pw:Nat) (vB vU vV vS:Value) (vs:List Value) (b:List (List Int)) (M Dm P:Int) (nz K:Nat) (hZ:Basis b) (hL:LS b M Dm P nz K) (B0 U0 V0:List (List Int)) (S:List Int) (k:Nat) (hI:WI b M Dm P B0 U0 V0 S k) (hk:k<b.length) (hvl:vs.length=b.length):Con Tryz.prog 202 [VP.pt pw 0,kN6.is (k:Int)] [OB.box pw 173 (kPair kVal (kPair kVal (kPair kVal (kPair kGso kVal)))) (vB,vU,vV,(gDs (gram B0) b.length,gLs (gram B0) b.length),vS),OB.row vB 23 kVC B0,OB.row vU 23 kVC U0,OB.row vV 23 kVal vs,OB.fam vs 29 kC V0] (fun p Lo=>∃(B:List (List Int)) (U:List (List Int)) (V:List (List Int)),p=VP.tup []∧Lo=[OB.box pw 173 (kPair kVal (kPair kVal (kPair kVal (kPair kGso kVal)))) (vB,vU,vV,(gDs (gram B) b.length,gLs (gram B) b.length),vS),OB.row vB 23 kVC B,OB.row vU 23 kVC U,OB.row vV 23 kVal vs,OB.fam vs 29 kC V]∧WK b M Dm P B0 U0 V0 B U V S k):=by
 refine aN Tryz.func202 Z Z fun m w=>?_
 have hb12:=hZ.n
 refine Cr<|Wm Z<|Ws (bj Z Z (c:=((k:Int)-1)) (aH (by omega)))<|Wa Z<|Wn<|aF<|CW.loop4 (fun (c:Nat) (B:List (List Int)) (U:List (List Int)) (V:List (List Int))=>WJ b M Dm P B0 U0 V0 B U V S k c) (fun (c:Nat) (B:List (List Int)) (U:List (List Int)) (V:List (List Int))=>[(0,VP.pt pw 0),(1,kN6.is (k:Int)),(4,kN6.is ((c:Int)-1))]) (fun (c:Nat) (B:List (List Int)) (U:List (List Int)) (V:List (List Int))=>[OB.box pw 173 (kPair kVal (kPair kVal (kPair kVal (kPair kGso kVal)))) (vB,vU,vV,(gDs (gram B) b.length,gLs (gram B) b.length),vS),OB.row vB 23 kVC B,OB.row vU 23 kVC U,OB.row vV 23 kVal vs,OB.fam vs 29 kC V]) (fun (c:Nat) (B:List (List Int)) (U:List (List Int)) (V:List (List Int))=>c) k B0 U0 V0 (hI.begin hk) (ac Z (ac Z (ac Z aq))) (aG _) ?_
 intro c B U V hJ
 have hck:=hJ.ck
 refine ab<|Cr<|Wm Z<|Ws (di Z Z)<|Wn ?_
 refine aM Z (fun h_t10=>?_)<|fun h_t10=>?_
 ·
  refine Ck<|ab<|aF<|ab ?_
  have hCC:=hJ.l.c
  have hNn:=hL.lb.n
  have hdi:=hJ.l.dia hL.lb (show k<b.length by omega) hb12
  have hDz:=sz_D hCC hL.lb
  have hLz:=sz_L hCC hL.lb hdi
  have hzB:=hJ.wc.szB hL.lb hdi
  have hzU:=hJ.wc.szU (gram_symG hZ.r) hZ.p hb12 hL.lb hL.m hL.d hdi
  have hzV:=hJ.wc.szV hCC hb12 hL.lb hL.m hdi
  have hqz:=sz_q hCC hL.lb hdi (show c-1<k by omega) (by omega)
  refine a5 (Γ:=[.fr (VP.pt pw 0),.fr (VP.pt pw 0),.fr (VP.pt pw 3),.fr (VP.pt pw 4),.fr (kMC.is (gLs (gram B) b.length)),.fr (kN6.is (k:Int)),.fr (VP.pim kVC ((gLs (gram B) b.length).getD k [])),.fr (kVC.is ((gLs (gram B) b.length).getD k [])),.fr (kN6.is ((c:Int)-1)),.fr (VP.pim kC (uE (gram B) (c-1) k (c-1))),.fr (kC.is (uE (gram B) (c-1) k (c-1))),.fr (VP.pt pw 0),.fr (VP.pt pw 0),.fr (VP.pt pw 3),.fr (VP.pt pw 3),.fr (kVC.is (gDs (gram B) b.length)),.fr (kN6.is ((c:Int)-1)),.fr (kN6.is (((c:Int)-1)+1)),.fr (VP.pim kC (uD (gram B) c)),.fr (kC.is (uD (gram B) c)),.fr (VP.tup [kC.is (nearI (uE (gram B) (c-1) k (c-1)) (uD (gram B) c)),kN6.is 0]),.fr (VP.tup [kC.is (nearI (uE (gram B) (c-1) k (c-1)) (uD (gram B) c)),kN6.is 0]),.fr (kC.is (nearI (uE (gram B) (c-1) k (c-1)) (uD (gram B) c))),.lt (kN6.is 0),.al (fun b=>OB.box b 29 kC 0)]) (om Z Z (ch Z Z (aa Z (fun N=>aw Z fw Z) (aa Z (fun N=>aw Z ct Z) (aa Z (fun N=>ae (p:=kMC.is (gLs (gram B) b.length)) Z (mN N 0 Z) (am (am (am (aD (am Li))))) bf Z) (om Z Z (aa Z (fun N=>aU k Z Z U22 aK (by omega) (v:=((gLs (gram B) b.length).getD k [])) (gd [] (by simp only [gRow_len,gDs_len,gLs_len];omega))) (aa Z (fun N=>aO Z aK) (om Z Z (aa Z (fun N=>aU (c-1) Z Z U23 af (by omega) (v:=(uE (gram B) (c-1) k (c-1))) (fQ (by omega) (by omega))) (aa Z (fun N=>aO Z af) (om Z Z (ch Z Z (aa Z (fun N=>aw Z fw Z) (aa Z (fun N=>aw Z cK Z) (aa Z (fun N=>ae (p:=kVC.is (gDs (gram B) b.length)) Z (mN N 0 Z) (am (am (am (aD (aD Li))))) aK Z) (om Z Z (aa Z (fun N=>aR Z Z (c:=(((c:Int)-1)+1)) (aH (by omega))) (aa Z (fun N=>aU c Z Z U23 af (by omega) (v:=(uD (gram B) c)) (dv (by omega))) (aa Z (fun N=>aO Z af) (aa Z (fun N=>aB fn215 (aj Z (aL ((hLz k (c-1) (by omega) (by omega)).sm (by omega))) (aj Z (aL ((hDz c (by omega)).sm (by omega))) ar)) (c_zint_Near (4*nz+8) (uE (gram B) (c-1) k (c-1)) (uD (gram B) c) (hLz k (c-1) (by omega) (by omega)) (hDz c (by omega)) (hCC.p.uD (by omega)) (by omega))) (om Z Z (aa Z (fun N=>aP Z Z) (oc (dc Z .n (dw Z Z)) (oc (cR Z bd) oz)))))))))))))))))))))))))<|fun σ1=>?_
  refine aE .n (aC (l:=kC) (u:=nearI (uE (gram B) (c-1) k (c-1)) (uD (gram B) c)) 0 Z Z Z af Z Lr)<|Wa Z<|Wn<|ab<|tb 0 Z (y:=(nearQ (frM (gram B) k (c-1)))) (by rw [←nearI_frM hCC.s hCC.p (show c-1<k by omega) (by omega),show c-1+1=c by omega])<|ak<|Ws (ae Z (ag 0 Z) Li af Z)<|Ws (aB db (aj Z (aL (hqz.sm (by omega))) ar) (c9 (nearQ (frM (gram B) k (c-1)))))<|Ws (bG Z Z)<|Wn ?_
  refine aM Z (fun h_t39=>?_)<|fun h_t39=>?_
  ·
   refine ak<|Wm Z<|Wm Z<|Wm Z<|Ws (ae Z (ag 0 Z) Li af Z)<|bg (bm [1,2,3,4,5,0] (by decide) Z)<|cC (Li:=[OB.box pw 173 (kPair kVal (kPair kVal (kPair kVal (kPair kGso kVal)))) (vB,vU,vV,(gDs (gram B) b.length,gLs (gram B) b.length),vS),OB.row vB 23 kVC B,OB.row vU 23 kVC U,OB.row vV 23 kVal vs,OB.fam vs 29 kC V]) (L:=[OB.box (σ1 24) 29 kC (nearQ (frM (gram B) k (c-1)))]) .n fn251 (aS Z (aS Z (aj Z (ah (y:=(((c-1):Nat):Int)) (by omega)) (aj Z (aL (hqz.sm (by omega))) ar)))) (c_lll_lose pw vB vU vV vS vs B U V (gram B) b.length ((b.getD 0 []).length) (4*nz+8) k (c-1) (nearQ (frM (gram B) k (c-1))) hJ.wc.rb hJ.wc.ru hJ.wc.rv (by assumption) hZ.n0 hb12 hCC.p hCC.s hDz hLz hqz hzB hzU hzV (by omega) (by assumption) (by omega)) fun p_ Lo_ hp_=>?_
   obtain ⟨rfl,rfl,hx_t44⟩:=hp_
   refine au<|Qb<|ak<|Wm Z<|Ws (bj Z Z (c:=(((c:Int)-1)-1)) (aH (by omega)))<|Wa Z<|au<|bg (bm [0,1,2,3,4] (by decide) Z)<|tb 0 Z (y:=(vB,vU,vV,(gDs (gram (rowU B k (c-1) (-(nearQ (frM (gram B) k (c-1)))))) b.length,gLs (gram (rowU B k (c-1) (-(nearQ (frM (gram B) k (c-1)))))) b.length),vS)) (by rw [gram_row hJ.wc.rb _ hk]) ?_
   exact eT (c-1) (rowU B k (c-1) (-(nearQ (frM (gram B) k (c-1))))) (rowU U k (c-1) (-(nearQ (frM (gram B) k (c-1))))) (colV V k (c-1) (nearQ (frM (gram B) k (c-1)))) (by omega) (hJ.lose (by omega) hk (fun h=>h_t39 (by rw [h];rfl))) (ac Z (ac Z (az Z (ah (y:=((((c-1):Nat):Int)-1)) (by omega)) aq)))<|aG _
  ·
   refine cx<|Qb<|ak<|Wm Z<|Ws (bj Z Z (c:=(((c:Int)-1)-1)) (aH (by omega)))<|Wa Z<|au<|bg (bm [1,2,3,4,5] (by decide) Z) ?_
   exact eT (c-1) B U V (by omega) (hJ.zero (by omega) hk (Int.sign_eq_zero_iff_zero.1 (by omega))) (ac Z (ac Z (az Z (ah (y:=((((c-1):Nat):Int)-1)) (by omega)) aq)))<|aG _
 ·
  refine dS<|da<|da<|dR ?_
  have hK:=(show WJ b M Dm P B0 U0 V0 B U V S k 0 by rw [show c=0 by omega] at hJ;exact hJ).fin hk hZ.n
  exact cg (.inr Z) Z ay (aG _) ⟨B,U,V,Z,Z,hK⟩
theorem c_lll_run (pw:Nat) (vB vU vV vS:Value) (vs:List Value) (b:List (List Int)) (M Dm P:Int) (nz K:Nat) (hZ:Basis b) (hL:LS b M Dm P nz K) (hvl:vs.length=b.length):Con Tryz.prog 201 [VP.pt pw 0,VP.bnd 202 [VP.pt pw 0]] [OB.box pw 173 (kPair kVal (kPair kVal (kPair kVal (kPair kGso kVal)))) (vB,vU,vV,(gDs (gram b) b.length,gLs (gram b) b.length),vS),OB.row vB 23 kVC b,OB.row vU 23 kVC (unitV b.length),OB.row vV 23 kVal vs,OB.fam vs 29 kC (unitV b.length),OB.row vS 3 kI64 []] (fun p Lo=>∃(vT:Value) (B:List (List Int)) (U:List (List Int)) (V:List (List Int)) (S:List Int),p=VP.tup []∧Lo=[OB.box pw 173 (kPair kVal (kPair kVal (kPair kVal (kPair kGso kVal)))) (vB,vU,vV,(gDs (gram B) b.length,gLs (gram B) b.length),vT),OB.row vB 23 kVC B,OB.row vU 23 kVC U,OB.row vV 23 kVal vs,OB.fam vs 29 kC V,OB.row vT 3 kI64 S]∧WI b M Dm P B U V S b.length):=by
 refine aN Tryz.func201 Z Z fun m w=>?_
 have hb12:=hZ.n
 refine CW.scope<|Cr<|Wa Z<|Wn<|ab<|CW.label<|cw<|aF<|CW.loop6 (fun (k:Nat) (B:List (List Int)) (U:List (List Int)) (V:List (List Int)) (S:List Int) (vT:Value)=>WI b M Dm P B U V S k) (fun (k:Nat) (B:List (List Int)) (U:List (List Int)) (V:List (List Int)) (S:List Int) (vT:Value)=>[(0,VP.pt pw 0),(1,VP.bnd 202 [VP.pt pw 0]),(4,kN6.is (k:Int))]) (fun (k:Nat) (B:List (List Int)) (U:List (List Int)) (V:List (List Int)) (S:List Int) (vT:Value)=>[OB.box pw 173 (kPair kVal (kPair kVal (kPair kVal (kPair kGso kVal)))) (vB,vU,vV,(gDs (gram B) b.length,gLs (gram B) b.length),vT),OB.row vB 23 kVC B,OB.row vU 23 kVC U,OB.row vV 23 kVal vs,OB.fam vs 29 kC V,OB.row vT 3 kI64 S]) (fun (k:Nat) (B:List (List Int)) (U:List (List Int)) (V:List (List Int)) (S:List Int) (vT:Value)=>muL (gram B) b.length k) 1 b (unitV b.length) (unitV b.length) [] vS (by have:=WI.init hZ hL.m hL.d hL.lb;rw [←hL.pe] at this;exact this) (ac Z (ac Z (az Z (ah (y:=(1:Int)) (by rfl)) aq))) (aG _) ?_
 intro k B U V S vT hI
 have hkn:=hI.kn
 have hk0:=hI.k0
 have hlB:=hI.wc.rb.len
 refine ab<|Cr<|Wm Z<|Wm Z<|Ws (cM Z)<|Ws (aw Z gi Z)<|Ws (aV (ae (p:=kVal.is vB) Z (ag 0 Z) (aD Li) bf Z) (bc _))<|Ws (de Z (ag 1 Z) U22)<|Ws (aX Z Z)<|Wn ?_
 refine aM Z (fun h_t11=>?_)<|fun h_t11=>?_
 ·
  have hkl:k<b.length:=by omega
  refine Ck<|aF<|Cr<|Wm Z<|Wm Z<|WP.callb (Li:=[OB.box pw 173 (kPair kVal (kPair kVal (kPair kVal (kPair kGso kVal)))) (vB,vU,vV,(gDs (gram B) b.length,gLs (gram B) b.length),vT),OB.row vB 23 kVC B,OB.row vU 23 kVC U,OB.row vV 23 kVal vs,OB.fam vs 29 kC V]) (L:=[OB.row vT 3 kI64 S]) .n Z fn202 (aS Z ar) (c_lll_sizes pw vB vU vV vT vs b M Dm P nz K (by assumption) (by assumption) B U V S k hI (by assumption) (by assumption)) fun p_ Lo_ hp_=>?_
  obtain ⟨B1,U1,V1,rfl,rfl,hK⟩:=hp_
  refine Wn<|ab<|ab ?_
  have hCC:=hK.l.c
  have hNn:=hL.lb.n
  have hdi:=hK.l.dia hL.lb
  have hDz:=sz_D hCC hL.lb
  have hLz:=sz_L hCC hL.lb hdi
  refine ak<|Wm Z<|Ws (cM Z)<|Ws (aw Z fw Z)<|Ws (ae (p:=kGso.is (gDs (gram B1) b.length,gLs (gram B1) b.length)) Z (ag 0 Z) (am (am (am (aD Li)))) bl Z)<|Wm Z<|Ws (aB fn249 (aS Z (aj Z (ah (y:=((((k-1):Nat):Int)+1)) (by omega)) ar)) (c_lll_holds (gram B1) b.length (4*nz+8) hZ.n0 hb12 hCC.p hDz (by omega) (k-1) (by omega) hCC.s hLz (by omega)))<|Wn ?_
  refine aM Z (fun h_t20=>?_)<|fun h_t20=>?_
  ·
   refine Cr<|Wm Z<|Ws (aR Z Z (c:=((k:Int)+1)) (aH (by omega)))<|Wa Z<|Wn<|dS<|da<|dR ?_
   exact ft (k+1) B1 U1 V1 S vT (hK.mu_yes (by omega)) (hK.yes hI (by omega) (by rw [show k=k-1+1 by omega];exact h_t20)) (ac Z (ac Z (az Z (ah (y:=(((k+1):Nat):Int)) (by rfl)) aq)))<|aG _
  ·
   refine Ck<|Cr<|Wm Z<|Wm Z<|cC (Li:=[OB.box pw 173 (kPair kVal (kPair kVal (kPair kVal (kPair kGso kVal)))) (vB,vU,vV,(gDs (gram B1) b.length,gLs (gram B1) b.length),vT),OB.row vB 23 kVC B1,OB.row vU 23 kVC U1,OB.row vV 23 kVal vs,OB.fam vs 29 kC V1,OB.row vT 3 kI64 S]) (L:=[]) .n fn250 (aS Z (aj Z (ah (y:=((((k-1):Nat):Int)+1)) (by omega)) ar)) (c_lll_swap pw vB vU vV vT vs B1 U1 V1 S (gram B1) b.length ((b.getD 0 []).length) (4*nz+8) (k-1) hK.wc.rb hK.wc.ru hK.wc.rv (by assumption) hZ.n0 hb12 hCC.p hCC.s hDz hLz (by omega) (hI.swn hL) (by omega)) fun p_ Lo_ hp_=>?_
   obtain ⟨vT2,rfl,rfl,hx25⟩:=hp_
   refine Wn<|ak<|Wm Z<|Ws (bj Z Z (c:=((k:Int)-1)) (aH (by omega)))<|Ws (O.mx Z Z)<|Wa Z<|au<|d4<|tb 0 Z (y:=(vB,vU,vV,(gDs (gram (swpU B1 (k-1))) b.length,gLs (gram (swpU B1 (k-1))) b.length),vT2)) (by rw [gram_swp hK.wc.rb (by omega)])<|tf 4 Z (y:=(colS V1 k)) (by rw [show k-1+1=k by omega])<|tr 5 Z (y:=(S++[(k:Int)])) (by rw [show ((k-1:Nat):Int)+1=(k:Int) by omega]) ?_
   exact ft (max (k-1) 1) (swpU B1 (k-1)) (swpU U1 (k-1)) (colS V1 k) (S++[(k:Int)]) vT2 (by exact hK.mu_no (by omega) (by omega) (by rw [show k=k-1+1 by omega];exact h_t20) _) (hK.no hI (by omega) (by rw [show k=k-1+1 by omega];exact h_t20)) (ac Z (ac Z (az Z (ah (y:=(((max (k-1) 1):Nat):Int)) (by omega)) aq)))<|aG _
 ·
  refine dS<|da<|da<|dR<|QE.scN ?_
  exact cg (.inr Z) Z ay (aG _) ⟨vT,B,U,V,S,Z,Z,(by rw [show k=b.length by omega] at hI;exact hI)⟩
theorem c_lll_reduced (b:List (List Int)) (M Dm P:Int) (nz K:Nat) (hZ:Basis b) (hL:LS b M Dm P nz K):Con Tryz.prog 130 [kMZ.is b] [] (fun p Lo=>∃(pw:Nat) (vB:Value) (vU:Value) (vV:Value) (vS:Value) (vs:List Value) (B:List (List Int)) (U:List (List Int)) (V:List (List Int)) (S:List Int),p=VP.pt pw 0∧Lo=[OB.box pw 173 (kPair kVal (kPair kVal (kPair kVal (kPair kGso kVal)))) (vB,vU,vV,(gDs (gram B) b.length,gLs (gram B) b.length),vS),OB.row vB 23 kVC B,OB.row vU 23 kVC U,OB.row vV 23 kVal vs,OB.fam vs 29 kC V,OB.row vS 3 kI64 S]∧vs.length=b.length∧WI b M Dm P B U V S b.length):=by
 refine aN Tryz.func130 Z Z fun m w=>Cr<|Wa Z<|Wr<|Wm Z<|cC (Li:=[]) (L:=[]) .n fn200 (aS Z ar) (c_lll_begun b (by assumption)) fun p_ Lo_ hp_=>?_
 obtain ⟨pw,vB,vU,vV,vS,vs,rfl,rfl,hvl⟩:=hp_
 refine Wa Z<|Wr<|Wm Z<|Wm Z<|Ws (O.mkb (aS Z ar))<|cC (Li:=[OB.box pw 173 (kPair kVal (kPair kVal (kPair kVal (kPair kGso kVal)))) (vB,vU,vV,(gDs (gram b) b.length,gLs (gram b) b.length),vS),OB.row vB 23 kVC b,OB.row vU 23 kVC (unitV b.length),OB.row vV 23 kVal vs,OB.fam vs 29 kC (unitV b.length),OB.row vS 3 kI64 []]) (L:=[]) .n fn201 (aS Z (aS Z ar)) (c_lll_run pw vB vU vV vS vs b M Dm P nz K (by assumption) (by assumption) (by assumption)) fun p_ Lo_ hp_=>?_
 obtain ⟨vT,B,U,V,S,rfl,rfl,hI⟩:=hp_
 refine Wr<|Wm Z<|Wa Z<|Wn<|aA ?_
 exact cg (.inl Z) Z (aI Z ay) (aG _) ⟨pw,vB,vU,vV,vT,vs,B,U,V,S,Z,Z,⟨hvl,hI⟩⟩
end Fw
namespace Fw
open Go
section
variable {b B0 U0 V0 B U V:List (List Int)} {S:List Int} {M Dm P:Int} {k c N K:Nat}
theorem WJ.down:∀(c:Nat) {B U V:List (List Int)},WJ b M Dm P B0 U0 V0 B U V S k c→k<b.length→∃B' U' V',WJ b M Dm P B0 U0 V0 B' U' V' S k 0
  | 0,B,U,V,h,_=>⟨B,U,V,h⟩
  | c+1,B,U,V,h,hk=>by
    by_cases hz:nearQ (frM (gram B) k (c+1-1))=0
    · exact WJ.down c (h.zero (by omega) hk hz) hk
    · exact WJ.down c (h.lose (by omega) hk hz) hk
theorem WI.ends (hZ:Basis b):∀(n:Nat) {B U V:List (List Int)} {S:List Int} {k:Nat},muL (gram B) b.length k<n→WI b M Dm P B U V S k→∃B U V S,WI b M Dm P B U V S b.length
  | 0,B,U,V,S,k,hm,h=>absurd hm (by omega)
  | n+1,B,U,V,S,k,hm,h=>by
    by_cases hk:k<b.length
    · obtain ⟨B',U',V',hj⟩:=WJ.down k (h.begin hk) hk
      have hK:=hj.fin hk hZ.n
      by_cases hl:lov (gram B') k
      · exact WI.ends hZ n (by have:=hK.mu_yes hk;omega) (hK.yes h hk hl)
      · exact WI.ends hZ n (by have:=hK.mu_no h.k0 hk hl (max (k-1) 1);omega) (hK.no h hk hl)
    · have:=h.kn
      have e:k=b.length:=by omega
      subst e
      exact ⟨B,U,V,S,h⟩
end
noncomputable def llY (b:List (List Int)):WL×List Int×Nat:=by
  classical
  exact if h:∃y,wR b.length (w0 b) y∧¬y.2.2<b.length then Classical.choose h else (⟨[],[],[]⟩,[],0)
noncomputable def llB (b:List (List Int)):List (List Int):=(llY b).1.b
noncomputable def llU (b:List (List Int)):List (List Int):=(llY b).1.u
noncomputable def llV (b:List (List Int)):List (List Int):=(llY b).1.v
noncomputable def llS (b:List (List Int)):List Int:=(llY b).2.1
theorem llY_eq {b B U V:List (List Int)} {S:List Int} {M Dm P:Int} (h:WI b M Dm P B U V S b.length):llY b=(⟨B,U,V⟩,S,b.length):=by
  have hx:∃y,wR b.length (w0 b) y∧¬y.2.2<b.length:=⟨_,h.r,Nat.lt_irrefl _⟩
  unfold llY
  rw [dif_pos hx]
  exact wR.det (Classical.choose_spec hx).1 h.r (Classical.choose_spec hx).2 (Nat.lt_irrefl _)
theorem ll_eq {b B U V:List (List Int)} {S:List Int} {M Dm P:Int} (h:WI b M Dm P B U V S b.length):B=llB b∧U=llU b∧V=llV b∧S=llS b:=by
  have e:=llY_eq h
  unfold llB llU llV llS
  rw [e]
  exact ⟨rfl,rfl,rfl,rfl⟩
theorem ll_WI {b:List (List Int)} {M Dm P:Int} {N K:Nat} (hZ:Basis b) (hL:LS b M Dm P N K):WI b M Dm P (llB b) (llU b) (llV b) (llS b) b.length:=by
  have h0:=WI.init hZ hL.m hL.d hL.lb
  rw [←hL.pe] at h0
  obtain ⟨B,U,V,S,h⟩:=WI.ends hZ _ (Nat.lt_succ_self _) h0
  obtain ⟨e1,e2,e3,e4⟩:=ll_eq h
  rw [←e1,←e2,←e3,←e4]
  exact h
structure RedB (b:List (List Int)):Prop where
  r:CR b.length (b.getD 0 []).length (llB b)
  u:CU b.length (llU b)
  v:CU b.length (llV b)
  p:PosU (gram (llB b)) b.length
  s:SymG (gram (llB b))
  z:SzM 264 (llB b)
  zu:SzM 2147483656 (llU b)
  zv:SzM 2147483656 (llV b)
  n0:0<b.length
  n:b.length≤12
  c:∀i,((llB b).getD i []).length≤12
  hh:∀x,x<b.length→∀l,l<x→half (frM (gram (llB b)) x l)
  hv:∀x,0<x→x<b.length→lov (gram (llB b)) x
  g:gram (llB b)=fU (gram b) b.length (matF (llU b))
  gz:∀x,x<b.length→gram (llB b) x x≤((2^526:Nat):Int)
  sl:(llS b).length≤79200002
theorem RedB.len {b:List (List Int)} (h:RedB b):(llB b).length=b.length:=h.r.len
theorem Sz_sq {z w:Int} {n:Nat} (h:z*z≤w) (hw:w≤((2^(n+n):Nat):Int)):Sz (n+1) z:=by
  unfold Sz
  have h1:z.natAbs*z.natAbs≤2^n*2^n:=by
    have h2:((z.natAbs*z.natAbs:Nat):Int)≤((2^(n+n):Nat):Int):=by
      rw [Int.natAbs_mul_self];omega
    have h3:z.natAbs*z.natAbs≤2^(n+n):=by exact_mod_cast h2
    rwa [Nat.pow_add] at h3
  have h2:z.natAbs≤2^n:=by
    by_cases h3:z.natAbs≤2^n
    · exact h3
    · have:=Nat.mul_lt_mul'' (Nat.lt_of_not_le h3) (Nat.lt_of_not_le h3);omega
  have:=Nat.two_pow_pos n
  rw [Nat.pow_succ];omega
theorem redB_of {b:List (List Int)} (hZ:Basis b):RedB b:=by
  obtain ⟨M,Dm,P,N,K,hL⟩:=basis_LS hZ
  have hI:=ll_WI hZ hL
  have hd:=hI.l.dia hL.lb
  have hN:=hL.lb.n
  have hgz:∀x,x<b.length→gram (llB b) x x≤((2^526:Nat):Int):=fun x hx=>by
    have h1:=hI.l.z x hx
    have h2:=hL.me
    have h3:(2:Nat)^526=4*2^524:=by decide
    rw [h3,Int.natCast_mul]
    rw [h2] at h1
    exact h1
  refine ⟨hI.wc.rb,hI.wc.ru,hI.wc.rv,hI.l.c.p,hI.l.c.s,fun x i=>?_,(hI.wc.szU (gram_symG hZ.r) hZ.p hZ.n hL.lb hL.m hL.d hd).up (by omega),(hI.wc.szV hI.l.c hZ.n hL.lb hL.m hd).up (by omega),hZ.n0,hZ.n,fun i=>?_,hI.l.h,hI.l.v,hI.wc.gu,hgz,hI.swn hL⟩
  · by_cases hx:x<b.length
    · by_cases hi:i<(b.getD 0 []).length
      · exact Sz_sq (n:=263) (entry_sq hI.wc.rb (x:=x) hi) (hgz x hx)
      · rw [getD_nil_of _ _ (by rw [hI.wc.rb.row x hx];omega)];exact Sz.zero _
    · rw [getD_nil_of (llB b) _ (by rw [hI.wc.rb.len];omega)];exact Sz.zero _
  · by_cases hi:i<b.length
    · rw [hI.wc.rb.row i hi];exact hZ.c 0
    · rw [getD_nil_of (llB b) _ (by rw [hI.wc.rb.len];omega)];simp
theorem RedB.wide {b:List (List Int)} (h:RedB b):gsoE (llB b) false=0∧gsoR (llB b) false=(gDs (gram (llB b)) b.length,gLs (gram (llB b)) b.length):=by
  have:=wide_ok (b:=llB b) (by rw [h.len];exact h.n0) (by rw [h.len];exact h.n) h.r.rl h.c (by rw [h.len];exact h.p)
  rw [h.len] at this
  exact this
end Fw
namespace Fw
open Go Go.Proofs
theorem c_lll_Reduce (b:List (List Int)) (hZ:Basis b) (hE:gsoE b true=0):Fn Tryz.prog 65 [kMZ.is b] (VP.tup [kRed.is (llB b,llU b,llV b,((llS b).length:Int)),kN6.is 0]):=by
 refine aN Tryz.func65 Z Z fun m w=>?_
 obtain ⟨M,Dm,P,nz,K,hL⟩:=basis_LS hZ
 refine Cr<|aW .n eR fun b1=>Wa Z<|Wn<|ab<|Cr<|Wm Z<|Ws (f1 fn116 Z (c_gso_Valid b))<|Wa Z<|Wr<|Wm Z<|Ws (bG Z Z)<|Wn ?_
 refine CN Z (fun h=>h hE) fun h_t9=>?_
 refine Ck<|Cr<|Wm Z<|cC (Li:=[]) (L:=[OB.box b1 35 kRed ([],([],([],0)))]) .n fn130 (aS Z ar) (c_lll_reduced b M Dm P nz K (by assumption) (by assumption)) fun p_ Lo_ hp_=>?_
 obtain ⟨pw,vB,vU,vV,vS,vs,B,U,V,S,rfl,rfl,hx⟩:=hp_
 refine Wa Z<|Wn<|ab ?_
 obtain ⟨hvl,hI⟩:=hx
 obtain ⟨e1,e2,e3,e4⟩:=ll_eq hI
 have hsl:=hI.swn hL
 refine a5 (Γ:=[.fr (VP.pt pw 0),.fr (VP.pt pw 0),.fr (VP.pt pw 0),.fr (VP.ex vB),.fr (VP.pt pw 0),.fr (VP.pt pw 0),.fr (VP.pt pw 1),.fr (VP.ex vU),.fr (VP.pt pw 0),.fr (VP.pt pw 0),.fr (VP.pt pw 2),.fr (VP.ex vV),.fr (VP.pt pw 0),.fr (VP.pt pw 0),.fr (VP.pt pw 5),.fr (VP.ex vS),.fr (kN6.is (S.length:Int))]) (om Z Z (ch Z Z (aa Z (fun N=>aw Z gi Z) (aa Z (fun N=>aV (ae (p:=kVal.is vB) Z (mN N 0 Z) (aD Li) bf Z) (bc _)) (om Z Z (ch Z Z (aa Z (fun N=>aw Z fld173_1 Z) (aa Z (fun N=>aV (ae (p:=kVal.is vU) Z (mN N 0 Z) (am (aD Li)) bf Z) (bc _)) (om Z Z (ch Z Z (aa Z (fun N=>aw Z fI Z) (aa Z (fun N=>aV (ae (p:=kVal.is vV) Z (mN N 0 Z) (am (am (aD Li))) bf Z) (bc _)) (om Z Z (ch Z Z (aa Z (fun N=>aw Z fld173_4 Z) (aa Z (fun N=>aV (ae (p:=kVal.is vS) Z (mN N 0 Z) (am (am (am (am Li)))) ty155 Z) (bc _)) (aa Z (fun N=>de Z (mN N 5 Z) U155) oz)))))))))))))))))<|fun σ1=>?_
 refine bL 1 Z (kp 0 Z (kp 2 Z (kp 3 Z (kp 4 Z (kp 5 Z (kp 6 Z (kp 7 Z (kp 8 Z (kp 9 Z (kp 12 Z (kp 13 Z (kp 14 Z (kp 15 Z (kp 16 Z (.hit (i:=17) Z (kp 18 Z (kp 19 Z (kp 20 Z (kp 21 Z (kp 22 Z (kp 23 Z (kp 24 Z (kp 25 Z (kp 26 Z (kp 27 Z (kp 28 Z (kp 29 Z (kp 30 Z .nil))))))))))))))))))))))))))))<|bL 1 Z (kp 0 Z (kp 2 Z (kp 3 Z (kp 4 Z (kp 5 Z (kp 6 Z (kp 7 Z (kp 8 Z (kp 9 Z (kp 12 Z (kp 13 Z (kp 14 Z (kp 15 Z (kp 16 Z (kp 17 Z (kp 18 Z (kp 19 Z (kp 20 Z (.hit (i:=21) Z (kp 22 Z (kp 23 Z (kp 24 Z (kp 25 Z (kp 26 Z (kp 27 Z (kp 28 Z (kp 29 Z (kp 30 Z .nil))))))))))))))))))))))))))))<|ST.freezeM 2 1 Z Z (kp 0 Z (kp 2 Z (kp 3 Z (kp 4 Z (kp 5 Z (kp 6 Z (kp 7 Z (kp 8 Z (kp 9 Z (kp 12 Z (kp 13 Z (kp 14 Z (kp 15 Z (kp 16 Z (kp 17 Z (kp 18 Z (kp 19 Z (kp 20 Z (kp 21 Z (kp 22 Z (kp 23 Z (kp 24 Z (.hit (i:=25) Z (kp 26 Z (kp 27 Z (kp 28 Z (kp 29 Z (kp 30 Z .nil))))))))))))))))))))))))))))<|Ws (bY gH Z (cy Z (cy Z (cy Z (bC Z (cP (by omega)) br)))) (.cons Z (aD Li) (.cons Z (am (aD Li)) (.cons Z (am (am (aD Li))) (.cons Z (am (am (am Li))) (.nil _))))))<|aE .n (aC (l:=kRed) (u:=(B,(U,(V,(S.length:Int))))) 2 Z Z Z dG Z Lr)<|Wa Z<|Wn<|aA<|tb 2 Z (y:=(llB b,llU b,llV b,((llS b).length:Int))) (by rw [←e1,←e2,←e3,←e4]) ?_
 exact Qd Z (aY Z (ag 2 Z) dG (aI Z ay)) ⟨Z,Z⟩
end Fw
namespace Fw
open Go
section
variable {G G0:Fi} {n N:Nat} {M Dm X:Int}
theorem gr_wi (hs:SymG G) (hp:PosU G n) (hX:∀x,x<n→G x x≤X) {i j:Nat} (hi:i<n) (hj:j<n):wi (G i j:Rat) (X:Rat):=by
  have key:∀i j,i<n→j<i→-X≤G i j∧G i j≤X:=fun i j hi hj=>by
    have h1:=row_dia hs hp hj hi 1
    have h2:=row_dia hs hp hj hi (-1)
    have h3:=hX i hi
    have h4:=hX j (by omega)
    omega
  have h : -X≤G i j∧G i j≤X:=by
    rcases Nat.lt_trichotomy i j with e | e | e
    · have:=key j i hj e;rw [hs i j];exact this
    · subst e
      have h1:=hX i hi
      have h2:=dia_pos hs hp hi
      omega
    · exact key i j hi e
  constructor
  · have:=Rat.intCast_le_intCast.mpr h.1
    rw [Rat.intCast_neg] at this;exact this
  · exact Rat.intCast_le_intCast.mpr h.2
theorem ab_wi {a b s X:Rat} (hs:0≤s) (ha:a*a*s≤X) (hb:b*b*s≤X):wi (a*b*s) X:=by
  have h1:0≤(a-b)*(a-b)*s:=Rat.mul_nonneg (sq_nonneg _) hs
  have h2:0≤(a+b)*(a+b)*s:=Rat.mul_nonneg (sq_nonneg _) hs
  constructor <;> grind
theorem gsE_wi (hs:SymG G) (hp:PosU G n) (hX:∀x,x<n→G x x≤X) {i j:Nat} (hi:i<n) (hj:j<n):∀k,k≤i→k≤j→wi (gsE (qG G) k i j) (((k:Nat)+1:Rat)*(X:Rat))
  | 0,_,_=>by
    have:=gr_wi hs hp hX hi hj
    exact wi_le this (by have e0:((0:Nat):Rat)=0:=rfl
                         rw [e0,Rat.zero_add,Rat.one_mul];exact Rat.le_refl)
  | k+1,h1,h2=>by
    have ih:=gsE_wi hs hp hX hi hj k (by omega) (by omega)
    have hk:k<n:=by omega
    have a1:=Rat.le_trans (term_le hs hp (show k<i by omega) hi) (Rat.intCast_le_intCast.mpr (hX i hi))
    have a2:=Rat.le_trans (term_le hs hp (show k<j by omega) hj) (Rat.intCast_le_intCast.mpr (hX j hj))
    have h3:=ab_wi (Rat.le_of_lt (frS_p hs hp hk)) a2 a1
    rw [←fr_step hs (hp.le (by omega)) j]
    refine wi_le (wi_sub ih h3) ?_
    have:((k+1:Nat):Rat)=(k:Rat)+1:=by push_cast;rfl
    rw [this]
    have e:((k:Rat)+1)*(X:Rat)+(X:Rat)=((k:Rat)+1+1)*(X:Rat):=by grind
    rw [e];exact Rat.le_refl
theorem uE_bd (hs:SymG G) (hp:PosU G n) (h12:n≤12) (hX:∀x,x<n→G x x≤X) (hX0:0≤X) (hD:∀l,l≤n→uD G l≤Dm) {i j k:Nat} (hi:i<n) (hj:j<n) (h1:k≤i) (h2:k≤j) : -(Dm*(16*X))≤uE G k i j∧uE G k i j≤Dm*(16*X):=by
  have hk:k≤n:=by omega
  have e:=uE_q hs (hp.le hk) h1 h2
  have w1:wi (gsE (qG G) k i j) ((16*X:Int):Rat):=by
    refine wi_le (gsE_wi hs hp hX hi hj k h1 h2) ?_
    rw [Rat.intCast_mul]
    have hk16:((k:Nat)+1:Rat)≤((16:Int):Rat):=by
      have:(k:Int)+1≤16:=by omega
      have:=Rat.intCast_le_intCast.mpr this
      rw [Rat.intCast_add] at this
      exact this
    exact Rat.mul_le_mul_of_nonneg_right hk16 (Rat.intCast_le_intCast.mpr hX0)
  have w2:wi (gsD (qG G) k) ((Dm:Int):Rat):=by
    rw [←uD_q hs (hp.le hk)]
    have h3:=hp.uD hk
    have h4:=hD k hk
    constructor
    · rw [←Rat.intCast_neg];exact Rat.intCast_le_intCast.mpr (by omega)
    · exact Rat.intCast_le_intCast.mpr h4
  have w3:=wi_mul w2 w1
  rw [←e,←Rat.intCast_mul] at w3
  exact wi_int w3
theorem fr_sz (hC:LC G0 n M Dm G) (hB:LB M Dm N) (h12:n≤12) (hd:∀x,x<n→G x x≤gB M Dm):(∀k,k<n→RZ (4*N+8) (frS G k))∧(∀x k,x<n→k<x→RZ (4*N+8) (frM G x k))∧(∀i k j,i<n→k≤i→k≤j→j≤i→RZ (4*N+8) (gsE (qG G) k i j)):=by
  have hD:=sz_D hC hB
  have hL:=sz_L hC hB hd
  refine ⟨fun k hk=>RZ.of (uD_ne hC.p (by omega)) (frS_rmk hC.s hC.p hk) (hD _ (by omega)) (hD _ (by omega)),fun x k hx hk=>RZ.of (uD_ne hC.p (by omega)) (frM_rmk hC.s hC.p hk hx) (hL _ _ hx hk) (hD _ (by omega)),fun i k j hi hki hkj hji=>?_⟩
  rw [gsE_frac hC.s (hC.p.le (by omega)) hki hkj]
  have hx0:0≤gB M Dm:=by have:=hB.g0;have:=hB.m1;omega
  obtain ⟨b1,b2⟩:=uE_bd hC.s hC.p h12 hd hx0 hC.d hi (show j<n by omega) hki hkj
  have d1:=hB.d1
  have e1:16*gB M Dm≤((2^(4+N):Nat):Int):=by
    have:=hB.g
    rw [Nat.pow_add]
    generalize (2:Nat)^N=y at *
    omega
  have e2:=mul_pw hB.d e1 (by omega) (by omega)
  exact RZ.frac (uD_ne hC.p (by omega)) ((Sz_pw (N:=N+(4+N)) (by omega) (by omega)).up (by omega)) (hD k (by omega))
end
def floorQ (p:Rat):Int:=(rq p).1.fdiv (rq p).2
theorem floorQ_spec (p:Rat):(floorQ p:Rat)≤p∧p<(floorQ p:Rat)+1:=by
  have hd:=rq_den_pos p
  have hdq:(0:Rat)<((rq p).2:Rat):=by exact_mod_cast hd
  have hne:((rq p).2:Rat)≠0:=pos_ne hdq
  have e:=rq_val p
  have ea:((rq p).1:Rat)=p*((rq p).2:Rat):=by rw [←e];grind
  have hdef:=Int.fmod_def (rq p).1 (rq p).2
  have f1:=Int.fmod_nonneg_of_pos (rq p).1 hd
  have f2:=Int.fmod_lt_of_pos (rq p).1 hd
  have hz:(rq p).1.fdiv (rq p).2=floorQ p:=rfl
  rw [hz] at hdef
  generalize floorQ p=z at *
  generalize (rq p).1=a at *
  generalize (rq p).2=d at *
  have g1:d*z≤a:=by omega
  have g2:a<d*z+d:=by omega
  have q1:((d*z:Int):Rat)≤(a:Rat):=by exact_mod_cast g1
  have q2:(a:Rat)<((d*z+d:Int):Rat):=by exact_mod_cast g2
  rw [Rat.intCast_mul,ea] at q1
  rw [Rat.intCast_add,Rat.intCast_mul,ea] at q2
  constructor
  · by_cases h:(z:Rat)≤p
    · exact h
    · have h3:0<(z:Rat)-p:=by have:=Rat.not_le.1 h;grind
      have:=Rat.mul_pos hdq h3
      grind
  · by_cases h:p<(z:Rat)+1
    · exact h
    · replace h:=Rat.not_lt.mp h
      have h3:0≤p-((z:Rat)+1):=by grind
      have:=Rat.mul_nonneg (Rat.le_of_lt hdq) h3
      grind
theorem floor_uniq {p:Rat} {x y:Int} (h1:(x:Rat)≤p) (h2:p<(x:Rat)+1) (h3:(y:Rat)≤p) (h4:p<(y:Rat)+1):x=y:=by
  have a:(x:Rat)<((y+1:Int):Rat):=by rw [Rat.intCast_add];have e:((1:Int):Rat)=1:=rfl;rw [e];grind
  have b:(y:Rat)<((x+1:Int):Rat):=by rw [Rat.intCast_add];have e:((1:Int):Rat)=1:=rfl;rw [e];grind
  have a':=Rat.intCast_lt_intCast.mp a
  have b':=Rat.intCast_lt_intCast.mp b
  omega
theorem floor_near (p:Rat):floorQ (p+1/2)=nearQ p:=by
  obtain ⟨h1,h2⟩:=floorQ_spec (p+1/2)
  obtain ⟨h3,h4⟩:=near_spec p
  exact floor_uniq h1 h2 h3 h4
theorem floor_int (z:Int):floorQ (z:Rat)=z:=by
  unfold floorQ;rw [rq_int];exact Int.fdiv_one z
theorem rq_cmp0 (p q:Rat):(rq (p-q)).1.sign≤0↔p≤q:=by
  have h:=rq_cmp (p-q) 0
  have e:rq 0=(0,1):=rq_int 0
  rw [e] at h
  have e2:(rq (p-q)).1*(0,1).2-(0,1).1*(rq (p-q)).2=(rq (p-q)).1:=by
    show (rq (p-q)).1*1-0*(rq (p-q)).2=_
    omega
  rw [e2] at h
  rw [h]
  constructor <;> intro h1 <;> grind
section
variable {G:Fi} {n:Nat}
theorem data_L (hs:SymG G) (hp:PosU G n) {i j:Nat} (hj:j<i) (hi:i<n):floorQ (frM G i j*(uD G (j+1):Rat))=uE G j i j:=by
  have:=uE_fr hs hp hj hi
  rw [show frM G i j*(uD G (j+1):Rat)=((uE G j i j:Int):Rat) by rw [this];grind,floor_int]
theorem data_D (hs:SymG G) (hp:PosU G n) {i:Nat} (hi:i<n):floorQ (frS G i*(uD G i:Rat))=uD G (i+1):=by
  have:=uD_succ hs hp hi
  rw [show frS G i*(uD G i:Rat)=((uD G (i+1):Int):Rat) by rw [this];grind,floor_int]
end
theorem frV_ok {G:Fi} {n:Nat} (hp:PosU G n):frV G n=(frMus G n,frSts G n):=(fr_yes hp).1.symm
theorem frR_ok {b:List (List Int)} (h:gsoE b false=0) (hp:PosU (gram b) b.length):frR b false=(frMus (gram b) b.length,frSts (gram b) b.length):=by
  unfold frR;rw [if_pos h,frV_ok hp]
theorem grown_row (q:Int) (u v:List Int):pairV (fun x y=>x+q*y) u v=pairV (fun x y=>x+y) u (v.map (fun x=>q*x)):=by
  unfold pairV
  apply List.map_congr_left
  intro l hl
  rw [getD_timesV]
theorem unit_app {n i k:Nat} {z:Int} (hk:k<n) (hi:i<n) (hz:z=if k=i then 1 else 0):((List.replicate n (0:Int)).set i 1).take k++[z]=((List.replicate n (0:Int)).set i 1).take (k+1):=by
  apply take_app2
  rw [List.getElem?_set]
  by_cases e:i=k
  · subst e;simp [hi,hz]
  · rw [if_neg e,hz,if_neg (fun h=>e h.symm)];simp [hk]
theorem RZ_int {n:Nat} {z:Int} (h1:1≤n) (h:Sz n z):RZ n (z:Rat):=by
  obtain ⟨k,rfl⟩:∃k,n=k+1:=⟨n-1,by omega⟩
  exact RZ.int h
theorem wide_sz {n:Nat} {b:List (List Int)} (hb:SzM n b) (hr:RectL b) (hc:(b.getD 0 []).length≤12) (hP:PosU (gram b) b.length) (h12:b.length≤12) (hn:n≤1048576):(∀k,k≤b.length→Sz 8590000128 (uD (gram b) k))∧(∀k,k<b.length→RZ 8590000128 (frS (gram b) k))∧(∀x k,x<b.length→k<x→RZ 8590000128 (frM (gram b) x k)):=by
  have hs:=gram_symG hr
  have hz:∀i j,Sz (n+n+12) (gram b i j):=fun i j=>gram_Sz hb hr hc i j
  have hU:∀k,k≤12→szU (n+n+12) k+1≤8590000128:=fun k hk=>by
    have:=szU_eq (n+n+12) k
    have h2:2^k≤2^12:=Nat.pow_le_pow_right (by decide) hk
    have h3:=Nat.mul_le_mul_right (n+n+12+1) h2
    omega
  exact ⟨fun k hk=>(uD_Sz hs hz hP k hk).up (hU k (by omega)),fun k hk=>(frE_RZ hs hz hP (show k≤b.length by omega) (Nat.le_refl k) (Nat.le_refl k)).up (hU k (by omega)),fun x k hx hk=>(frM_RZ hs hz hP (show k<b.length by omega) (show k≤x by omega)).up (hU k (by omega))⟩
abbrev Rw:=Int×Int
def rv (x:Rw):Rat:=(x.1:Rat)/(x.2:Rat)
theorem rv_rq (p:Rat):rv (rq p)=p:=rq_val p
theorem rw_pos {y:Int} (h:0<y):(0:Rat)<(y:Rat):=Rat.intCast_lt_intCast.mpr h
theorem rw_ne {y:Int} (h:0<y):(y:Rat)≠0:=pos_ne (rw_pos h)
theorem c2_z2 {x:Rw} (h1:Sm x.1) (h2:Sm x.2):VP.le (kRC.is x) ((kPair kZ kZ).is x):=
  is_kd rfl fun m cs ⟨a,b,e,ha,hb⟩=>⟨a,b,e,kC_Zat h1 ha,kC_Zat h2 hb⟩
abbrev eZ:=@c2_z2
section
variable {x y u v:Int}
theorem raw_sub (hy:0<y) (hv:0<v):rmk (x*v-u*y) (y*v)=rq (rv (x,y)-rv (u,v)):=by
  rw [rmk_rq (Int.mul_ne_zero (by omega) (by omega))]
  congr 1
  have h1:=rw_ne hy
  have h2:=rw_ne hv
  unfold rv
  rw [Rat.intCast_sub,Rat.intCast_mul,Rat.intCast_mul,Rat.intCast_mul]
  grind
theorem raw_add (hy:0<y) (hv:0<v):rmk (x*v+u*y) (y*v)=rq (rv (x,y)+rv (u,v)):=by
  rw [rmk_rq (Int.mul_ne_zero (by omega) (by omega))]
  congr 1
  have h1:=rw_ne hy
  have h2:=rw_ne hv
  unfold rv
  rw [Rat.intCast_add,Rat.intCast_mul,Rat.intCast_mul,Rat.intCast_mul]
  grind
theorem raw_mul (hy:0<y) (hv:0<v):rmk (x*u) (y*v)=rq (rv (x,y)*rv (u,v)):=by
  rw [rmk_rq (Int.mul_ne_zero (by omega) (by omega))]
  congr 1
  have h1:=rw_ne hy
  have h2:=rw_ne hv
  unfold rv
  rw [Rat.intCast_mul,Rat.intCast_mul]
  grind
theorem raw_neg (hy:0<y):rmk (-x) y=rq (-rv (x,y)):=by
  rw [rmk_rq (by omega)]
  congr 1
  have h1:=rw_ne hy
  unfold rv
  rw [Rat.intCast_neg]
  grind
end
theorem rv_RZ {n:Nat} {x:Rw} (h:0<x.2) (h1:Sz n x.1) (h2:Sz n x.2):RZ n (rv x):=RZ.frac (by omega) h1 h2
theorem RZ.add2 {n m p q} (h:RZ n p) (k:RZ m q):RZ (n+m+1) (p+q):=by
  have:=h.sub2 k.neg
  rwa [Rat.sub_eq_add_neg,Rat.neg_neg] at this
theorem RZ0:RZ 1 (0:Rat):=⟨show ((rq 0).1).natAbs<2^1 by decide,show ((rq 0).2).natAbs<2^1 by decide⟩
def sqQ (d:Nat→Rat):Nat→Rat
  | 0=>0
  | i+1=>sqQ d i+d i*d i
def szQ (n i:Nat):Nat:=1+i*(n+n+1)
theorem szQ_succ (n i:Nat):szQ n (i+1)=szQ n i+(n+n)+1:=by unfold szQ;rw [Nat.succ_mul];omega
theorem sqQ_RZ {d:Nat→Rat} {n N:Nat} (h:∀i,i<N→RZ n (d i)):∀i,i≤N→RZ (szQ n i) (sqQ d i)
  | 0,_=>RZ0.up (by unfold szQ;omega)
  | i+1,hi=>by
    rw [szQ_succ]
    exact (sqQ_RZ h i (by omega)).add2 ((h i (by omega)).mul (h i (by omega)))
theorem szQ_le {n i:Nat} (hi:i≤12):szQ n i≤1+12*(n+n+1):=by
  unfold szQ
  have:=Nat.mul_le_mul_right (n+n+1) hi
  omega
def dfQ (w:List Int) (t:List Rw) (i:Nat):Rat:=(w.getD i 0:Rat)-rv (t.getD i (0,1))
def dstQ (w:List Int) (t:List Rw):Rat:=sqQ (dfQ w t) w.length
def dfL (w:List Int) (t:List Rw) (i:Nat):List (Int×Int):=(List.range i).map (fun k=>rq (dfQ w t k))
theorem dfL_len (w t i):(dfL w t i).length=i:=by simp [dfL]
theorem dfL_app (w t i):dfL w t i++[rq (dfQ w t i)]=dfL w t (i+1):=by simp [dfL,List.range_succ]
def denB (t:List Rw) (i:Nat):Bool:=(t.take i).all (fun x=>decide (0<x.2))
def bitB (t:List Rw) (i:Nat):Bool:=(t.take i).all (fun x=>decide ((bitlen x.1.natAbs:Int)≤256)&&decide ((bitlen x.2.natAbs:Int)≤256))
def askE (b:List (List Int)) (t:List Rw):Int:=
  if gsoE b true≠0 then gsoE b true else if t.length≠(b.getD 0 []).length then 8 else if denB t t.length=true then (if bitB t t.length=true then 0 else 40) else 30
theorem all_take {α:Type} {l:List α} {f:α→Bool} {i:Nat} {d:α} (h:i<l.length):(l.take (i+1)).all f=((l.take i).all f&&f (l.getD i d)):=by
  rw [List.take_add_one,List.getElem?_eq_getElem h,List.all_append]
  simp [List.getD_eq_getElem?_getD,List.getElem?_eq_getElem h]
theorem all_no {α:Type} {l:List α} {f:α→Bool} {i:Nat} {d:α} (h:i<l.length) (hf:f (l.getD i d)=false):¬(l.take l.length).all f=true:=by
  rw [List.take_length,List.all_eq_true]
  intro e
  have:=e (l.getD i d) (by rw [gde l d h];exact List.getElem_mem h)
  rw [hf] at this;cases this
theorem denB_0 (t):denB t 0=true:=rfl
theorem bitB_0 (t):bitB t 0=true:=rfl
theorem denB_s {t:List Rw} {i:Nat} (h:i<t.length) (hd:denB t i=true) (hp:0<(t.getD i (0,0)).2):denB t (i+1)=true:=by
  unfold denB at *
  rw [all_take (d:=(0,0)) h,hd];simpa using hp
theorem bitB_s {t:List Rw} {i:Nat} (h:i<t.length) (hd:bitB t i=true) (h1:¬(256:Int)<(bitlen (t.getD i (0,0)).1.natAbs:Int)) (h2:¬(256:Int)<(bitlen (t.getD i (0,0)).2.natAbs:Int)):bitB t (i+1)=true:=by
  unfold bitB at *
  rw [all_take (d:=(0,0)) h,hd]
  simp only [Bool.true_and,Bool.and_eq_true,decide_eq_true_eq]
  omega
theorem denB_n {t:List Rw} {i:Nat} (h:i<t.length) (hp:¬0<(t.getD i (0,0)).2):¬denB t t.length=true:=all_no (d:=(0,0)) h (by simpa using hp)
abbrev fk:=@denB_n
theorem bitB_n {t:List Rw} {i:Nat} (h:i<t.length) (hp:(256:Int)<(bitlen (t.getD i (0,0)).1.natAbs:Int)∨(256:Int)<(bitlen (t.getD i (0,0)).2.natAbs:Int)):¬bitB t t.length=true:=all_no (d:=(0,0)) h (by
  rw [Bool.and_eq_false_iff,decide_eq_false_iff_not,decide_eq_false_iff_not];omega)
section
variable {b:List (List Int)} {t:List Rw}
theorem askE_1 (h:gsoE b true≠0):askE b t=gsoE b true:=if_pos h
theorem askE_2 (h:¬gsoE b true≠0) (h2:t.length≠(b.getD 0 []).length):askE b t=8:=by unfold askE;rw [if_neg h,if_pos h2]
theorem askE_3 (h:¬gsoE b true≠0) (h2:¬t.length≠(b.getD 0 []).length) (h3:¬denB t t.length=true):askE b t=30:=by unfold askE;rw [if_neg h,if_neg h2,if_neg h3]
theorem askE_4 (h:¬gsoE b true≠0) (h2:¬t.length≠(b.getD 0 []).length) (h3:denB t t.length=true) (h4:¬bitB t t.length=true):askE b t=40:=by unfold askE;rw [if_neg h,if_neg h2,if_pos h3,if_neg h4]
theorem askE_5 (h:¬gsoE b true≠0) (h2:¬t.length≠(b.getD 0 []).length) (h3:denB t t.length=true) (h4:bitB t t.length=true):askE b t=0:=by unfold askE;rw [if_neg h,if_neg h2,if_pos h3,if_pos h4]
structure Tgt (b:List (List Int)) (t:List Rw):Prop where
  e:gsoE b true=0
  l:t.length=(b.getD 0 []).length
  d:∀i,i<t.length→0<(t.getD i (0,0)).2
  z:∀i,i<t.length→Sz 256 (t.getD i (0,0)).1∧Sz 256 (t.getD i (0,0)).2
theorem tgt_of (h:askE b t=0):Tgt b t:=by
  unfold askE at h
  split at h
  · rename_i h1;exact absurd h h1
  · rename_i h1
    split at h
    · cases h
    · rename_i h2
      split at h
      · rename_i h3
        split at h
        · rename_i h4
          refine ⟨by omega,by omega,fun i hi=>?_,fun i hi=>?_⟩
          · by_cases e:0<(t.getD i (0,0)).2
            · exact e
            · exact absurd h3 (denB_n hi e)
          · have key:∀x:Int,¬(256:Int)<(bitlen x.natAbs:Int)→Sz 256 x:=fun x hx=>by
              unfold Sz
              exact Nat.lt_of_lt_of_le (lt_bitlen _) (Nat.pow_le_pow_right (by decide) (by omega))
            constructor
            · refine key _ fun e=>?_
              exact absurd h4 (bitB_n hi (.inl e))
            · refine key _ fun e=>?_
              exact absurd h4 (bitB_n hi (.inr e))
        · cases h
      · cases h
end
theorem rq_num0 {q:Rat}:(rq q).1.sign=0↔q=0:=rq_zero
noncomputable def covS (b:List (List Int)):Nat→Rat
  | 0=>0
  | i+1=>covS b i+frS (gram (llB b)) i
theorem dfQ_eq (w:List Int) (t:List Rw) (i:Nat) (h:i<t.length):((w.getD i 0:Int):Rat)-rv ((t.getD i (0,0)).1,(t.getD i (0,0)).2)=dfQ w t i:=by
  unfold dfQ
  rw [gde t (0,0) h,gde t (0,1) h]
theorem dfQ_RZ {n:Nat} {w:List Int} {t:List Rw} (h1:1≤n) (hl:t.length=w.length) (hw:SzL n w) (hd:∀i,i<t.length→0<(t.getD i (0,0)).2) (hz:∀i,i<t.length→Sz n (t.getD i (0,0)).1∧Sz n (t.getD i (0,0)).2) {i:Nat} (hi:i<w.length):RZ (n+n+1) (dfQ w t i):=by
  rw [←dfQ_eq w t i (by omega)]
  exact (RZ_int h1 (hw i)).sub2 (rv_RZ (hd i (by omega)) (hz i (by omega)).1 (hz i (by omega)).2)
theorem sgn_pos0 {a:Int} (h:¬a.sign≤0):0<a:=by
  rcases Int.lt_or_le 0 a with e | e
  · exact e
  · exfalso;apply h
    rcases Int.lt_or_eq_of_le e with e2 | e2
    · rw [Int.sign_eq_neg_one_of_neg e2];decide
    · rw [e2];decide
theorem sgn_npos {a:Int} (h:a.sign≤0):¬0<a:=fun e=>by
  rw [Int.sign_eq_one_of_pos e] at h;exact absurd h (by decide)
theorem comb_len {X:List Int} {b:List (List Int)} (h:combE X b=0):(combA X b).length=(b.getD 0 []).length:=by
  unfold combE at h
  split at h
  · rename_i h1;unfold combA;rw [if_pos h1,combV_len]
  · cases h
section
variable {b:List (List Int)} {t:List Rw} {W X:List Int} {x y:Int}
end
theorem sgn_pos_iff {a:Int}:0<a.sign↔0<a:=⟨fun h=>sgn_pos0 (by omega),fun h=>by rw [Int.sign_eq_one_of_pos h];decide⟩
theorem rng_at {α:Type} {f:Nat→α} {n i:Nat} (h:i<n):((List.range n).map f)[i]?=some (f i):=by simp [h]
end Fw
namespace Fw
open Go Go.Proofs
theorem c_rat_validr (l:List (Int×Int)) (hv:∀x,x∈l→0<x.2):Fn Tryz.prog 121 [(kSl (kPair kZ kZ)).is l] (kN6.is 0):=by
 refine aN Tryz.func121 Z Z fun m w=>a8 (i:=0) Z bF fun hB=>Cr<|Wa Z<|Wn<|ab<|Cr<|Wm Z<|Ws (aJ Z U26)<|Wm Z<|Wn<|aF<|bJ (fun (i:Nat)=>i≤l.length) (fun (i:Nat)=>[(0,(kSl (kPair kZ kZ)).is l),(5,(kSl (kPair kZ kZ)).is l),(6,kN6.is (l.length:Int)),(7,kN6.is (i:Int))]) (fun (i:Nat)=>[]) (fun (i:Nat)=>l.length-i) 0 (by omega) (ac Z (ac Z (ac Z (az Z (ah (y:=(0:Int)) (by rfl)) aq)))) (aG _) ?_
 intro i hi
 refine Cr<|Ws (aX Z Z)<|Wn<|ab ?_
 refine aM Z (fun h_t8=>?_)<|fun h_t8=>?_
 ·
  refine Ck<|ab<|aF<|Cr<|Ws (aU i Z Z U26 ai Z (v:=(l.getD i (0,0))) (gd (0,0) (by omega)))<|Ws (aO Z ai)<|Ax (l:=(kPair kZ kZ)) (u:=(l.getD i (0,0))) ba Z ai (fun _=>Z) Lr fun b1=>Wr<|Ws (aw Z bW Z)<|Ws (ae Z (ag 0 Z) (am Li) af Z)<|Ws (f1 db Z (c9 ((l.getD i (0,0)).2)))<|Ws (dL Z Z)<|Wn ?_
  refine CN Z (by have h1:=hv _ (getD_mem (0,0) (show i<l.length by omega));have:=Int.sign_eq_one_of_pos h1;omega) fun h_t14=>?_
  refine cx<|Qb<|ak<|Ws (aR Z Z (c:=((i:Int)+1)) (aH (by omega)))<|Wm Z<|au ?_
  exact bE (i+1) (by omega) (by omega) (ac Z (ac Z (ac Z (az Z (ah (y:=(((i+1):Nat):Int)) (by rfl)) aq))))<|fL<|List.nil_sublist _
 ·
  refine Ex<|Cr<|Wa Z<|Wn<|aA ?_
  exact Qd Z (aI Z ay) ⟨Z,Z⟩
theorem c_rat_twor (n:Nat) (p r:Rat) (x y:Int) (fid:FuncId) (caps:List VP) (hok:FnOk Tryz.prog fid) (hF:Fn Tryz.prog fid caps (kRC.is (rq r))) (hp:RZ n p) (h0:0<y) (hn:n≤68719476736):Fn Tryz.prog 205 [kRC.is (rq p),(kPair kZ kZ).is (x,y),VP.clo fid caps] (VP.tup [kRC.is (rq r),kN6.is 0]):=by
 refine aN Tryz.func205 Z Z fun m w=>Cr<|aZ .n Z fun b1=>aZ .n Z fun b2=>aW .n ba fun b3=>Wa Z<|Wn<|ab<|Cr<|Ws (ae Z (ag 2 Z) Li ai Z)<|Ws (ae (p:=(kPair kZ kZ).is (x,y)) Z (ag 1 Z) Li ai Z)<|Ws (bB U26 gN (cz Z (eZ (hp.a.sm (by omega)) (hp.b.sm (by omega))) (bV Z bA)) Z (by decide))<|Ws (f1 fn121 Z (c_rat_validr [rq p,(x,y)] (by intro z hz;rcases List.mem_cons.1 hz with rfl | hz;exact rq_den_pos p;rcases List.mem_cons.1 hz with rfl | hz;exact h0;cases hz)))<|Wa Z<|Wr<|Wm Z<|Ws (bG Z Z)<|au ?_
 refine cw ?_
 refine CN Z (fun h=>h Z) fun h_t14=>?_
 refine Ck<|Cr<|Wm Z<|Ws (eQ Z hok ar hF)<|aE .n (aC (l:=kRC) (u:=rq r) 0 Z Z Z ai Z Lr)<|Wa Z<|Wn<|aA ?_
 exact Qd Z (aY Z (ag 0 Z) ai (aI Z ay)) ⟨Z,Z⟩
theorem c_rat_Sub1r (n:Nat) (p:Rat) (x y:Int) (hp:RZ n p) (hx:Sz n x) (hy:Sz n y) (h0:0<y) (hn:n≤68719476736):Fn Tryz.prog 244 [VP.pim kRC (rq p),VP.pim (kPair kZ kZ) (x,y)] (kRC.is (rq (p-rv (x,y)))):=by
 refine aN Tryz.func244 Z Z fun m w=>Cr<|aW .n ba fun b1=>Wn<|ab ?_
 refine a5 (Γ:=[.fr (VP.pim kC ((rq p).1)),.fr (kC.is ((rq p).1)),.fr (VP.pim kZ y),.fr (kZ.is y),.fr (kC.is (((rq p).1)*y)),.fr (VP.pim kZ x),.fr (kZ.is x),.fr (VP.pim kC ((rq p).2)),.fr (kC.is ((rq p).2)),.fr (kC.is (x*((rq p).2))),.fr (kC.is ((((rq p).1)*y)-(x*((rq p).2)))),.fr (VP.pim kC ((rq p).2)),.fr (kC.is ((rq p).2)),.fr (VP.pim kZ y),.fr (kZ.is y),.fr (kC.is (((rq p).2)*y)),.fr (kRC.is (rmk ((((rq p).1)*y)-(x*((rq p).2))) (((rq p).2)*y)))]) (aa Z (fun N=>cQ Z cB (aD Li) Z) (aa Z (fun N=>aO Z af) (aa Z (fun N=>cQ Z bW (am Li) Z) (aa Z (fun N=>aO Z af) (aa Z (fun N=>aB cY (aj Z (aL (hp.a.sm (by omega))) (aS Z ar)) (cW ((rq p).1) y)) (aa Z (fun N=>cQ Z cB (aD Li) Z) (aa Z (fun N=>aO Z af) (aa Z (fun N=>cQ Z bW (am Li) Z) (aa Z (fun N=>aO Z af) (aa Z (fun N=>aB cY (aS Z (aj Z (aL (hp.b.sm (by omega))) ar)) (cW x ((rq p).2))) (aa Z (fun N=>aB fn213 (aj Z (aL ((hp.a.mul hy).sm (by omega))) (aj Z (aL ((hx.mul hp.b).sm (by omega))) ar)) (f9 (((rq p).1)*y) (x*((rq p).2)))) (aa Z (fun N=>cQ Z bW (am Li) Z) (aa Z (fun N=>aO Z af) (aa Z (fun N=>cQ Z bW (am Li) Z) (aa Z (fun N=>aO Z af) (aa Z (fun N=>aB cY (aj Z (aL (hp.b.sm (by omega))) (aS Z ar)) (cW ((rq p).2) y)) (aa Z (fun N=>aB fn136 (aj Z (aL (((hp.a.mul hy).sub (hx.mul hp.b)).sm (by omega))) (aj Z (aL ((hp.b.mul hy).sm (by omega))) ar)) (fD ((((rq p).1)*y)-(x*((rq p).2))) (((rq p).2)*y) (by exact Int.mul_ne_zero (rq_den_ne p) (by omega)))) oz)))))))))))))))))<|fun σ1=>?_
 refine aE .n (aC (l:=kRC) (u:=rmk ((((rq p).1)*y)-(x*((rq p).2))) (((rq p).2)*y)) 0 Z Z Z ai Z Lr)<|Wn<|aA<|tb 0 Z (y:=(rq (p-rv (x,y)))) (by have e:=raw_sub (x:=(rq p).1) (u:=x) (rq_den_pos p) h0;rw [show ((rq p).1,(rq p).2)=rq p from rfl,rv_rq] at e;exact e) ?_
 exact Qd Z (aY Z (ag 0 Z) ai ay) ⟨Z,Z⟩
theorem c_rat_Subr (n:Nat) (p:Rat) (x y:Int) (hp:RZ n p) (hx:Sz n x) (hy:Sz n y) (h0:0<y) (hn:n≤68719476736):Fn Tryz.prog 194 [kRC.is (rq p),(kPair kZ kZ).is (x,y)] (VP.tup [kRC.is (rq (p-rv (x,y))),kN6.is 0]):=by
 refine aN Tryz.func194 Z Z fun m w=>Cr<|aZ .n Z fun b1=>aZ .n Z fun b2=>aW .n ba fun b3=>Wa Z<|Wr<|Ws (ae Z (ag 2 Z) Li ai Z)<|Ws (ae (p:=(kPair kZ kZ).is (x,y)) Z (ag 1 Z) Li ai Z)<|ee 2 Z (kp 0 Z (kp 1 Z (.hit (i:=2) Z (kp 3 Z (kp 4 Z (kp 5 Z (kp 6 Z (kp 7 Z .nil))))))))<|ee 1 Z (kp 0 Z (kp 1 Z (kp 2 Z (.hit (i:=3) Z (kp 4 Z (kp 5 Z (kp 6 Z (kp 7 Z .nil))))))))<|Ws (O.mkf (aS Z (aS Z ar)))<|Ws (aB fn205 (aS Z (aS Z (aS Z ar))) (c_rat_twor n p (p-rv (x,y)) x y 244 [VP.pim kRC (rq p),VP.pim (kPair kZ kZ) (x,y)] fn244 (c_rat_Sub1r n p x y hp hx hy h0 hn) hp h0 hn))<|Ws (aP Z Z)<|Ws (aP Z Z)<|aE .n (aC (l:=kRC) (u:=rq (p-rv (x,y))) 0 Z Z Z ai Z Lr)<|Wa Z<|Wn<|aA ?_
 exact Qd Z (aY Z (ag 0 Z) ai (aI Z ay)) ⟨Z,Z⟩
abbrev fE:=@c_rat_Subr
theorem c_close_subr (n:Nat) (p:Rat) (x y:Int) (hp:RZ n p) (hx:Sz n x) (hy:Sz n y) (h0:0<y) (hn:n≤68719476736):Fn Tryz.prog 123 [kRC.is (rq p),(kPair kZ kZ).is (x,y)] (kRC.is (rq (p-rv (x,y)))):=by
 refine aN Tryz.func123 Z Z fun m w=>Cr<|aZ .n Z fun b1=>aZ .n Z fun b2=>aW .n ba fun b3=>Wr<|Ws (ae Z (ag 2 Z) Li ai Z)<|Ws (ae (p:=(kPair kZ kZ).is (x,y)) Z (ag 1 Z) Li ai Z)<|Ws (f2 fn194 Z Z (fE n p x y (by assumption) (by assumption) (by assumption) (by assumption) (by assumption)))<|Wm Z<|Ws (aP Z Z)<|Ws (aP Z Z)<|Ax (l:=kRC) (u:=rq (p-rv (x,y))) ba Z ai (fun _=>Z) Lr fun b4=>Wa Z<|Wr<|Ws (ae Z (ag 0 Z) Li ai Z) ?_
 refine aE .n (aC (l:=kRC) (u:=rq (p-rv (x,y))) 1 Z Z Z ai Z Lr)<|Wn<|aA ?_
 exact Qd Z (aY Z (ag 1 Z) ai ay) ⟨Z,Z⟩
abbrev gm:=@c_close_subr
theorem c_rat_Div (n:Nat) (p q:Rat) (hp:RZ n p) (hq:RZ n q) (h0:q≠0) (hn:n≤68719476736):Fn Tryz.prog 70 [kRC.is (rq p),kRC.is (rq q)] (VP.tup [kRC.is (rq (p/q)),kN6.is 0]):=by
 refine aN Tryz.func70 Z Z fun m w=>?_
 have hv2:∀x,x∈[rq p,rq q]→0<x.2∧Sm x.2:=by intro x hx;rcases List.mem_cons.1 hx with rfl | hx;exact ⟨rq_den_pos p,hp.b.sm (by omega)⟩;rcases List.mem_cons.1 hx with rfl | hx;exact ⟨rq_den_pos q,hq.b.sm (by omega)⟩;cases hx
 refine Cr<|aZ .n Z fun b1=>aZ .n Z fun b2=>aW .n ba fun b3=>Wa Z<|Wn<|ab<|Cr<|Ws (ae Z (ag 2 Z) Li ai Z)<|Ws (ae Z (ag 1 Z) Li ai Z)<|Ws (bB U26 dn (bV Z (bV Z bA)) Z (by decide))<|Ws (f1 fn121 Z (c_rat_valid [rq p,rq q] hv2))<|Wa Z<|Wr<|Wm Z<|Ws (bG Z Z)<|Wn ?_
 refine CN Z (fun h=>h Z) fun h_t12=>?_
 refine Ck<|ab<|Cr<|Ws (aw Z cB Z)<|Ws (ae Z (ag 1 Z) (aD Li) af Z)<|Ws (aB db (aj Z (aL (hq.a.sm (by omega))) ar) (c9 ((rq q).1)))<|Ws (cq Z Z)<|Wn ?_
 refine CN Z (fun h=>h0 (rq_num0.1 h)) fun h_t18=>?_
 refine Ck<|ab ?_
 refine a5 (Γ:=[.fr (VP.pt b1 0),.fr (kC.is ((rq p).1)),.fr (VP.pt b2 2),.fr (kC.is ((rq q).2)),.fr (kC.is (((rq p).1)*((rq q).2))),.fr (VP.pt b1 2),.fr (kC.is ((rq p).2)),.fr (VP.pt b2 0),.fr (kC.is ((rq q).1)),.fr (kC.is (((rq p).2)*((rq q).1))),.fr (kRC.is (rmk (((rq p).1)*((rq q).2)) (((rq p).2)*((rq q).1))))]) (aa Z (fun N=>aw Z cB Z) (aa Z (fun N=>ae Z (mN N 2 Z) (aD Li) af Z) (aa Z (fun N=>aw Z bW Z) (aa Z (fun N=>ae Z (mN N 1 Z) (am Li) af Z) (aa Z (fun N=>aB cY (aj Z (aL (hp.a.sm (by omega))) (aj Z (aL (hq.b.sm (by omega))) ar)) (cW ((rq p).1) ((rq q).2))) (aa Z (fun N=>aw Z bW Z) (aa Z (fun N=>ae Z (mN N 2 Z) (am Li) af Z) (aa Z (fun N=>aw Z cB Z) (aa Z (fun N=>ae Z (mN N 1 Z) (aD Li) af Z) (aa Z (fun N=>aB cY (aj Z (aL (hp.b.sm (by omega))) (aj Z (aL (hq.a.sm (by omega))) ar)) (cW ((rq p).2) ((rq q).1))) (aa Z (fun N=>aB fn136 (aj Z (aL ((hp.a.mul hq.b).sm (by omega))) (aj Z (aL ((hp.b.mul hq.a).sm (by omega))) ar)) (fD (((rq p).1)*((rq q).2)) (((rq p).2)*((rq q).1)) (Int.mul_ne_zero (dZ p) (rq_num_ne h0)))) oz)))))))))))<|fun σ1=>?_
 refine aE .n (aC (l:=kRC) (u:=rmk (((rq p).1)*((rq q).2)) (((rq p).2)*((rq q).1))) 0 Z Z Z ai Z Lr)<|Wa Z<|Wn<|aA<|tb 0 Z (y:=(rq (p/q))) (rq_div p h0) ?_
 exact Qd Z (aY Z (ag 0 Z) ai (aI Z ay)) ⟨Z,Z⟩
theorem c_close_add (n:Nat) (p q:Rat) (hp:RZ n p) (hq:RZ n q) (hn:n≤68719476736):Fn Tryz.prog 69 [kRC.is (rq p),kRC.is (rq q)] (kRC.is (rq (p+q))):=by
 refine aN Tryz.func69 Z Z fun m w=>Cr<|aZ .n Z fun b1=>aZ .n Z fun b2=>aW .n ba fun b3=>Wr<|Ws (ae Z (ag 2 Z) Li ai Z)<|Ws (ae Z (ag 1 Z) Li ai Z)<|Ws (f2 fn135 Z Z (gE n p q (by assumption) (by assumption) (by assumption)))<|Wm Z<|Ws (aP Z Z)<|Ws (aP Z Z)<|Ax (l:=kRC) (u:=rq (p+q)) ba Z ai (fun _=>Z) Lr fun b4=>Wa Z<|Wr<|Ws (ae Z (ag 0 Z) Li ai Z) ?_
 refine aE .n (aC (l:=kRC) (u:=rq (p+q)) 1 Z Z Z ai Z Lr)<|Wn<|aA ?_
 exact Qd Z (aY Z (ag 1 Z) ai ay) ⟨Z,Z⟩
theorem c_close_mul (n:Nat) (p q:Rat) (hp:RZ n p) (hq:RZ n q) (hn:n≤68719476736):Fn Tryz.prog 195 [kRC.is (rq p),kRC.is (rq q)] (kRC.is (rq (p*q))):=by
 refine aN Tryz.func195 Z Z fun m w=>Cr<|aZ .n Z fun b1=>aZ .n Z fun b2=>aW .n ba fun b3=>Wr<|Ws (ae Z (ag 2 Z) Li ai Z)<|Ws (ae Z (ag 1 Z) Li ai Z)<|Ws (f2 fn221 Z Z (gb n p q (by assumption) (by assumption) (by assumption)))<|Wm Z<|Ws (aP Z Z)<|Ws (aP Z Z)<|Ax (l:=kRC) (u:=rq (p*q)) ba Z ai (fun _=>Z) Lr fun b4=>Wa Z<|Wr<|Ws (ae Z (ag 0 Z) Li ai Z) ?_
 refine aE .n (aC (l:=kRC) (u:=rq (p*q)) 1 Z Z Z ai Z Lr)<|Wn<|aA ?_
 exact Qd Z (aY Z (ag 1 Z) ai ay) ⟨Z,Z⟩
theorem c_close_big (z:Int):Fn Tryz.prog 117 [kZ.is z] (kBool.is (decide ((256:Int)<(bitlen z.natAbs:Int)))):=by
 refine aN Tryz.func117 Z Z fun m w=>Cr<|aZ .n Z fun b1=>Wa Z<|Wr<|Ws (ae Z (ag 0 Z) Li af Z)<|Ws (f1 fn188 Z (c_zint_Bits z))<|Ws (cF Z Z)<|Wa Z<|Wn<|aA ?_
 exact Qd Z (du Z (ah (y:=decide ((256:Int)<(bitlen z.natAbs:Int))) (by rfl)) ay) ⟨Z,Z⟩
theorem c_close_asked (b:List (List Int)) (t:List (Int×Int)):Fn Tryz.prog 54 [kMZ.is b,(kSl (kPair kZ kZ)).is t] (kN6.is (askE b t)):=by
 refine aN Tryz.func54 Z Z fun m w=>a8 (i:=1) Z bF fun hB1=>a8 (i:=0) Z bF fun hB0=>a8 (i:=0) Z fg fun hlc=>Cr<|Wa Z<|Wn<|ab<|Cr<|Wm Z<|Ws (f1 fn116 Z (c_gso_Valid b))<|Wa Z<|Wr<|Wm Z<|Ws (bG Z Z)<|Wn ?_
 refine aM Z (fun h_t13=>?_)<|fun h_t13=>?_
 ·
  refine Cr<|Wm Z<|Wa Z<|Wn<|aA<|a6<|tl 4 Z (y:=(askE b t)) (askE_1 h_t13).symm ?_
  exact Qd Z (aI Z ay) ⟨Z,Z⟩
 ·
  refine Ck<|ab<|ab ?_
  have hlc0:=hlc 0
  have hb0:=(basis_of (b:=b) (by omega)).n0
  refine ak<|Wm Z<|Ws (aJ Z U26)<|Wm Z<|Ws (aU 0 Z Z U22 aK Z (v:=(b.getD 0 [])) (gd [] (by omega)))<|Ws (aO Z aK)<|Ws (aJ Z U23)<|Ws (bG Z Z)<|Wn ?_
  refine aM Z (fun h_t21=>?_)<|fun h_t21=>?_
  ·
   refine Cr<|Wa Z<|Wn<|aA<|a6<|tl 4 Z (y:=(askE b t)) (askE_2 h_t13 (by omega)).symm ?_
   exact Qd Z (aI Z ay) ⟨Z,Z⟩
  ·
   refine Ck<|ab<|Cr<|Wm Z<|Ws (aJ Z U26)<|Wm Z<|Wn<|aF<|bJ (fun (i:Nat)=>i≤t.length∧denB t i=true) (fun (i:Nat)=>[(0,kMZ.is b),(1,(kSl (kPair kZ kZ)).is t),(22,(kSl (kPair kZ kZ)).is t),(23,kN6.is (t.length:Int)),(24,kN6.is (i:Int))]) (fun (i:Nat)=>[]) (fun (i:Nat)=>t.length-i) 0 ⟨Nat.zero_le _,denB_0 t⟩ (ao Z Z Z Z (az Z (ah (y:=(0:Int)) (by rfl)) aq)) (aG _) ?_
   intro i ⟨hi,hd⟩
   refine Cr<|Ws (aX Z Z)<|Wn<|ab ?_
   refine aM Z (fun h_t25=>?_)<|fun h_t25=>?_
   ·
    refine Ck<|ab<|aF<|Cr<|Ws (aU i Z Z U26 ai Z (v:=(t.getD i (0,0))) (gd (0,0) (by omega)))<|Ws (aO Z ai)<|Ax (l:=(kPair kZ kZ)) (u:=(t.getD i (0,0))) z31_pr_Z_Z_ Z ai (fun _=>Z) Lr fun b1=>Wr<|Ws (aw Z bW Z)<|Ws (ae Z (ag 0 Z) (am Li) af Z)<|Ws (f1 db Z (c9 ((t.getD i (0,0)).2)))<|Ws (dL Z Z)<|Wn ?_
    refine aM Z (fun h_t31=>?_)<|fun h_t31=>?_
    ·
     refine Cr<|Wa Z<|Wn<|aA<|bQ<|a6<|a6<|bQ<|a6<|tl 4 Z (y:=(askE b t)) (askE_3 h_t13 (by omega) (fk (i:=i) (by omega) (sgn_npos h_t31))).symm ?_
     exact Qd Z (aI Z ay) ⟨Z,Z⟩
    ·
     refine cx<|Qb<|ak<|Ws (aR Z Z (c:=((i:Int)+1)) (aH (by omega)))<|Wm Z<|au ?_
     exact bE (i+1) (by omega) ⟨by omega,denB_s (by omega) hd (sgn_pos0 h_t31)⟩ (ao Z Z Z Z (az Z (ah (y:=(((i+1):Nat):Int)) (by rfl)) aq))<|fL<|List.nil_sublist _
   ·
    refine Ex<|ab<|ab ?_
    have hdn:denB t t.length=true:=by rw [show t.length=i by omega];exact hd
    refine ak<|Wm Z<|Ws (aJ Z U26)<|Wm Z<|Wn<|aF<|bJ (fun (j:Nat)=>j≤t.length∧bitB t j=true) (fun (j:Nat)=>[(0,kMZ.is b),(1,(kSl (kPair kZ kZ)).is t),(33,(kSl (kPair kZ kZ)).is t),(34,kN6.is (t.length:Int)),(35,kN6.is (j:Int))]) (fun (j:Nat)=>[]) (fun (j:Nat)=>t.length-j) 0 ⟨Nat.zero_le _,bitB_0 t⟩ (ao Z Z Z Z (az Z (ah (y:=(0:Int)) (by rfl)) aq)) (aG _) ?_
    intro j ⟨hj,hb⟩
    refine Cr<|Ws (aX Z Z)<|Wn<|ab ?_
    refine aM Z (fun h_t36=>?_)<|fun h_t36=>?_
    ·
     refine Ck<|ab<|aF<|Cr<|Ws (aU j Z Z U26 ai Z (v:=(t.getD j (0,0))) (gd (0,0) (by omega)))<|Ws (aO Z ai)<|Ax (l:=(kPair kZ kZ)) (u:=(t.getD j (0,0))) z31_pr_Z_Z_ Z ai (fun _=>Z) Lr fun b2=>Wr<|Ws (aw Z cB Z)<|Ws (ae Z (ag 0 Z) (aD Li) af Z)<|Ws (f1 fn117 Z (c_close_big ((t.getD j (0,0)).1)))<|Wm Z ?_
     refine cG 42 Z (fun h_t42=>?_)<|fun h_t42=>?_
     ·
      refine Kt Z Z<|Kt Z Z<|Kt Z Z<|Ws (cE Z Z)<|Wn<|fi Z<|Cr<|Wa Z<|Wn<|aA<|bQ<|a6<|a6<|bQ<|a6<|tl 4 Z (y:=(askE b t)) (askE_4 h_t13 (by omega) hdn (bitB_n (i:=j) (by omega) (.inl h_t42))).symm ?_
      exact Qd Z (aI Z ay) ⟨Z,Z⟩
     ·
      refine Wg Z Z (aw Z bW Z)<|Wg Z Z (ae Z (ag 0 Z) (am Li) af Z)<|Wg Z Z (f1 fn117 Z (c_close_big ((t.getD j (0,0)).2)))<|Ws (cb Z Z)<|Wn ?_
      refine aM Z (fun h_t46=>?_)<|fun h_t46=>?_
      ·
       refine Cr<|Wa Z<|Wn<|aA<|bQ<|a6<|a6<|bQ<|a6<|tl 4 Z (y:=(askE b t)) (askE_4 h_t13 (by omega) hdn (bitB_n (i:=j) (by omega) (.inr (by simpa using h_t46)))).symm ?_
       exact Qd Z (aI Z ay) ⟨Z,Z⟩
      ·
       refine cx<|Qb<|ak<|Ws (aR Z Z (c:=((j:Int)+1)) (aH (by omega)))<|Wm Z<|au ?_
       exact bE (j+1) (by omega) ⟨by omega,bitB_s (by omega) hb h_t42 (by simpa using h_t46)⟩ (ao Z Z Z Z (az Z (ah (y:=(((j+1):Nat):Int)) (by rfl)) aq))<|fL<|List.nil_sublist _
    ·
     refine Ex<|ab ?_
     have hbn:bitB t t.length=true:=by rw [show t.length=j by omega];exact hb
     refine ak<|Wa Z<|Wn<|aA<|tl 4 Z (y:=(askE b t)) (askE_5 h_t13 (by omega) hdn hbn).symm ?_
     exact Qd Z (aI Z ay) ⟨Z,Z⟩
end Fw
namespace Fw
open Go
section
variable {G:Fi}
def axQ (G:Fi) (n:Nat) (c:Nat→Rat) (j i:Nat):Rat:=sumQ (fun x=>c x*gsE (qG G) j x i) n
theorem axQ_s {n N:Nat} (hs:SymG G) (hp:PosU G N) {j:Nat} (hj:j<N) (c:Nat→Rat) (i:Nat):axQ G n c (j+1) i=axQ G n c j i-frM G i j*axQ G n c j j:=by
  unfold axQ
  rw [mul_sumQ,←sumQ_sub]
  apply sumQ_congr
  intro x hx
  have h1:=fr_step (i:=x) hs (hp.le (show j+1≤N by omega)) i
  have h2:=frM_mul hs hp (x:=x) hj
  rw [←h1,←h2]
  grind
theorem crd_ex (hs:SymG G):∀n,PosU G n→∀a:Nat→Rat,∃c:Nat→Rat,∀i,i<n→sumQ (fun x=>c x*(G x i:Rat)) n=a i
  | 0,_,a=>⟨fun _=>0,fun i hi=>absurd hi (by omega)⟩
  | n+1,hp,a=>by
    have hpn:PosU G n:=hp.le (by omega)
    obtain ⟨e,he⟩:=crd_ex hs n hpn (fun i=>(G i n:Rat))
    obtain ⟨f,hf⟩:=crd_ex hs n hpn a
    -- what is left of the last row
    have hd:∀j,j≤n→(∀i,i<n→gsE (qG G) j i n-axQ G n e j i=0)∧gsE (qG G) j n n-axQ G n e j n=(G n n:Rat)-sumQ (fun x=>e x*(G x n:Rat)) n:=by
      intro j
      induction j with
      | zero=>
        intro _
        refine ⟨fun i hi=>?_,rfl⟩
        have:=he i hi
        show (G i n:Rat)-sumQ (fun x=>e x*(G x i:Rat)) n=0
        rw [this];grind
      | succ j ih=>
        intro hj
        obtain ⟨h1,h2⟩:=ih (by omega)
        have key:∀i,gsE (qG G) (j+1) i n-axQ G n e (j+1) i=(gsE (qG G) j i n-axQ G n e j i)-frM G i j*(gsE (qG G) j j n-axQ G n e j j):=fun i=>by
          rw [axQ_s hs hpn (show j<n by omega),←fr_step (i:=i) hs (hpn.le (show j+1≤n by omega)) n]
          have h3:gsE (qG G) j j n=frM G n j*frS G j:=by
            rw [frM_mul hs hp (x:=n) (show j<n+1 by omega)]
            exact gsE_sym (qG_sy hs) j j n
          rw [h3];grind
        refine ⟨fun i hi=>?_,?_⟩
        · rw [key,h1 i hi,h1 j (by omega)];grind
        · rw [key,h1 j (by omega),←h2];grind
    obtain ⟨_,h2⟩:=hd n (Nat.le_refl _)
    have h3:axQ G n e n n=0:=by
      unfold axQ
      rw [sumQ_congr (g:=fun _=>0),sumQ_zero]
      intro x hx
      rw [gsE_gone (qG_sy hs) (fun l hl=>piv_ne hs hpn hl) n (Nat.le_refl _) x n (.inl hx)]
      grind
    have hpos:=frS_p hs hp (show n<n+1 by omega)
    have h4:(G n n:Rat)-sumQ (fun x=>e x*(G x n:Rat)) n=frS G n:=by
      rw [←h2,h3];unfold frS;grind
    have hne:(G n n:Rat)-sumQ (fun x=>e x*(G x n:Rat)) n≠0:=by rw [h4];exact pos_ne hpos
    refine ⟨fun x=>if x=n then (a n-sumQ (fun x=>f x*(G x n:Rat)) n)/((G n n:Rat)-sumQ (fun x=>e x*(G x n:Rat)) n) else f x-(a n-sumQ (fun x=>f x*(G x n:Rat)) n)/((G n n:Rat)-sumQ (fun x=>e x*(G x n:Rat)) n)*e x,fun i hi=>?_⟩
    generalize hk:(a n-sumQ (fun x=>f x*(G x n:Rat)) n)/((G n n:Rat)-sumQ (fun x=>e x*(G x n:Rat)) n)=k
    show sumQ _ n+_=a i
    dsimp only
    rw [if_pos rfl,sumQ_congr (g:=fun x=>f x*(G x i:Rat)-k*(e x*(G x i:Rat))),sumQ_sub,←mul_sumQ]
    · by_cases e1:i=n
      · subst e1
        have h5:k*((G i i:Rat)-sumQ (fun x=>e x*(G x i:Rat)) i)=a i-sumQ (fun x=>f x*(G x i:Rat)) i:=by rw [←hk];grind
        grind
      · rw [hf i (by omega),he i (by omega),hs n i];grind
    · intro x hx
      rw [if_neg (by omega)];grind
noncomputable def crd (G:Fi) (n:Nat) (a:Nat→Rat):Nat→Rat:=by
  classical
  exact if h:∃c:Nat→Rat,∀i,i<n→sumQ (fun x=>c x*(G x i:Rat)) n=a i then Classical.choose h else fun _=>0
theorem crd_eq (hs:SymG G) {n:Nat} (hp:PosU G n) (a:Nat→Rat):∀i,i<n→sumQ (fun x=>crd G n a x*(G x i:Rat)) n=a i:=by
  have h:=crd_ex hs n hp a
  unfold crd
  rw [dif_pos h]
  exact Classical.choose_spec h
theorem crd_0 (hs:SymG G) {n:Nat} (hp:PosU G n) (a:Nat→Rat) {i:Nat} (hi:i<n):axQ G n (crd G n a) 0 i=a i:=crd_eq hs hp a i hi
theorem crd_y (G:Fi) (n:Nat) (c:Nat→Rat) (i:Nat):axQ G n c i i=qy (qG G) n c i:=rfl
def bkQ (G:Fi) (n:Nat) (c:Nat→Rat) (i J:Nat):Rat:=c i+sumQ (fun j=>if J≤j then c j*frM G j i else 0) n
theorem bk_0 (hs:SymG G) {n:Nat} (hp:PosU G n) (c:Nat→Rat) {i:Nat} (hi:i<n):axQ G n c i i/frS G i=bkQ G n c i (i+1):=by
  have h:=qy_split hs hp c hi
  rw [crd_y,h]
  have:=pos_ne (frS_p hs hp hi)
  unfold bkQ
  have e:(fun j=>if i<j then c j*frM G j i else 0)=fun j=>if i+1≤j then c j*frM G j i else 0:=rfl
  rw [e];grind
theorem sumQ_drop {f:Nat→Rat} {J:Nat}:∀{n},J<n→sumQ (fun j=>if J≤j then f j else 0) n=f J+sumQ (fun j=>if J+1≤j then f j else 0) n
  | 0,h=>by omega
  | n+1,h=>by
    show sumQ _ n+_=f J+(sumQ _ n+_)
    by_cases e:J<n
    · rw [sumQ_drop e]
      dsimp only
      rw [if_pos (show J≤n by omega),if_pos (show J+1≤n by omega)];grind
    · have:J=n:=by omega
      subst this
      dsimp only
      rw [if_pos (Nat.le_refl _),if_neg (show ¬J+1≤J by omega),sumQ_congr (g:=fun _=>0),sumQ_zero,sumQ_congr (f:=fun j=>if J+1≤j then f j else 0) (g:=fun _=>0),sumQ_zero]
      · grind
      · intro x hx;rw [if_neg (by omega)]
      · intro x hx;rw [if_neg (by omega)]
theorem bk_s {n:Nat} (c:Nat→Rat) {i J:Nat} (hJ:J<n):bkQ G n c i J-frM G J i*c J=bkQ G n c i (J+1):=by
  unfold bkQ
  rw [sumQ_drop (f:=fun j=>c j*frM G j i) hJ];grind
theorem bk_end {n:Nat} (c:Nat→Rat) (i:Nat):bkQ G n c i n=c i:=by
  unfold bkQ
  rw [sumQ_congr (g:=fun _=>0),sumQ_zero]
  · grind
  · intro x hx;rw [if_neg (by omega)]
theorem crd_uniq (hs:SymG G) {n:Nat} (hp:PosU G n) {c e:Nat→Rat} (h:∀i,i<n→sumQ (fun x=>c x*(G x i:Rat)) n=sumQ (fun x=>e x*(G x i:Rat)) n):∀i,i<n→c i=e i:=by
  have hax:∀j,j≤n→∀i,i<n→axQ G n c j i=axQ G n e j i:=by
    intro j
    induction j with
    | zero=>intro _ i hi;exact h i hi
    | succ j ih=>
      intro hj i hi
      rw [axQ_s hs hp (show j<n by omega),axQ_s hs hp (show j<n by omega),ih (by omega) i hi,ih (by omega) j (by omega)]
  have key:∀d i,i<n→n-i≤d→c i=e i:=by
    intro d
    induction d with
    | zero=>intro i hi hd;omega
    | succ d ih=>
      intro i hi hd
      have h1:=bk_0 hs hp c hi
      have h2:=bk_0 hs hp e hi
      rw [hax i (by omega) i hi,h2] at h1
      unfold bkQ at h1
      rw [sumQ_congr (f:=fun j=>if i+1≤j then c j*frM G j i else 0) (g:=fun j=>if i+1≤j then e j*frM G j i else 0)] at h1
      · grind
      · intro x hx
        by_cases e3:i+1≤x
        · rw [if_pos e3,if_pos e3,ih x hx (by omega)]
        · rw [if_neg e3,if_neg e3]
  exact fun i hi=>key n i hi (by omega)
theorem crd_of (hs:SymG G) {n:Nat} (hp:PosU G n) {a c:Nat→Rat} (h:∀i,i<n→sumQ (fun x=>c x*(G x i:Rat)) n=a i):∀i,i<n→c i=crd G n a i:=
  crd_uniq hs hp fun i hi=>by rw [h i hi,crd_eq hs hp a i hi]
end
theorem sumQ_back {f:Nat→Rat} {n:Nat}:∀t,t≤n→sumQ (fun k=>f (n-1-k)) t=sumQ (fun j=>if n-t≤j then f j else 0) n
  | 0,_=>by
    rw [sumQ_congr (f:=fun j=>if n-0≤j then f j else 0) (g:=fun _=>0),sumQ_zero]
    · rfl
    · intro x hx;rw [if_neg (by omega)]
  | t+1,h=>by
    show sumQ (fun k=>f (n-1-k)) t+f (n-1-t)=_
    rw [sumQ_back t (by omega),sumQ_drop (f:=f) (J:=n-(t+1)) (by omega),show n-(t+1)+1=n-t by omega,show n-1-t=n-(t+1) by omega]
    grind
theorem sumQ_rev {f:Nat→Rat} (n:Nat):sumQ (fun k=>f (n-1-k)) n=sumQ f n:=by
  rw [sumQ_back n (Nat.le_refl _)]
  apply sumQ_congr
  intro x hx
  rw [if_pos (by omega)]
section
variable {G:Fi} {n:Nat}
def cenQ (G:Fi) (n:Nat) (c s:Nat→Rat) (i k:Nat):Rat:=c i-sumQ (fun t=>frM G (n-1-t) i*(s t-c (n-1-t))) k
def parQ (G:Fi) (n:Nat) (c s:Nat→Rat) (k:Nat):Rat:=sumQ (fun t=>(s t-cenQ G n c s (n-1-t) t)*(s t-cenQ G n c s (n-1-t) t)*frS G (n-1-t)) k
theorem cen_off (c s:Nat→Rat) {t:Nat} (ht:t<n):s t-cenQ G n c s (n-1-t) t=bkQ G n (fun j=>s (n-1-j)-c j) (n-1-t) (n-1-t+1):=by
  unfold cenQ bkQ
  have h:=sumQ_back (f:=fun j=>frM G j (n-1-t)*(s (n-1-j)-c j)) (n:=n) t (by omega)
  have e:sumQ (fun k=>frM G (n-1-k) (n-1-t)*(s k-c (n-1-k))) t=sumQ (fun k=>frM G (n-1-k) (n-1-t)*(s (n-1-(n-1-k))-c (n-1-k))) t:=sumQ_congr fun k hk=>by rw [show n-1-(n-1-k)=k by omega]
  rw [e,h,show n-t=n-1-t+1 by omega]
  dsimp only
  rw [show n-1-(n-1-t)=t by omega]
  rw [sumQ_congr (f:=fun j=>if n-1-t+1≤j then (s (n-1-j)-c j)*frM G j (n-1-t) else 0) (g:=fun j=>if n-1-t+1≤j then frM G j (n-1-t)*(s (n-1-j)-c j) else 0)]
  · grind
  · intro x hx
    by_cases e2:n-1-t+1≤x
    · rw [if_pos e2,if_pos e2];grind
    · rw [if_neg e2,if_neg e2]
theorem par_qf (hs:SymG G) (hp:PosU G n) (c s:Nat→Rat):parQ G n c s n=qf (qG G) n (fun j=>s (n-1-j)-c j):=by
  rw [qf_sum (qG_sy hs) (fun l hl=>piv_ne hs hp hl),←sumQ_rev n]
  unfold parQ
  apply sumQ_congr
  intro t ht
  rw [cen_off c s ht,←bk_0 hs hp _ (show n-1-t<n by omega),crd_y]
  have:=pos_ne (frS_p hs hp (show n-1-t<n by omega))
  show _=qy (qG G) n (fun j=>s (n-1-j)-c j) (n-1-t)*qy (qG G) n (fun j=>s (n-1-j)-c j) (n-1-t)/frS G (n-1-t)
  grind
end
section
variable {n m:Nat} {R:List (List Int)}
def alQ (R:List (List Int)) (m:Nat) (τ:Nat→Rat) (i:Nat):Rat:=sumQ (fun k=>(matF R i k:Rat)*τ k) m
def rwQ (R:List (List Int)) (n:Nat) (y:Nat→Rat) (k:Nat):Rat:=sumQ (fun i=>y i*(matF R i k:Rat)) n
theorem gram_q (h:CR n m R) (x y:Nat):(gram R x y:Rat)=sumQ (fun k=>(matF R x k:Rat)*(matF R y k:Rat)) m:=by
  rw [gram_sum h,sumN_q]
  apply sumQ_congr
  intro i hi
  rw [Rat.intCast_mul]
theorem rw_dot (R:List (List Int)) (n m:Nat) (y z:Nat→Rat):sumQ (fun k=>rwQ R n y k*z k) m=sumQ (fun i=>y i*alQ R m z i) n:=by
  have e:(fun k=>rwQ R n y k*z k)=fun k=>sumQ (fun i=>y i*((matF R i k:Rat)*z k)) n:=by
    funext k
    unfold rwQ
    rw [sumQ_mul]
    exact sumQ_congr fun i _=>by grind
  rw [e,sumQ_comm (fun k i=>y i*((matF R i k:Rat)*z k)) n m]
  apply sumQ_congr
  intro i hi
  unfold alQ
  rw [mul_sumQ]
theorem al_rw (h:CR n m R) (y:Nat→Rat) (i:Nat):alQ R m (rwQ R n y) i=sumQ (fun x=>y x*(gram R x i:Rat)) n:=by
  unfold alQ
  have e:sumQ (fun k=>(matF R i k:Rat)*rwQ R n y k) m=sumQ (fun k=>rwQ R n y k*(matF R i k:Rat)) m:=sumQ_congr fun k _=>by grind
  rw [e,rw_dot]
  apply sumQ_congr
  intro x hx
  congr 1
  unfold alQ
  exact (gram_q h x i).symm
theorem rw_qf (h:CR n m R) (y:Nat→Rat):sumQ (fun k=>rwQ R n y k*rwQ R n y k) m=qf (qG (gram R)) n y:=by
  rw [rw_dot]
  unfold qf
  apply sumQ_congr
  intro i hi
  rw [al_rw h,mul_sumQ]
  apply sumQ_congr
  intro j hj
  show y i*(y j*(gram R j i:Rat))=y i*y j*(gram R i j:Rat)
  rw [show gram R j i=gram R i j by rw [gram_sum h,gram_sum h];exact sumN_congr fun k _=>Int.mul_comm _ _]
  grind
def hgtQ (R:List (List Int)) (n m:Nat) (c τ:Nat→Rat):Rat:=sumQ (fun k=>(τ k-rwQ R n c k)*(τ k-rwQ R n c k)) m
theorem pythQ (h:CR n m R) {c τ x:Nat→Rat} (hc:∀i,i<n→sumQ (fun j=>c j*(gram R j i:Rat)) n=alQ R m τ i):sumQ (fun k=>(rwQ R n x k-τ k)*(rwQ R n x k-τ k)) m=qf (qG (gram R)) n (fun i=>x i-c i)+hgtQ R n m c τ:=by
  have hv:∀k,rwQ R n (fun i=>x i-c i) k=rwQ R n x k-rwQ R n c k:=fun k=>by
    unfold rwQ
    rw [←sumQ_sub]
    exact sumQ_congr fun i _=>by grind
  have hz:sumQ (fun k=>rwQ R n (fun i=>x i-c i) k*(rwQ R n c k-τ k)) m=0:=by
    rw [rw_dot,sumQ_congr (g:=fun _=>0),sumQ_zero]
    intro i hi
    have e:alQ R m (fun k=>rwQ R n c k-τ k) i=alQ R m (rwQ R n c) i-alQ R m τ i:=by
      unfold alQ
      rw [←sumQ_sub]
      exact sumQ_congr fun k _=>by grind
    rw [e,al_rw h,hc i hi];grind
  rw [←rw_qf h]
  unfold hgtQ
  have e:(fun k=>(rwQ R n x k-τ k)*(rwQ R n x k-τ k))=fun k=>(rwQ R n (fun i=>x i-c i) k*rwQ R n (fun i=>x i-c i) k+(τ k-rwQ R n c k)*(τ k-rwQ R n c k))+(rwQ R n (fun i=>x i-c i) k*(rwQ R n c k-τ k)+rwQ R n (fun i=>x i-c i) k*(rwQ R n c k-τ k)):=by
    funext k
    rw [hv k];grind
  rw [e,sumQ_add (fun k=>rwQ R n (fun i=>x i-c i) k*rwQ R n (fun i=>x i-c i) k+(τ k-rwQ R n c k)*(τ k-rwQ R n c k)) _,sumQ_add,sumQ_add (fun k=>rwQ R n (fun i=>x i-c i) k*(rwQ R n c k-τ k)),hz]
  grind
end
structure RedJ (G:Fi) (n:Nat) (f0:Fq) (c:Nat) (f:Fq):Prop where
  gf:∀i k,c≤i→i<n→c≤k→k<n→f i k=gsE (qG G) c i k
  un:∀i k,i<n→k<c→f i k=if i=k then 1 else 0
  ro:∃E:Nat→Nat→Rat,∀i k,i<n→f i k=sumQ (fun x=>E i x*f0 x k) n
section
variable {G:Fi} {n:Nat} {f0 f:Fq}
theorem redJ_0 (h:∀i k,i<n→k<n→f0 i k=(G i k:Rat)):RedJ G n f0 0 f0:=by
  refine ⟨fun i k _ hi _ hk=>h i k hi hk,fun i k _ hk=>absurd hk (by omega),fun i x=>if x=i then 1 else 0,fun i k hi=>?_⟩
  have h1:=sumQ_one (f:=fun x=>(if x=i then (1:Rat) else 0)*f0 x k) (k:=i) hi (fun x _ hx=>by rw [if_neg hx];grind)
  show f0 i k=sumQ (fun x=>(if x=i then (1:Rat) else 0)*f0 x k) n
  rw [h1,if_pos rfl];grind
theorem RedJ.piv {c:Nat} (h:RedJ G n f0 c f) (hs:SymG G) (hp:PosU G n) (hc:c<n):f c c=frS G c∧f c c≠0:=by
  have e:f c c=frS G c:=h.gf c c (Nat.le_refl _) hc (Nat.le_refl _) hc
  exact ⟨e,by rw [e];exact pos_ne (frS_p hs hp hc)⟩
theorem RedJ.step {c:Nat} (h:RedJ G n f0 c f) (hs:SymG G) (hp:PosU G n) (hc:c<n):RedJ G n f0 (c+1) (rdcF f c c c n):=by
  obtain ⟨_,hne⟩:=h.piv hs hp hc
  obtain ⟨E,hE⟩:=h.ro
  have e1:∀k,rdcF f c c c n c k=f c k/f c c:=fun k=>by
    unfold rdcF elimF divA
    rw [swapF_self,if_neg (by omega),if_pos rfl]
  have e2:∀i k,i<n→i≠c→rdcF f c c c n i k=f i k-f i c*(f c k/f c c):=fun i k hi hic=>by
    unfold rdcF elimF divA
    rw [swapF_self,if_pos ⟨hi,hic⟩,if_neg hic,if_neg hic,if_pos rfl]
  refine ⟨fun i k hi hin hk hkn=>?_,fun i k hin hk=>?_,fun i x=>if i=c then E c x/f c c else E i x-f i c*(E c x/f c c),fun i k hi=>?_⟩
  · rw [e2 i k hin (by omega),h.gf i k (by omega) hin (by omega) hkn,h.gf i c (by omega) hin (Nat.le_refl _) hc,h.gf c k (Nat.le_refl _) hc (by omega) hkn,h.gf c c (Nat.le_refl _) hc (Nat.le_refl _) hc]
    show _=gsE (qG G) c i k-gsE (qG G) c i c*gsE (qG G) c c k/gsE (qG G) c c c
    have hne2:=piv_ne hs hp hc
    grind
  · by_cases ec:k=c
    · subst ec
      by_cases ei:i=k
      · subst ei
        rw [e1,if_pos rfl];grind
      · rw [e2 i k hin ei,if_neg ei];grind
    · have hk2:k<c:=by omega
      by_cases ei:i=c
      · subst ei
        rw [e1,h.un i k hc hk2,if_neg (by omega)];grind
      · rw [e2 i k hin ei,h.un i k hin hk2,h.un c k hc hk2,if_neg (show ¬c=k by omega)];grind
  · by_cases ei:i=c
    · subst ei
      rw [e1,hE i k hi]
      dsimp only
      have:(fun x=>(if i=i then E i x/f i i else E i x-f i i*(E i x/f i i))*f0 x k)=fun x=>(E i x*f0 x k)*(f i i)⁻¹:=by
        funext x;rw [if_pos rfl];grind
      rw [this,←sumQ_mul];grind
    · rw [e2 i k hi ei,hE i k hi,hE c k hc]
      dsimp only
      have:(fun x=>(if i=c then E c x/f c c else E i x-f i c*(E c x/f c c))*f0 x k)=fun x=>E i x*f0 x k-(f i c*(f c c)⁻¹)*(E c x*f0 x k):=by
        funext x;rw [if_neg ei];grind
      rw [this,sumQ_sub,←mul_sumQ];grind
def augQ (G:Fi) (n:Nat):Fq:=fun i k=>if k<n then (G i k:Rat) else if k=n+i then 1 else 0
theorem RedJ.inv (h:RedJ G n (augQ G n) n f):∀i j,i<n→j<n→sumQ (fun x=>f i (n+x)*(G x j:Rat)) n=if i=j then 1 else 0:=fun i j hi hj=>by
  obtain ⟨E,hE⟩:=h.ro
  have h1:∀x,x<n→f i (n+x)=E i x:=fun x hx=>by
    rw [hE i (n+x) hi,sumQ_one (k:=x) hx]
    · unfold augQ;rw [if_neg (by omega),if_pos rfl];grind
    · intro y _ hy
      unfold augQ;rw [if_neg (by omega),if_neg (by omega)];grind
  rw [←h.un i j hi hj,hE i j hi]
  apply sumQ_congr
  intro x hx
  rw [h1 x hx]
  unfold augQ;rw [if_pos hj]
end
theorem sumQ_RZ {f:Nat→Rat} {s N:Nat} (h:∀i,i<N→RZ s (f i)):∀i,i≤N→RZ (1+i*(s+1)) (sumQ f i)
  | 0,_=>RZ0.up (by omega)
  | i+1,hi=>by
    have:=(sumQ_RZ h i (by omega)).add2 (h i (by omega))
    exact this.up (by rw [Nat.succ_mul];omega)
theorem sumQ_R12 {f:Nat→Rat} {s N i:Nat} (h:∀i,i<N→RZ s (f i)) (hi:i≤N) (h12:N≤12):RZ (1+12*(s+1)) (sumQ f i):=
  (sumQ_RZ h i hi).up (by have:=Nat.mul_le_mul_right (s+1) (show i≤12 by omega);omega)
structure RedP (G:Fi) (n:Nat) (f0:Fq) (s c:Nat) (f:Fq) (d:Rat):Prop where
  j:RedJ G n f0 c f
  z:∀i k,RZ (szE s c) (f i k)
  zd:RZ (szE s c+1) d
theorem RZ1 {s:Nat} (h:2≤s):RZ s (1:Rat):=RZ_int (by omega) (show Sz s 1 from Sz.up (n:=2) (show (1:Int).natAbs<2^2 by decide) h)
section
variable {G:Fi} {n s c:Nat} {f0 f:Fq} {d:Rat}
theorem redP_0 (h:∀i k,i<n→k<n→f0 i k=(G i k:Rat)) (hz:∀i k,RZ s (f0 i k)) (h1:1≤s):RedP G n f0 s 0 f0 1:=
  ⟨redJ_0 h,hz,RZ1 (by show 2≤s+1;omega)⟩
theorem RedP.step (h:RedP G n f0 s c f d) (hs:SymG G) (hp:PosU G n) (hc:c<n):RedP G n f0 s (c+1) (rdcF f c c c n) (d*f c c):=by
  obtain ⟨_,hne⟩:=h.j.piv hs hp hc
  have hz2:∀i k,RZ (szE s c+szE s c) (divA (swapF f c c) c (f c c) i k):=fun i k=>dvF_RZ h.z hne i k
  have hz3:∀i k,i≠c→RZ (szE s c) (divA (swapF f c c) c (f c c) i k):=fun i k hi=>dvF_RZ1 h.z hi k
  refine ⟨h.j.step hs hp hc,fun i k=>?_,(h.zd.mul (h.z c c)).up (by rw [szE];omega)⟩
  unfold rdcF elimF
  split
  · rename_i e
    have h2:=(hz3 i c e.2).mul (hz2 c k)
    exact (RZ.sub2 (hz3 i k e.2) h2).up (by rw [szE];omega)
  · exact (hz2 i k).up (by rw [szE];omega)
theorem RedP.zero {c2:Nat} (h:RedP G n f0 s c f d):RedP G n f0 s c f 0:=⟨h.j,h.z,RZ0.up (by omega)⟩
end
theorem szE_lt {c:Nat} (hc:c<12):4*szE 541 c+1≤9082066261:=by
  have h1:=szE_eq 541 (c+1)
  have h2:4^(c+1)≤4^12:=Nat.pow_le_pow_right (by decide) (by omega)
  have h3:4^(c+1)*(3*541+1)≤4^12*1624:=Nat.mul_le_mul h2 (by omega)
  rw [szE] at h1
  omega
theorem gsE_comb (A:Fq):∀k i,∃E:Nat→Rat,∀c,gsE A k i c=A i c-sumQ (fun x=>E x*A x c) k
  | 0,i=>⟨fun _=>0,fun c=>by show A i c=A i c-0;grind⟩
  | k+1,i=>by
    obtain ⟨E,hE⟩:=gsE_comb A k i
    obtain ⟨F,hF⟩:=gsE_comb A k k
    refine ⟨fun x=>if x=k then gsE A k i k/gsE A k k k else E x-gsE A k i k/gsE A k k k*F x,fun c=>?_⟩
    have e:sumQ (fun x=>(if x=k then gsE A k i k/gsE A k k k else E x-gsE A k i k/gsE A k k k*F x)*A x c) k=sumQ (fun x=>E x*A x c) k-gsE A k i k/gsE A k k k*sumQ (fun x=>F x*A x c) k:=by
      rw [mul_sumQ,←sumQ_sub]
      apply sumQ_congr
      intro x hx
      rw [if_neg (by omega)];grind
    rw [gsE_succ,hE c,hF c]
    show _=A i c-(sumQ (fun x=>(if x=k then gsE A k i k/gsE A k k k else E x-gsE A k i k/gsE A k k k*F x)*A x c) k+(if k=k then gsE A k i k/gsE A k k k else E k-gsE A k i k/gsE A k k k*F k)*A k c)
    rw [e,if_pos rfl]
    generalize sumQ (fun x=>E x*A x c) k=u
    generalize sumQ (fun x=>F x*A x c) k=w
    generalize gsE A k i k=y
    generalize gsE A k k k=z
    grind
def augS (G:Fi) (n:Nat):Fi:=fun i j=>if i<n∧j<n then G i j else if j=n+i∨i=n+j then 1 else 0
def invE (G:Fi) (n i j:Nat):Rat:=-gsE (qG (augS G n)) n (n+i) (n+j)
section
variable {G:Fi} {n:Nat}
theorem augS_sym (hs:SymG G):SymG (augS G n):=fun i j=>by
  unfold augS
  by_cases h:i<n∧j<n
  · rw [if_pos h,if_pos h.symm];exact hs i j
  · rw [if_neg h,if_neg (show ¬(j<n∧i<n) from fun x=>h x.symm)]
    by_cases e:j=n+i∨i=n+j
    · rw [if_pos e,if_pos (show i=n+j∨j=n+i from e.symm)]
    · rw [if_neg e,if_neg (show ¬(i=n+j∨j=n+i) from fun x=>e x.symm)]
theorem augS_in (i j:Nat) (hi:i<n) (hj:j<n):G i j=augS G n i j:=by unfold augS;rw [if_pos ⟨hi,hj⟩]
theorem augS_pos (hp:PosU G n):PosU (augS G n) n:=fun k hk=>by
  rw [←(uE_congr (n:=n) (G:=G) (H:=augS G n) augS_in k k k (by omega) hk hk).1]
  exact hp k hk
theorem augS_D:uD (augS G n) n=uD G n:=(uD_congr (n:=n) (G:=G) (H:=augS G n) augS_in (Nat.le_refl n)).symm
theorem augS_Sz {s:Nat} (hz:∀i j,Sz s (G i j)) (h1:2≤s) (i j:Nat):Sz s (augS G n i j):=by
  unfold augS
  split
  · exact hz i j
  · split
    · exact Sz.up (n:=2) (show (1:Int).natAbs<2^2 by decide) h1
    · exact Sz.zero _
theorem invE_ok (hs:SymG G) (hp:PosU G n):∀i j,i<n→j<n→sumQ (fun x=>invE G n i x*(G x j:Rat)) n=if i=j then 1 else 0:=fun i j hi hj=>by
  obtain ⟨E,hE⟩:=gsE_comb (qG (augS G n)) n (n+i)
  have hs2:=augS_sym (n:=n) hs
  have hp2:=augS_pos hp
  have h1:∀x,x<n→invE G n i x=E x:=fun x hx=>by
    have e0:qG (augS G n) (n+i) (n+x)=0:=by
      show ((augS G n (n+i) (n+x):Int):Rat)=0
      unfold augS;rw [if_neg (by omega),if_neg (by omega)];rfl
    have e1:qG (augS G n) x (n+x)=1:=by
      show ((augS G n x (n+x):Int):Rat)=1
      unfold augS;rw [if_neg (by omega),if_pos (.inl rfl)];rfl
    unfold invE
    rw [hE (n+x),sumQ_one (k:=x) hx,e0,e1]
    · grind
    · intro y hy hyx
      show E y*((augS G n y (n+x):Int):Rat)=0
      unfold augS;rw [if_neg (by omega),if_neg (by omega)];grind
  have h2:=hE j
  rw [gsE_gone (qG_sy hs2) (fun l hl=>piv_ne hs2 hp2 hl) n (Nat.le_refl _) (n+i) j (.inr hj)] at h2
  have h3:qG (augS G n) (n+i) j=if i=j then 1 else 0:=by
    show ((augS G n (n+i) j:Int):Rat)=_
    unfold augS;rw [if_neg (by omega)]
    by_cases e:i=j
    · rw [if_pos e,if_pos (by omega)];rfl
    · rw [if_neg e,if_neg (by omega)];rfl
  rw [←h3,sumQ_congr (g:=fun x=>E x*qG (augS G n) x j)]
  · grind
  · intro x hx
    rw [h1 x hx,augS_in (G:=G) x j hx hj];rfl
theorem RedJ.inv_eq {f:Fq} (h:RedJ G n (augQ G n) n f) (hs:SymG G) (hp:PosU G n) {i j:Nat} (hi:i<n) (hj:j<n):f i (n+j)=invE G n i j:=
  crd_uniq hs hp (c:=fun x=>f i (n+x)) (e:=fun x=>invE G n i x) (fun k hk=>by rw [h.inv i k hi hk,invE_ok hs hp i k hi hk]) j hj
theorem inv_crd2 (hs:SymG G) (hp:PosU G n) (a:Nat→Rat):∀i,i<n→sumQ (fun k=>a k*invE G n k i) n=crd G n a i:=
  crd_of hs hp fun j hj=>by
    have e:(fun x=>sumQ (fun k=>a k*invE G n k x) n*(G x j:Rat))=fun x=>sumQ (fun k=>a k*(invE G n k x*(G x j:Rat))) n:=by
      funext x
      rw [sumQ_mul]
      exact sumQ_congr fun k _=>by grind
    rw [e,sumQ_comm (fun x k=>a k*(invE G n k x*(G x j:Rat))) n n,sumQ_congr (g:=fun k=>a k*(if k=j then 1 else 0))]
    · rw [sumQ_one (k:=j) hj (fun k _ hk=>by rw [if_neg hk];grind),if_pos rfl];grind
    · intro k hk
      rw [←mul_sumQ,invE_ok hs hp k j hk hj]
theorem invE_frac (hs:SymG G) (hp:PosU G n) (i j:Nat):∃z:Int,invE G n i j=(z:Rat)/(uD G n:Rat):=by
  refine ⟨-uE (augS G n) n (n+i) (n+j),?_⟩
  unfold invE
  rw [gsE_frac (augS_sym hs) (augS_pos hp) (show n≤n+i by omega) (show n≤n+j by omega),augS_D,Rat.intCast_neg]
  grind
theorem invE_RZ {s:Nat} (hs:SymG G) (hp:PosU G n) (hz:∀i j,Sz s (G i j)) (h1:2≤s) (i j:Nat):RZ (szU s n+1) (invE G n i j):=
  (frE_RZ (augS_sym hs) (augS_Sz hz h1) (augS_pos hp) (Nat.le_refl n) (show n≤n+i by omega) (show n≤n+j by omega)).neg
theorem den_dvd {z D:Int} (h:D≠0):(rq ((z:Rat)/(D:Rat))).2∣D:=by
  rw [←rmk_rq h]
  show (D.natAbs:Int).fdiv (Int.gcd z D)∣D
  have h1:((Int.gcd z D:Nat):Int)∣(D.natAbs:Int):=by
    have:((Int.gcd z D:Nat):Int)∣D:=Int.gcd_dvd_right ..
    exact Int.dvd_natAbs.2 this
  obtain ⟨k,hk⟩:=h1
  have hg:=gcd_ne (n:=z) h
  rw [hk,Int.mul_comm,Int.mul_fdiv_cancel _ hg]
  exact Int.natAbs_dvd_natAbs.1 ⟨(Int.gcd z D),by have:=congrArg Int.natAbs hk;rw [Int.natAbs_mul] at this;simp at this;rw [this,Nat.mul_comm]⟩
theorem invE_den (hs:SymG G) (hp:PosU G n) (i j:Nat):(rq (invE G n i j)).2∣uD G n:=by
  obtain ⟨z,hz⟩:=invE_frac hs hp i j
  rw [hz]
  exact den_dvd (uD_ne hp (Nat.le_refl n))
end
def lcmF (ps:List Rat):Nat→Int
  | 0=>1
  | k+1=>lcmF ps k*((rq (ps.getD k 0)).2.fdiv (Int.gcd (lcmF ps k) (rq (ps.getD k 0)).2:Int))
def lowD (ps:List Rat):Int:=lcmF ps ps.length
def lowF (ps:List Rat) (k:Nat):Int:=(rq (ps.getD k 0)).1*(lowD ps).fdiv (rq (ps.getD k 0)).2
def lowN (ps:List Rat):List Int:=(List.range ps.length).map (lowF ps)
structure LowOk (ps:List Rat) (D:Int):Prop where
  p:0<D
  d:∀k,k<ps.length→(rq (ps.getD k 0)).2∣D
theorem lcm_step {a b D:Int} (ha:0<a) (hb:0<b) (h1:a∣D) (h2:b∣D):0<a*b.fdiv (Int.gcd a b:Int)∧a*b.fdiv (Int.gcd a b:Int)∣D∧a∣a*b.fdiv (Int.gcd a b:Int)∧b∣a*b.fdiv (Int.gcd a b:Int):=by
  obtain ⟨x,rfl⟩:=Int.eq_ofNat_of_zero_le (show 0≤a by omega)
  obtain ⟨y,rfl⟩:=Int.eq_ofNat_of_zero_le (show 0≤b by omega)
  have hg:Int.gcd (x:Int) (y:Int)=Nat.gcd x y:=rfl
  have hd:Nat.gcd x y∣y:=Nat.gcd_dvd_right x y
  have e:(x:Int)*(y:Int).fdiv (Int.gcd (x:Int) (y:Int):Int)=((Nat.lcm x y:Nat):Int):=by
    rw [hg,Int.fdiv_eq_ediv_of_nonneg _ (Int.natCast_nonneg _),←Int.natCast_ediv,←Int.natCast_mul]
    congr 1
    unfold Nat.lcm
    rw [Nat.mul_div_assoc _ hd]
  have hx:0<x:=by omega
  have hy:0<y:=by omega
  have h3:=Nat.lcm_pos hx hy
  rw [e]
  refine ⟨by omega,?_,Int.natCast_dvd_natCast.2 (Nat.dvd_lcm_left x y),Int.natCast_dvd_natCast.2 (Nat.dvd_lcm_right x y)⟩
  have k1:x∣D.natAbs:=by have:=Int.natAbs_dvd_natAbs.2 h1;simpa using this
  have k2:y∣D.natAbs:=by have:=Int.natAbs_dvd_natAbs.2 h2;simpa using this
  exact Int.dvd_natAbs.1 (Int.natCast_dvd_natCast.2 (Nat.lcm_dvd k1 k2))
section
variable {ps:List Rat} {D:Int}
theorem LowOk.f (h:LowOk ps D):∀k,k≤ps.length→0<lcmF ps k∧lcmF ps k∣D∧∀j,j<k→(rq (ps.getD j 0)).2∣lcmF ps k
  | 0,_=>⟨by show (0:Int)<1;decide,⟨D,by show D=1*D;omega⟩,fun j hj=>absurd hj (by omega)⟩
  | k+1,hk=>by
    obtain ⟨h1,h2,h3⟩:=h.f k (by omega)
    obtain ⟨e1,e2,e3,e4⟩:=lcm_step h1 (rq_den_pos (ps.getD k 0)) h2 (h.d k (by omega))
    refine ⟨e1,e2,fun j hj=>?_⟩
    by_cases e:j=k
    · rw [e];exact e4
    · exact Int.dvd_trans (h3 j (by omega)) e3
theorem LowOk.le {n:Nat} (h:LowOk ps D) (hD:Sz n D) {k:Nat} (hk:k≤ps.length):Sz n (lcmF ps k):=by
  obtain ⟨h1,h2,_⟩:=h.f k hk
  have:=Int.le_of_dvd h.p h2
  exact hD.le (by omega)
theorem LowOk.q {n:Nat} (h:LowOk ps D) (hD:Sz n D) {k:Nat} (hk:k<ps.length):Sz n ((lowD ps).fdiv (rq (ps.getD k 0)).2):=by
  obtain ⟨h1,h2,h3⟩:=h.f ps.length (Nat.le_refl _)
  have hp:=rq_den_pos (ps.getD k 0)
  refine (h.le hD (Nat.le_refl _)).le ?_
  show ((lowD ps).fdiv (Fw.rq (ps.getD k 0)).2).natAbs≤(lowD ps).natAbs
  have h4:0<lowD ps:=h1
  rw [Int.fdiv_eq_ediv_of_nonneg _ (by omega)]
  have h5:=Int.ediv_le_self (rq (ps.getD k 0)).2 (show 0≤lowD ps by omega)
  have h6:=Int.ediv_nonneg (show 0≤lowD ps by omega) (show 0≤(rq (ps.getD k 0)).2 by omega)
  omega
theorem LowOk.rq (h:LowOk ps D) {k:Nat} (hk:k<ps.length):rmk (lowF ps k) (lowD ps)=Fw.rq (ps.getD k 0):=by
  obtain ⟨h1,_,h3⟩:=h.f ps.length (Nat.le_refl _)
  have h4:0<lowD ps:=h1
  rw [rmk_rq (by omega)]
  congr 1
  obtain ⟨e,he⟩:=h3 k hk
  have hd:=rq_den_pos (ps.getD k 0)
  have hn:=rq_den_ne (ps.getD k 0)
  have he2:lowD ps=(Fw.rq (ps.getD k 0)).2*e:=he
  have e0:e≠0:=fun x=>by rw [x] at he2;omega
  unfold lowF
  rw [he2,Int.mul_comm _ e,Int.mul_fdiv_cancel _ hn,Rat.intCast_mul,Rat.intCast_mul]
  have k1:((e:Int):Rat)≠0:=by exact_mod_cast e0
  have k2:(((Fw.rq (ps.getD k 0)).2:Int):Rat)≠0:=by exact_mod_cast hn
  have k3:=rq_val (ps.getD k 0)
  rw [←k3] at *
  grind
theorem lowN_len:(lowN ps).length=ps.length:=by simp [lowN]
theorem lowN_at {k:Nat} (hk:k<ps.length):(lowN ps)[k]?=some (lowF ps k):=by simp [lowN,hk]
end
structure TZ (G:Fi) (n:Nat) (c:Nat→Rat):Prop where
  s:SymG G
  p:PosU G n
  n0:0<n
  n12:n≤12
  d:∀k,k≤n→Sz 2300000 (uD G k)
  f:∀k,k<n→RZ 2300000 (frS G k)
  m:∀i j,j<i→i<n→RZ 2300000 (frM G i j)
  e:∀k i j,k≤i→k≤j→k≤n→RZ 2300000 (gsE (qG G) k i j)
  l:∀x k,x<n→k<x→Sz 2300000 (uE G k x k)
  c:∀i,i<n→RZ 28000000 (c i)
section
variable {G:Fi} {n:Nat} {c:Nat→Rat}
theorem szU_540 {k:Nat} (h:k≤12):szU 540 k+1≤2300000:=by have:=szU_eq 540 k;have h2:2^k≤2^12:=Nat.pow_le_pow_right (by decide) h;have h3:=Nat.mul_le_mul_right 541 h2;omega
theorem tz_of (hs:SymG G) (hp:PosU G n) (n0:0<n) (h12:n≤12) (hz:∀i j,Sz 540 (G i j)) (hc:∀i,i<n→RZ 28000000 (c i)):TZ G n c:=
  ⟨hs,hp,n0,h12,fun k hk=>(uD_Sz hs hz hp k hk).up (szU_540 (by omega)),fun k hk=>(frE_RZ hs hz hp (show k≤n by omega) (Nat.le_refl k) (Nat.le_refl k)).up (szU_540 (by omega)),fun i j hj hi=>(frM_RZ hs hz hp (show j<n by omega) (show j≤i by omega)).up (szU_540 (by omega)),
   fun k i j h1 h2 h3=>(frE_RZ hs hz hp h3 h1 h2).up (szU_540 (by omega)),fun x k hx hk=>(uE_Sz hs hz hp k (by omega) x k (by omega) (Nat.le_refl k)).up (by have:=szU_540 (show k≤12 by omega);omega),hc⟩
theorem inv_RZ (hs:SymG G) (hp:PosU G n) (h12:n≤12) (hz:∀i j,Sz 540 (G i j)) (i j:Nat):RZ 2300000 (invE G n i j):=(invE_RZ hs hp hz (by decide) i j).up (szU_540 h12)
theorem crd_RZ (hs:SymG G) (hp:PosU G n) (h12:n≤12) (hz:∀i j,Sz 540 (G i j)) {a:Nat→Rat} (ha:∀i,i<n→RZ 6400 (a i)) {i:Nat} (hi:i<n):RZ 28000000 (crd G n a i):=by
  rw [←inv_crd2 hs hp a i hi]
  exact (sumQ_R12 (fun k hk=>(ha k hk).mul (inv_RZ hs hp h12 hz k i)) (Nat.le_refl n) h12).up (by decide)
theorem TZ.inv_s {a:Nat→Rat} (hs:SymG G) (hp:PosU G n) (h12:n≤12) (hz:∀i j,Sz 540 (G i j)) (ha:∀i,i<n→RZ 6400 (a i)) (i:Nat) {k:Nat} (hk:k≤n):RZ 28000000 (sumQ (fun k=>a k*invE G n k i) k):=
  (sumQ_R12 (fun k hk=>(ha k hk).mul (inv_RZ hs hp h12 hz k i)) hk h12).up (by decide)
theorem TZ.ax (h:TZ G n c) (j:Nat) {i:Nat} (hj:j≤i) (hi:i<n):RZ 400000000 (axQ G n c j i):=by
  refine (sumQ_R12 (s:=30300001) (fun x hx=>?_) (Nat.le_refl n) h.n12).up (by decide)
  by_cases e:x<j
  · rw [gsE_gone (qG_sy h.s) (fun l hl=>piv_ne h.s h.p hl) j (by omega) x i (.inl e),show c x*0=(0:Rat) by grind]
    exact RZ0.up (by decide)
  · exact ((h.c x hx).mul (h.e j x i (by omega) hj (by omega))).up (by decide)
theorem TZ.bk (h:TZ G n c) {i J:Nat} (hi:i<n) (hJ:i<J):RZ 400000000 (bkQ G n c i J):=by
  refine ((h.c i hi).add2 (sumQ_R12 (s:=30300001) (fun x hx=>?_) (Nat.le_refl n) h.n12)).up (by decide)
  split
  · exact ((h.c x hx).mul (h.m x i (by omega) hx)).up (by decide)
  · exact RZ0.up (by decide)
theorem TZ.cen (h:TZ G n c) {s:Nat→Rat} {i k:Nat} (hs:∀t,t<k→RZ 30000001 (s t)) (hk:i+k<n):RZ 800000000 (cenQ G n c s i k):=by
  refine ((h.c i (by omega)).sub2 (sumQ_R12 (s:=60300003) (N:=k) (fun t ht=>?_) (Nat.le_refl k) (by have:=h.n12;omega))).up (by decide)
  exact ((h.m (n-1-t) i (by omega) (by omega)).mul ((hs t ht).sub2 (h.c (n-1-t) (by omega)))).up (by decide)
theorem TZ.off (h:TZ G n c) {s:Nat→Rat} {t:Nat} (hs:∀x,x<t+1→RZ 30000001 (s x)) (ht:t<n):RZ 830000002 (s t-cenQ G n c s (n-1-t) t):=
  ((hs t (by omega)).sub2 (h.cen (fun x hx=>hs x (by omega)) (show n-1-t+t<n by omega))).up (by decide)
theorem TZ.par (h:TZ G n c) {s:Nat→Rat} {k:Nat} (hs:∀t,t<k→RZ 30000001 (s t)) (hk:k≤n):RZ 21000000000 (parQ G n c s k):=by
  refine (sumQ_R12 (s:=1662300004) (N:=k) (fun t ht=>?_) (Nat.le_refl k) (by have:=h.n12;omega)).up (by decide)
  have h1:=h.off (s:=s) (t:=t) (fun x hx=>hs x (by omega)) (by omega)
  exact ((h1.mul h1).mul (h.f (n-1-t) (by omega))).up (by decide)
theorem cen_congr {s r:Nat→Rat} (i:Nat) {k:Nat} (h:∀t,t<k→s t=r t):cenQ G n c s i k=cenQ G n c r i k:=by
  unfold cenQ;congr 1;exact sumQ_congr fun t ht=>by rw [h t ht]
def sfx (s:List Int) (t:Nat):Rat:=((s.getD t 0:Int):Rat)
theorem sfx_RZ {s:List Int} (h:SzL 30000000 s) (t:Nat):RZ 30000001 (sfx s t):=RZ.int ((h t).up (by decide))
abbrev cX:=@sfx_RZ
theorem sfx_take {s:List Int} {k t:Nat} (h:t<k):sfx (s.take k) t=sfx s t:=by
  unfold sfx;rw [List.getD_eq_getElem?_getD,List.getD_eq_getElem?_getD,List.getElem?_take_of_lt h]
def gsL (F:Nat→List Int→Int):Nat→List Int
  | 0=>[]
  | k+1=>gsL F k++[F k (gsL F k)]
theorem gsL_len (F):∀k,(gsL F k).length=k
  | 0=>rfl
  | k+1=>by show (gsL F k++[F k (gsL F k)]).length=k+1;rw [List.length_append,gsL_len F k];rfl
theorem gsL_at (F):∀{k t},t<k→(gsL F k).getD t 0=F t (gsL F t)
  | 0,t,h=>by omega
  | k+1,t,h=>by
    show (gsL F k++[F k (gsL F k)]).getD t 0=_
    by_cases e:t<k
    · rw [List.getD_eq_getElem?_getD,List.getElem?_append_left (by rw [gsL_len];exact e),←List.getD_eq_getElem?_getD];exact gsL_at F e
    · have:t=k:=by omega
      subst this
      rw [List.getD_eq_getElem?_getD,List.getElem?_append_right (by rw [gsL_len];omega),gsL_len,Nat.sub_self];rfl
theorem gsL_sfx (F) {k j t:Nat} (h1:t<k) (h2:t<j):sfx (gsL F k) t=sfx (gsL F j) t:=by unfold sfx;rw [gsL_at F h1,gsL_at F h2]
theorem RZ.wi {n:Nat} {q:Rat} (h:RZ n q):wi q (((2^n:Nat):Int):Rat):=by
  have h1:=rq_den_pos q
  have h2:=rq_val q
  have h3 : -((2^n:Nat):Int)≤(rq q).1∧(rq q).1≤((2^n:Nat):Int):=by have:=h.a;unfold Sz at this;omega
  generalize ((2^n:Nat):Int)=X at *
  have h4:(0:Rat)<((rq q).2:Rat):=Rat.intCast_lt_intCast.mpr h1
  have h5:(1:Rat)≤((rq q).2:Rat):=Rat.intCast_le_intCast.mpr (show (1:Int)≤(rq q).2 by omega)
  have h6:(0:Rat)≤(X:Rat):=Rat.intCast_le_intCast.mpr (show (0:Int)≤X by omega)
  have h7:(((rq q).1:Int):Rat)=q*((rq q).2:Rat):=by have:=pos_ne h4;rw [←h2] at *;grind
  have h8 : -(X:Rat)≤(((rq q).1:Int):Rat):=by have:=Rat.intCast_le_intCast.mpr h3.1;rwa [Rat.intCast_neg] at this
  have h9:(((rq q).1:Int):Rat)≤(X:Rat):=Rat.intCast_le_intCast.mpr h3.2
  have ha:(X:Rat)≤(X:Rat)*((rq q).2:Rat):=by have:=Rat.mul_le_mul_of_nonneg_left h5 h6;grind
  constructor
  · rw [h7] at h8
    refine Rat.not_lt.mp fun hh=>?_
    have:=Rat.mul_lt_mul_of_pos_right hh h4
    grind
  · rw [h7] at h9
    refine Rat.not_lt.mp fun hh=>?_
    have:=Rat.mul_lt_mul_of_pos_right hh h4
    grind
end
section
variable {G:Fi} {n:Nat} {c:Nat→Rat}
def plF (G:Fi) (n:Nat) (c:Nat→Rat) (k:Nat) (s:List Int):Int:=nearQ (cenQ G n c (sfx s) (n-1-k) k)
def rdF (n:Nat) (c:Nat→Rat) (k:Nat) (s:List Int):Int:=nearQ (c (n-1-k))
theorem near_RZ {m:Nat} {q:Rat} (h:RZ m q):Sz (m+3) (nearQ q):=nearI_Sz h.a h.b (rq_den_pos q)
theorem SzL_of {m:Nat} {s:List Int} (h:∀i,i<s.length→Sz m (s.getD i 0)):SzL m s:=fun i=>by
  by_cases e:i<s.length
  · exact h i e
  · rw [getD_nil_of _ _ (by omega)];exact Sz.zero _
theorem rdF_sz (h:TZ G n c) {k:Nat} (hk:k≤n):SzL 30000000 (gsL (rdF n c) k):=SzL_of fun i hi=>by
  rw [gsL_len] at hi
  rw [gsL_at _ hi]
  exact (near_RZ (h.c (n-1-i) (by omega))).up (by decide)
theorem pl_v (h:TZ G n c) (K:Nat) (hm:∀i j,j<i→i<n→RZ K (frM G i j)):∀t,t<n→wi (sfx (gsL (plF G n c) n) t-c (n-1-t)) (((2^(t*(K+4)):Nat):Int):Rat):=by
  intro t
  induction t using Nat.strongRecOn with
  | _ t ih=>
    intro ht
    have e0:cenQ G n c (sfx (gsL (plF G n c) t)) (n-1-t) t=cenQ G n c (sfx (gsL (plF G n c) n)) (n-1-t) t:=cen_congr _ (fun x hx=>gsL_sfx _ hx (by omega))
    have e1:sfx (gsL (plF G n c) n) t=((nearQ (cenQ G n c (sfx (gsL (plF G n c) n)) (n-1-t) t):Int):Rat):=by
      rw [←e0]
      show (((gsL (plF G n c) n).getD t 0:Int):Rat)=_
      rw [gsL_at _ ht];rfl
    have hh:=near_half (cenQ G n c (sfx (gsL (plF G n c) n)) (n-1-t) t)
    rw [←e1] at hh
    have e2:sfx (gsL (plF G n c) n) t-c (n-1-t) = -(cenQ G n c (sfx (gsL (plF G n c) n)) (n-1-t) t-sfx (gsL (plF G n c) n) t)-sumQ (fun x=>frM G (n-1-x) (n-1-t)*(sfx (gsL (plF G n c) n) x-c (n-1-x))) t:=by
      unfold cenQ;grind
    generalize hy:cenQ G n c (sfx (gsL (plF G n c) n)) (n-1-t) t-sfx (gsL (plF G n c) n) t=y at hh e2
    have hy1:wi (-y) (1/2):=by obtain ⟨h1,h2⟩:=hh;constructor <;> grind
    have h12:=h.n12
    have hS:wi (sumQ (fun x=>frM G (n-1-x) (n-1-t)*(sfx (gsL (plF G n c) n) x-c (n-1-x))) t) ((t:Rat)*((((2^K:Nat):Int):Rat)*(((2^((t-1)*(K+4)):Nat):Int):Rat))):=by
      apply wi_sum
      intro x hx
      have h1:=(hm (n-1-x) (n-1-t) (by omega) (by omega)).wi
      have h2:=wi_le (ih x hx (by omega)) (c:=(((2^((t-1)*(K+4)):Nat):Int):Rat)) (Rat.intCast_le_intCast.mpr (Int.ofNat_le.2 (Nat.pow_le_pow_right (by decide) (Nat.mul_le_mul_right _ (by omega)))))
      exact wi_mul h1 h2
    rw [e2]
    refine wi_le (wi_sub hy1 hS) ?_
    by_cases e0:t=0
    · subst e0
      simp
      decide +kernel
    · have e3:2^(t*(K+4))=16*(2^K*2^((t-1)*(K+4))):=by
        obtain ⟨u,rfl⟩:∃u,t=u+1:=⟨t-1,by omega⟩
        rw [Nat.succ_mul,Nat.pow_add,Nat.pow_add,Nat.add_sub_cancel]
        rw [show 2^4=16 from rfl,Nat.mul_comm (2^K) 16,Nat.mul_comm (2^(u*(K+4))),Nat.mul_assoc]
      rw [e3]
      have e4:1≤2^K*2^((t-1)*(K+4)):=Nat.mul_pos (Nat.two_pow_pos _) (Nat.two_pow_pos _)
      have e5:(((2^K:Nat):Int):Rat)*(((2^((t-1)*(K+4)):Nat):Int):Rat)=(((2^K*2^((t-1)*(K+4)):Nat):Int):Rat):=by
        rw [Int.natCast_mul,Rat.intCast_mul]
      rw [e5]
      generalize 2^K*2^((t-1)*(K+4))=X at *
      have k1:(t:Rat)≤12:=by have:((t:Int):Rat)≤((12:Int):Rat):=Rat.intCast_le_intCast.mpr (by omega);exact this
      have k2:(1:Rat)≤((X:Int):Rat):=by have:((1:Int):Rat)≤((X:Int):Rat):=Rat.intCast_le_intCast.mpr (by omega);exact this
      have k3:=Rat.mul_le_mul_of_nonneg_right k1 (show (0:Rat)≤((X:Int):Rat) by grind)
      have k4:(((16*X:Nat):Int):Rat)=16*((X:Int):Rat):=by rw [Int.natCast_mul,Rat.intCast_mul];rfl
      rw [k4]
      grind
theorem plF_sz0 (h:TZ G n c) (K C:Nat) (hm:∀i j,j<i→i<n→RZ K (frM G i j)) (hC:∀i,i<n→RZ C (c i)) (hK:12*(K+4)≤C):∀t,t<n→Sz (C+2) ((gsL (plF G n c) n).getD t 0):=fun t ht=>by
  have h12:=h.n12
  have h1:=wi_le (pl_v h K hm t ht) (c:=(((2^C:Nat):Int):Rat)) (Rat.intCast_le_intCast.mpr (Int.ofNat_le.2 (Nat.pow_le_pow_right (by decide) (by have:=Nat.mul_le_mul_right (K+4) (show t≤12 by omega);omega))))
  have h2:=(hC (n-1-t) (by omega)).wi
  have h3:=wi_add h1 h2
  rw [show sfx (gsL (plF G n c) n) t-c (n-1-t)+c (n-1-t)=sfx (gsL (plF G n c) n) t by grind,show (((2^C:Nat):Int):Rat)+(((2^C:Nat):Int):Rat)=((((2^(C+1):Nat):Int)):Rat) by rw [←Rat.intCast_add];congr 1;rw [Nat.pow_succ];omega] at h3
  obtain ⟨h4,h5⟩:=wi_int h3
  exact Sz_pw h4 h5
theorem plF_sz (h:TZ G n c) {k:Nat} (hk:k≤n):SzL 30000000 (gsL (plF G n c) k):=SzL_of fun i hi=>by
  rw [gsL_len] at hi
  have:=plF_sz0 h 2300000 28000000 h.m h.c (by decide) i (by omega)
  rw [gsL_at _ (by omega)] at this
  rw [gsL_at _ hi]
  exact this.up (by decide)
end
def tau (t:List Rw) (k:Nat):Rat:=rv (t.getD k (0,1))
def adQ (u:List Int) (t:List Rw) (k:Nat):Rat:=sumQ (fun k=>((u.getD k 0:Int):Rat)*tau t k) k
noncomputable def plC (b:List (List Int)) (t:List Rw):Nat→Rat:=crd (gram (llB b)) b.length (alQ (llB b) t.length (tau t))
noncomputable def plG (b:List (List Int)):Fi:=gram (llB b)
noncomputable def plS (b:List (List Int)) (t:List Rw) (r:Bool):List Int:=gsL (if r then rdF b.length (plC b t) else plF (plG b) b.length (plC b t)) b.length
noncomputable def plP (b:List (List Int)) (t:List Rw):Rat:=parQ (plG b) b.length (plC b t) (sfx (plS b t false)) b.length
noncomputable def plH (b:List (List Int)) (t:List Rw):Rat:=hgtQ (llB b) b.length t.length (plC b t) (tau t)
noncomputable def plL (b:List (List Int)) (t:List Rw) (i:Nat):List (Int×Int):=(List.range i).map (fun i=>rq (plC b t i))
theorem rv_d {t:List Rw} {k:Nat} (h:k<t.length):t.getD k (0,1)=t.getD k (0,0):=by
  rw [gde _ _ h,gde _ _ h]
theorem tau_RZ {b:List (List Int)} {t:List Rw} (hT:Tgt b t) {k:Nat} (hk:k<t.length):RZ 256 (tau t k):=by
  unfold tau
  rw [rv_d hk]
  exact rv_RZ (hT.d k hk) (hT.z k hk).1 (hT.z k hk).2
theorem tau_eq {t:List Rw} {k:Nat} (hk:k<t.length):tau t k=rv ((t.getD k (0,0)).1,(t.getD k (0,0)).2):=by unfold tau;rw [rv_d hk]
theorem ad_RZ {b:List (List Int)} {t:List Rw} (hT:Tgt b t) {u:List Int} (hu:SzL 264 u) (h12:t.length≤12) {k:Nat} (hk:k≤t.length):RZ 6400 (adQ u t k):=
  (sumQ_R12 (fun i hi=>(RZ_int (by decide) (hu i)).mul (tau_RZ hT hi)) hk h12).up (by decide)
theorem plC_TZ {b:List (List Int)} {t:List Rw} (hT:Tgt b t):TZ (plG b) b.length (plC b t):=by
  have hZ:=basis_of hT.e
  have hR:=redB_of hZ
  have hz:∀i j,Sz 540 (plG b i j):=fun i j=>gram_Sz (m:=12) hR.z hR.r.rl (hR.c 0) i j
  refine tz_of hR.s hR.p hR.n0 hR.n hz fun i hi=>crd_RZ hR.s hR.p hR.n hz (fun i hi=>?_) hi
  exact ad_RZ hT (hR.z i) (by rw [hT.l];exact hZ.c 0) (Nat.le_refl _)
theorem plS_len (b t r):(plS b t r).length=b.length:=gsL_len _ _
theorem plS_sz {b:List (List Int)} {t:List Rw} (hT:Tgt b t) (r:Bool):SzL 30000000 (plS b t r):=by
  unfold plS
  cases r
  · exact plF_sz (plC_TZ hT) (Nat.le_refl _)
  · exact rdF_sz (plC_TZ hT) (Nat.le_refl _)
theorem sqQ_sum (d:Nat→Rat):∀i,sqQ d i=sumQ (fun k=>d k*d k) i
  | 0=>rfl
  | i+1=>by show sqQ d i+_=sumQ _ i+_;rw [sqQ_sum d i]
theorem comb_rw {x:List Int} {R:List (List Int)} {n k:Nat} (hx:combOk x R) (hn:R.length=n) (hk:k<(R.getD 0 []).length):(((combA x R).getD k 0:Int):Rat)=rwQ R n (fun i=>((x.getD i 0:Int):Rat)) k:=by
  rw [←(comb_yes hx).1,combV_get hk,hn,combN_sum,sumN_q]
  unfold rwQ
  apply sumQ_congr
  intro i hi
  rw [Rat.intCast_mul];rfl
theorem rev_at {s:List Int} {n i:Nat} (h:s.length=n) (hi:i<n):s.reverse.getD i 0=s.getD (n-1-i) 0:=by
  rw [gde _ _ (by simp;omega),gde _ _ (by omega),List.getElem_reverse]
  congr 1;omega
theorem hgt_ok {b:List (List Int)} {t:List Rw} (hT:Tgt b t) {s:List Int} (hs:s.length=b.length):dstQ (combA s.reverse (llB b)) t-parQ (plG b) b.length (plC b t) (sfx s) b.length=plH b t:=by
  have hZ:=basis_of hT.e
  have hR:=redB_of hZ
  have hr0:((llB b).getD 0 []).length=t.length:=by rw [hR.r.row 0 hR.n0,hT.l]
  have hcr:CR b.length t.length (llB b):=by rw [hT.l];exact hR.r
  have hx:combOk s.reverse (llB b):=⟨rect_iff.2 hR.r.rl,by rw [List.length_reverse,hs,hR.len]⟩
  have hl:(combA s.reverse (llB b)).length=t.length:=by rw [←(comb_yes hx).1,combV_len,hr0]
  have h1:dstQ (combA s.reverse (llB b)) t=sumQ (fun k=>(rwQ (llB b) b.length (fun i=>((s.reverse.getD i 0:Int):Rat)) k-tau t k)*(rwQ (llB b) b.length (fun i=>((s.reverse.getD i 0:Int):Rat)) k-tau t k)) t.length:=by
    unfold dstQ
    rw [sqQ_sum,hl]
    apply sumQ_congr
    intro k hk
    have e:dfQ (combA s.reverse (llB b)) t k=rwQ (llB b) b.length (fun i=>((s.reverse.getD i 0:Int):Rat)) k-tau t k:=by
      unfold dfQ
      rw [comb_rw hx hR.len (by rw [hr0];exact hk)];rfl
    rw [e]
  rw [h1,pythQ hcr (crd_eq hR.s hR.p (alQ (llB b) t.length (tau t))),par_qf (G:=plG b) hR.s hR.p]
  have e2:qf (qG (gram (llB b))) b.length (fun i=>((s.reverse.getD i 0:Int):Rat)-crd (gram (llB b)) b.length (alQ (llB b) t.length (tau t)) i)=qf (qG (plG b)) b.length (fun j=>sfx s (b.length-1-j)-plC b t j):=by
    unfold qf
    apply sumQ_congr
    intro i hi
    apply sumQ_congr
    intro j hj
    show (((s.reverse.getD i 0:Int):Rat)-plC b t i)*(((s.reverse.getD j 0:Int):Rat)-plC b t j)*_=(sfx s (b.length-1-i)-plC b t i)*(sfx s (b.length-1-j)-plC b t j)*_
    rw [rev_at hs hi,rev_at hs hj];rfl
  rw [e2]
  show _-_=hgtQ (llB b) b.length t.length (plC b t) (tau t)
  show qf _ _ _+hgtQ (llB b) b.length t.length (plC b t) (tau t)-_=_
  grind
theorem rw_RZ {b:List (List Int)} {t:List Rw} (hT:Tgt b t) (k:Nat) {i:Nat} (hi:i≤b.length):RZ 340000000 (rwQ (llB b) i (plC b t) k):=by
  have hR:=redB_of (basis_of hT.e)
  exact (sumQ_R12 (N:=b.length) (fun x hx=>((plC_TZ hT).c x hx).mul (RZ_int (by decide) (hR.z x k))) hi hR.n).up (by decide)
theorem hd_RZ {b:List (List Int)} {t:List Rw} (hT:Tgt b t) {k:Nat} (hk:k<t.length):RZ 341000000 (tau t k-rwQ (llB b) b.length (plC b t) k):=((tau_RZ hT hk).sub2 (rw_RZ hT k (Nat.le_refl _))).up (by decide)
theorem hg_RZ {b:List (List Int)} {t:List Rw} (hT:Tgt b t) {k:Nat} (hk:k≤t.length):RZ 9000000000 (hgtQ (llB b) b.length k (plC b t) (tau t)):=by
  have hZ:=basis_of hT.e
  refine (sumQ_R12 (N:=t.length) (s:=682000000) (fun x hx=>(hd_RZ hT hx).mul (hd_RZ hT hx)) hk (by rw [hT.l];exact hZ.c 0)).up (by decide)
def tcL (c:Nat→Rat) (i:Nat):List (Int×Int):=(List.range i).map (fun i=>rq (c i))
theorem tcL_len (c i):(tcL c i).length=i:=by simp [tcL]
theorem tcL_at {c:Nat→Rat} {i k:Nat} (h:k<i):(tcL c i)[k]?=some (rq (c k)):=by simp [tcL,h]
abbrev fP:=@tcL_at
theorem tcL_app (c i):tcL c i++[rq (c i)]=tcL c (i+1):=by simp [tcL,List.range_succ]
theorem sub_rv (p q:Rat):p-rv ((rq q).1,(rq q).2)=p-q:=by rw [show ((rq q).1,(rq q).2)=rq q from rfl,rv_rq]
noncomputable def plA (b:List (List Int)) (t:List Rw) (i:Nat):List (Int×Int):=(List.range i).map (fun k=>rq (axQ (plG b) b.length (plC b t) k k))
theorem plA_len (b t i):(plA b t i).length=i:=by simp [plA]
theorem plA_at {b t i k} (h:k<i):(plA b t i)[k]?=some (rq (axQ (plG b) b.length (plC b t) k k)):=by simp [plA,h]
theorem plA_app (b t i):plA b t i++[rq (axQ (plG b) b.length (plC b t) i i)]=plA b t (i+1):=by simp [plA,List.range_succ]
theorem plA_0 {b:List (List Int)} {t:List Rw} (hT:Tgt b t) {i:Nat} (hi:i<b.length):rq (adQ ((llB b).getD i []) t t.length)=rq (axQ (plG b) b.length (plC b t) 0 i):=by
  have hR:=redB_of (basis_of hT.e)
  have e:axQ (plG b) b.length (plC b t) 0 i=alQ (llB b) t.length (tau t) i:=crd_0 hR.s hR.p _ hi
  rw [e];rfl
noncomputable def plM (b:List (List Int)) (t:List Rw) (i:Nat):List (Int×Int):=(List.range b.length).map (fun k=>if i≤k then rq (plC b t k) else (0,0))
theorem plM_len (b t i):(plM b t i).length=b.length:=by simp [plM]
theorem plM_0 (b t):List.replicate b.length ((0:Int),(0:Int))=plM b t b.length:=by
  apply List.ext_getElem
  · simp [plM]
  · intro k h1 h2
    simp at h1
    simp only [plM,List.getElem_replicate,List.getElem_map,List.getElem_range]
    rw [if_neg (by omega)]
theorem plM_at {b t i k} (h:i≤k) (hk:k<b.length):(plM b t i)[k]?=some (rq (plC b t k)):=by simp [plM,hk,h]
theorem plM_at2 {b t i k j y} (h:i≤k) (hk:k<b.length) (hj:j<k):((plM b t i).set j y)[k]?=some (rq (plC b t k)):=by
  rw [List.getElem?_set_ne (by omega)];exact plM_at h hk
theorem set_at {α:Type} {l:List α} {j:Nat} {y:α} (h:j<l.length):(l.set j y)[j]?=some y:=by simp [h]
theorem plM_set {b t i} (h0:0<i) (h:i≤b.length):(plM b t i).set (i-1) (rq (plC b t (i-1)))=plM b t (i-1):=by
  apply List.ext_getElem
  · simp [plM]
  · intro k h1 h2
    simp [plM] at h1
    rw [List.getElem_set]
    simp only [plM,List.getElem_map,List.getElem_range]
    by_cases e:i-1=k
    · rw [if_pos e,if_pos (by omega),e]
    · rw [if_neg e]
      by_cases e2:i≤k
      · rw [if_pos e2,if_pos (by omega)]
      · rw [if_neg e2,if_neg (by omega)]
theorem cen_0 (G:Fi) (n:Nat) (c s:Nat→Rat) (i:Nat):c i+((0:Int):Rat)=cenQ G n c s i 0:=by
  show _=c i-0
  rw [show ((0:Int):Rat)=0 from rfl];grind
theorem cen_s (G:Fi) (n:Nat) (c s:Nat→Rat) (i k:Nat):cenQ G n c s i k-(s k-c (n-1-k))*frM G (n-1-k) i=cenQ G n c s i (k+1):=by
  unfold cenQ
  show _=c i-(sumQ _ k+_)
  grind
theorem cen_s2 (G:Fi) (n:Nat) (c s:Nat→Rat) (i k:Nat):cenQ G n c s i k-frM G (n-1-k) i*(s k-c (n-1-k))=cenQ G n c s i (k+1):=by rw [←cen_s];grind
theorem par_s {G:Fi} {n:Nat} {c:Nat→Rat} {s:List Int} {k:Nat} (hk:k<s.length):parQ G n c (sfx s) k+(((s.getD k 0:Int):Rat)-cenQ G n c (sfx (s.take k)) (n-1-(s.take k).length) (s.take k).length)*(((s.getD k 0:Int):Rat)-cenQ G n c (sfx (s.take k)) (n-1-(s.take k).length) (s.take k).length)*frS G (n-1-k)=parQ G n c (sfx s) (k+1):=by
  have e:(s.take k).length=k:=by simp;omega
  rw [e,cen_congr (r:=sfx s) _ (fun t ht=>sfx_take ht)];rfl
theorem SzL.take {m:Nat} {s:List Int} (h:SzL m s) (k:Nat):SzL m (s.take k):=fun i=>by
  by_cases e:i<k
  · rw [List.getD_eq_getElem?_getD,List.getElem?_take_of_lt e,←List.getD_eq_getElem?_getD];exact h i
  · rw [getD_nil_of _ _ (by simp;omega)];exact Sz.zero _
theorem plM_end (b t):plM b t 0=tcL (plC b t) b.length:=by simp [plM,tcL]
end Fw
namespace Fw
open Go Go.Proofs
theorem c_rat_Mul1r (n:Nat) (p:Rat) (x y:Int) (hp:RZ n p) (hx:Sz n x) (hy:Sz n y) (h0:0<y) (hn:n≤68719476736):Fn Tryz.prog 258 [VP.pim kRC (rq p),VP.pim (kPair kZ kZ) (x,y)] (kRC.is (rq (p*rv (x,y)))):=by
 refine aN Tryz.func258 Z Z fun m w=>Cr<|aW .n ba fun b1=>Wn<|ab ?_
 refine a5 (Γ:=[.fr (VP.pim kC ((rq p).1)),.fr (kC.is ((rq p).1)),.fr (VP.pim kZ x),.fr (kZ.is x),.fr (kC.is (((rq p).1)*x)),.fr (VP.pim kC ((rq p).2)),.fr (kC.is ((rq p).2)),.fr (VP.pim kZ y),.fr (kZ.is y),.fr (kC.is (((rq p).2)*y)),.fr (kRC.is (rmk (((rq p).1)*x) (((rq p).2)*y)))]) (aa Z (fun N=>cQ Z cB (aD Li) Z) (aa Z (fun N=>aO Z af) (aa Z (fun N=>cQ Z cB (aD Li) Z) (aa Z (fun N=>aO Z af) (aa Z (fun N=>aB cY (aj Z (aL (hp.a.sm (by omega))) (aS Z ar)) (cW ((rq p).1) x)) (aa Z (fun N=>cQ Z bW (am Li) Z) (aa Z (fun N=>aO Z af) (aa Z (fun N=>cQ Z bW (am Li) Z) (aa Z (fun N=>aO Z af) (aa Z (fun N=>aB cY (aj Z (aL (hp.b.sm (by omega))) (aS Z ar)) (cW ((rq p).2) y)) (aa Z (fun N=>aB fn136 (aj Z (aL ((hp.a.mul hx).sm (by omega))) (aj Z (aL ((hp.b.mul hy).sm (by omega))) ar)) (fD (((rq p).1)*x) (((rq p).2)*y) (by exact Int.mul_ne_zero (rq_den_ne p) (by omega)))) oz)))))))))))<|fun σ1=>?_
 refine aE .n (aC (l:=kRC) (u:=rmk (((rq p).1)*x) (((rq p).2)*y)) 0 Z Z Z ai Z Lr)<|Wn<|aA<|tb 0 Z (y:=(rq (p*rv (x,y)))) (by have e:=raw_mul (x:=(rq p).1) (u:=x) (rq_den_pos p) h0;rw [show ((rq p).1,(rq p).2)=rq p from rfl,rv_rq] at e;exact e) ?_
 exact Qd Z (aY Z (ag 0 Z) ai ay) ⟨Z,Z⟩
theorem c_rat_Mulr (n:Nat) (p:Rat) (x y:Int) (hp:RZ n p) (hx:Sz n x) (hy:Sz n y) (h0:0<y) (hn:n≤68719476736):Fn Tryz.prog 221 [kRC.is (rq p),(kPair kZ kZ).is (x,y)] (VP.tup [kRC.is (rq (p*rv (x,y))),kN6.is 0]):=by
 refine aN Tryz.func221 Z Z fun m w=>Cr<|aZ .n Z fun b1=>aZ .n Z fun b2=>aW .n ba fun b3=>Wa Z<|Wr<|Ws (ae Z (ag 2 Z) Li ai Z)<|Ws (ae (p:=(kPair kZ kZ).is (x,y)) Z (ag 1 Z) Li ai Z)<|ee 2 Z (kp 0 Z (kp 1 Z (.hit (i:=2) Z (kp 3 Z (kp 4 Z (kp 5 Z (kp 6 Z (kp 7 Z .nil))))))))<|ee 1 Z (kp 0 Z (kp 1 Z (kp 2 Z (.hit (i:=3) Z (kp 4 Z (kp 5 Z (kp 6 Z (kp 7 Z .nil))))))))<|Ws (O.mkf (aS Z (aS Z ar)))<|Ws (aB fn205 (aS Z (aS Z (aS Z ar))) (c_rat_twor n p (p*rv (x,y)) x y 258 [VP.pim kRC (rq p),VP.pim (kPair kZ kZ) (x,y)] fn258 (c_rat_Mul1r n p x y hp hx hy h0 hn) hp h0 hn))<|Ws (aP Z Z)<|Ws (aP Z Z)<|aE .n (aC (l:=kRC) (u:=rq (p*rv (x,y))) 0 Z Z Z ai Z Lr)<|Wa Z<|Wn<|aA ?_
 exact Qd Z (aY Z (ag 0 Z) ai (aI Z ay)) ⟨Z,Z⟩
theorem c_close_mulr (n:Nat) (p:Rat) (x y:Int) (hp:RZ n p) (hx:Sz n x) (hy:Sz n y) (h0:0<y) (hn:n≤68719476736):Fn Tryz.prog 195 [kRC.is (rq p),(kPair kZ kZ).is (x,y)] (kRC.is (rq (p*rv (x,y)))):=by
 refine aN Tryz.func195 Z Z fun m w=>Cr<|aZ .n Z fun b1=>aZ .n Z fun b2=>aW .n ba fun b3=>Wr<|Ws (ae Z (ag 2 Z) Li ai Z)<|Ws (ae (p:=(kPair kZ kZ).is (x,y)) Z (ag 1 Z) Li ai Z)<|Ws (f2 fn221 Z Z (c_rat_Mulr n p x y (by assumption) (by assumption) (by assumption) (by assumption) (by assumption)))<|Wm Z<|Ws (aP Z Z)<|Ws (aP Z Z)<|Ax (l:=kRC) (u:=rq (p*rv (x,y))) ba Z ai (fun _=>Z) Lr fun b4=>Wa Z<|Wr<|Ws (ae Z (ag 0 Z) Li ai Z) ?_
 refine aE .n (aC (l:=kRC) (u:=rq (p*rv (x,y))) 1 Z Z Z ai Z Lr)<|Wn<|aA ?_
 exact Qd Z (aY Z (ag 1 Z) ai ay) ⟨Z,Z⟩
theorem c_close_along (b:List (List Int)) (t:List (Int×Int)) (u:List Int) (hT:Tgt b t) (hu:SzL 264 u) (hl:u.length=t.length) (h12:t.length≤12):Fn Tryz.prog 231 [kVZ.is u,(kSl (kPair kZ kZ)).is t] (kRC.is (rq (adQ u t t.length))):=by
 refine aN Tryz.func231 Z Z fun m w=>Cr<|aW .n ba fun b1=>Wr<|Ws (bY dQ Z br (.nil _))<|Ws (aB eH (aj Z (aL (by exact Sm_lit (by decide))) ar) (ez 0))<|Ax (l:=kRC) (u:=rq (0:Rat)) ba Z ai (fun _=>Z) Lr fun b2=>Wn<|ab<|Cr<|Wm Z<|Ws (aJ Z U23)<|Wm Z<|Wn<|aF<|tb 0 Z (y:=(rq (adQ u t 0))) (by exact rq_int 0) ?_
 refine bJ (fun (i:Nat)=>i≤u.length) (fun (i:Nat)=>[(0,kVZ.is u),(1,(kSl (kPair kZ kZ)).is t),(4,VP.pt b1 0),(5,VP.pt b2 0),(10,kN6.is (u.length:Int)),(11,kN6.is (i:Int))]) (fun (i:Nat)=>[OB.box b2 31 kRC (rq (adQ u t i)),OB.box b1 31 kRC (0,0)]) (fun (i:Nat)=>u.length-i) 0 (Nat.zero_le _) (ao Z Z Z Z (ac Z (az Z (ah (y:=(0:Int)) (by rfl)) aq))) (aG _) ?_
 intro i hi
 refine Cr<|Ws (aX Z Z)<|Wn<|ab ?_
 refine aM Z (fun h_t12=>?_)<|fun h_t12=>?_
 ·
  refine Ck<|ab<|aF<|Cr<|Wm Z<|Wa Z<|Wn ?_
  refine a5 (Γ:=[.fr (kRC.is (rq (adQ u t i))),.fr (kVZ.is u),.fr (kN6.is (i:Int)),.fr (VP.pim kZ (u.getD i 0)),.fr (kZ.is (u.getD i 0)),.fr (kRC.is (rq ((u.getD i 0):Rat))),.fr ((kSl (kPair kZ kZ)).is t),.fr (kN6.is (i:Int)),.fr (VP.pim (kPair kZ kZ) (t.getD i (0,0))),.fr ((kPair kZ kZ).is (t.getD i (0,0))),.fr (kRC.is (rq (((u.getD i 0:Int):Rat)*rv (((t.getD i (0,0)).1),((t.getD i (0,0)).2))))),.fr (kRC.is (rq ((adQ u t i)+(((u.getD i 0:Int):Rat)*rv ((t.getD i (0,0)).1,(t.getD i (0,0)).2)))))]) (aa Z (fun N=>ae Z (mN N 0 Z) Li ai Z) (om Z Z (om Z Z (aa Z (fun N=>aU i Z Z U23 af Z (v:=(u.getD i 0)) (gd 0 (by omega))) (aa Z (fun N=>aO Z af) (aa Z (fun N=>f1 eH Z (ez (u.getD i 0))) (om Z Z (om Z Z (aa Z (fun N=>aU i Z Z U26 ai Z (v:=(t.getD i (0,0))) (gd (0,0) (by omega))) (aa Z (fun N=>aO Z ai) (aa Z (fun N=>aB fn195 (aj Z (ah (y:=rq ((u.getD i 0:Int):Rat)) (by rfl)) (aj Z (ah (y:=((t.getD i (0,0)).1,(t.getD i (0,0)).2)) (by rfl)) ar)) (c_close_mulr 265 ((u.getD i 0:Int):Rat) ((t.getD i (0,0)).1) ((t.getD i (0,0)).2) (fT ((hu i).up (by decide))) ((hT.z i (by omega)).1.up (by decide)) ((hT.z i (by omega)).2.up (by decide)) (hT.d i (by omega)) (by decide))) (aa Z (fun N=>aB fn69 (aS Z (aj Z (ah (y:=rq (((u.getD i 0:Int):Rat)*rv ((t.getD i (0,0)).1,(t.getD i (0,0)).2))) (by rfl)) ar)) (c_close_add 6400 (adQ u t i) (((u.getD i 0:Int):Rat)*rv ((t.getD i (0,0)).1,(t.getD i (0,0)).2)) (ad_RZ hT hu h12 (by omega)) (((fT ((hu i).up (by decide):Sz 265 _)).mul (rv_RZ (x:=((t.getD i (0,0)).1,(t.getD i (0,0)).2)) (hT.d i (by omega)) (hT.z i (by omega)).1 (hT.z i (by omega)).2)).up (by decide)) (by decide))) oz))))))))))))<|fun σ1=>?_
  refine aE .n (aC (l:=kRC) (u:=rq ((adQ u t i)+(((u.getD i 0:Int):Rat)*rv ((t.getD i (0,0)).1,(t.getD i (0,0)).2)))) 0 Z Z Z ai Z Lr)<|au<|Qb<|ak<|Ws (aR Z Z (c:=((i:Int)+1)) (aH (by omega)))<|Wm Z<|au<|bg (bm [0,1] (by decide) Z)<|tb 0 Z (y:=(rq (adQ u t (i+1)))) (by rw [←tau_eq (show i<t.length by omega)];rfl) ?_
  exact bE (i+1) (by omega) (by omega) (ao Z Z Z Z (ac Z (az Z (ah (y:=(((i+1):Nat):Int)) (by rfl)) aq)))<|aG _
 ·
  refine Ex<|Cr<|Ws (ae Z (ag 0 Z) Li ai Z)<|aE .n (aC (l:=kRC) (u:=(rq (adQ u t i))) 1 Z Z Z ai Z Lr)<|Wn<|aA<|tb 1 Z (y:=(rq (adQ u t t.length))) (by rw [show i=t.length by omega]) ?_
  exact Qd Z (aY Z (ag 1 Z) ai ay) ⟨Z,Z⟩
theorem c_close_coords (b:List (List Int)) (t:List (Int×Int)) (hT:Tgt b t):Fn Tryz.prog 168 [kMC.is (llB b),kGso.is (gDs (gram (llB b)) b.length,gLs (gram (llB b)) b.length),(kSl (kPair kZ kZ)).is t] ((kSl kRC).is (tcL (plC b t) b.length)):=by
 refine aN Tryz.func168 Z Z fun m w=>?_
 have hZ:=basis_of hT.e
 have hRB:=redB_of hZ
 have hP:=plC_TZ hT
 have hlR:=hRB.len
 have hn12:=hRB.n
 have hn0:=hRB.n0
 have htl:t.length≤12:=by rw [hT.l];exact hZ.c 0
 refine Cr<|aZ .n Z fun b1=>Wa Z<|Wr<|Wm Z<|Ws (aJ Z U22)<|Wa Z<|Wr<|Wa Z<|Wn<|ab<|Cr<|Wm Z<|Wm Z<|au ?_
 refine cw<|aF<|bT 31 kRC<|tl 7 Z (y:=(b.length:Int)) (by rw [hlR])<|tl 23 Z (y:=(b.length:Int)) (by rw [hlR])<|bU (fun (i:Nat) (v:Value)=>i≤b.length) (fun (i:Nat) (v:Value)=>[(0,kMC.is (llB b)),(2,(kSl (kPair kZ kZ)).is t),(4,VP.pt b1 0),(7,kN6.is (b.length:Int)),(8,VP.ex v),(23,kN6.is (b.length:Int)),(24,kN6.is (i:Int))]) (fun (i:Nat) (v:Value)=>[OB.row v 31 kRC (plA b t i),OB.box b1 25 kGso (gDs (gram (llB b)) b.length,gLs (gram (llB b)) b.length)]) (fun (i:Nat) (v:Value)=>b.length-i) 0 (.slice none 0 0) (Nat.zero_le _) (ao Z Z Z Z (ac Z (ac Z (az Z (ah (y:=(0:Int)) (by rfl)) aq)))) (a9 (OS.keepLe (bi (by rfl)) (OS.keep OS.nil))) ?_
 intro i v hi
 refine Cr<|Ws (aX Z Z)<|Wn<|ab ?_
 refine aM Z (fun h_t25=>?_)<|fun h_t25=>?_
 ·
  refine Ck<|ab<|aF<|Cr<|Wm Z<|Wa Z<|Wr<|Wm Z<|Wm Z<|Ws (aU i Z Z U22 aK Z (v:=((llB b).getD i [])) (gd [] (by omega)))<|Ws (aO Z aK)<|Wm Z<|Ws (aB fn231 (aj Z (dB (SzL.sm (hRB.z i) (by decide))) (aS Z ar)) (c_close_along b t ((llB b).getD i []) hT (hRB.z i) (by rw [hRB.r.row i (by omega),hT.l]) htl))<|Ax (l:=kRC) (u:=rq (adQ ((llB b).getD i []) t t.length)) ba Z ai (fun _=>Z) Lr fun b2=>Wn<|ab<|ab ?_
  refine ak<|Wm Z<|Wm Z<|Wn<|aF<|tb 0 Z (y:=(rq (axQ (plG b) b.length (plC b t) 0 i))) (plA_0 hT (by omega))<|bJ (fun (j:Nat)=>j≤i) (fun (j:Nat)=>[(0,kMC.is (llB b)),(2,(kSl (kPair kZ kZ)).is t),(4,VP.pt b1 0),(7,kN6.is (b.length:Int)),(8,VP.ex v),(9,kN6.is (i:Int)),(10,VP.pt b2 0),(23,kN6.is (b.length:Int)),(24,kN6.is (i:Int)),(33,kN6.is (i:Int)),(34,kN6.is (j:Int))]) (fun (j:Nat)=>[OB.box b2 31 kRC (rq (axQ (plG b) b.length (plC b t) j i)),OB.row v 31 kRC (plA b t i),OB.box b1 25 kGso (gDs (gram (llB b)) b.length,gLs (gram (llB b)) b.length)]) (fun (j:Nat)=>i-j) 0 (Nat.zero_le _) (ao Z Z Z Z (ao Z Z Z Z (ac Z (ac Z (az Z (ah (y:=(0:Int)) (by rfl)) aq))))) (aG _) ?_
  intro j hj
  refine Cr<|Ws (aX Z Z)<|Wn<|ab ?_
  refine aM Z (fun h_t35=>?_)<|fun h_t35=>?_
  ·
   refine Ck<|ab<|aF<|Cr<|Wm Z<|Wa Z<|Wr<|Ws (ae (p:=kGso.is (gDs (gram (llB b)) b.length,gLs (gram (llB b)) b.length)) Z (ag 2 Z) Li bl Z)<|Wm Z<|Wm Z<|Ws (aB fn143 (aj Z (ah (y:=(gDs (plG b) b.length,gLs (plG b) b.length)) (by rfl)) (aS Z (aS Z ar))) (c_gso_Mu (plG b) b.length 2300000 hP.n0 hP.n12 hP.p hP.d (by decide) i j (by omega) (by omega) hP.s hP.l))<|Wm Z<|Ws (aP Z Z)<|Ws (aP Z Z)<|Ax (l:=kRC) (u:=rq (frM (plG b) i j)) ba Z ai (fun _=>Z) Lr fun b3=>Wa Z<|Wn ?_
   refine a5 (Γ:=[.fr (kRC.is (rq (axQ (plG b) b.length (plC b t) j i))),.fr (kRC.is (rq (frM (plG b) i j))),.fr (VP.ex v),.fr (kN6.is (j:Int)),.fr (VP.pel v (j*4)),.fr (kRC.is (rq (axQ (plG b) b.length (plC b t) j j))),.fr (kRC.is (rq ((frM (plG b) i j)*(axQ (plG b) b.length (plC b t) j j)))),.fr (kRC.is (rq ((axQ (plG b) b.length (plC b t) j i)-rv (((rq (frM (plG b) i j*axQ (plG b) b.length (plC b t) j j)).1),((rq (frM (plG b) i j*axQ (plG b) b.length (plC b t) j j)).2)))))]) (aa Z (fun N=>ae Z (mN N 1 Z) Li ai Z) (aa Z (fun N=>ae Z (mN N 0 Z) Li ai Z) (om Z Z (om Z Z (aa Z (fun N=>bb (k:=kRC) (xs:=(plA b t i)) (n:=(j:Int)) j Z Z (mN N 2 Z) U26 ai Z (by simp only [plA_len];omega)) (aa Z (fun N=>bp (k:=kRC) (xs:=(plA b t i)) j Z (mN N 2 Z) Li (ho:=Z) (y:=(rq (axQ (plG b) b.length (plC b t) j j))) (plA_at (by omega)) ai Z) (aa Z (fun N=>f2 fn195 Z Z (c_close_mul 402300000 (frM (plG b) i j) (axQ (plG b) b.length (plC b t) j j) ((hP.m i j (by omega) (by omega)).up (by decide)) ((hP.ax j (Nat.le_refl j) (by omega)).up (by decide)) (by decide))) (aa Z (fun N=>aB fn123 (aS Z (aj Z (d9 (eZ ((((hP.m i j (by omega) (by omega)).mul (hP.ax j (Nat.le_refl j) (by omega))).a.sm (by decide))) ((((hP.m i j (by omega) (by omega)).mul (hP.ax j (Nat.le_refl j) (by omega))).b.sm (by decide)))) (ah (by rfl))) ar)) (gm 402300000 (axQ (plG b) b.length (plC b t) j i) ((rq (frM (plG b) i j*axQ (plG b) b.length (plC b t) j j)).1) ((rq (frM (plG b) i j*axQ (plG b) b.length (plC b t) j j)).2) ((hP.ax j (show j≤i by omega) (by omega)).up (by decide)) ((((hP.m i j (by omega) (by omega)).mul (hP.ax j (Nat.le_refl j) (by omega))).up (by decide)).a) ((((hP.m i j (by omega) (by omega)).mul (hP.ax j (Nat.le_refl j) (by omega))).up (by decide)).b) (eS _) (by decide))) oz))))))))<|fun σ1=>?_
   refine aE .n (aC (l:=kRC) (u:=rq ((axQ (plG b) b.length (plC b t) j i)-rv (((rq (frM (plG b) i j*axQ (plG b) b.length (plC b t) j j)).1),((rq (frM (plG b) i j*axQ (plG b) b.length (plC b t) j j)).2)))) 1 Z Z Z ai Z Lr)<|au<|Qb<|ak<|Ws (aR Z Z (c:=((j:Int)+1)) (aH (by omega)))<|Wm Z<|au<|bg (bm [1,2,3] (by decide) Z)<|tb 0 Z (y:=(rq (axQ (plG b) b.length (plC b t) (j+1) i))) (by rw [axQ_s hP.s hP.p (show j<b.length by omega),sub_rv]) ?_
   exact bE (j+1) (by omega) (by omega) (ao Z Z Z Z (ao Z Z Z Z (ac Z (ac Z (az Z (ah (y:=(((j+1):Nat):Int)) (by rfl)) aq)))))<|aG _
  ·
   refine Ex<|tb 0 Z (y:=(rq (axQ (plG b) b.length (plC b t) i i))) (by rw [show j=i by omega])<|ak<|Wm Z<|Ws (ae Z (ag 0 Z) Li ai Z)<|Ws (bB U26 dn (bV Z bA) Z (by decide))<|bI 1 .n Z Z Z Lr U26 dn (by simp [plA];omega) fun v4=>Wa Z<|au<|Qb<|ak<|Ws (aR Z Z (c:=((i:Int)+1)) (aH (by omega)))<|Wm Z<|au<|bg (bm [1,2] (by decide) Z)<|tr 0 Z (y:=(plA b t (i+1))) (plA_app b t i) ?_
   exact bS (i+1) v4 (by omega) (by omega) (ao Z Z Z Z (ac Z (ac Z (az Z (ah (y:=(((i+1):Nat):Int)) (by rfl)) aq))))<|aG _
 ·
  refine Ex<|ab<|tr 0 Z (y:=(plA b t b.length)) (by rw [show i=b.length by omega])<|bL 0 Z (kp 0 Z (kp 2 Z (kp 4 Z (kp 7 Z (.hit (i:=8) Z (kp 23 Z (kp 24 Z (kp 25 Z .nil))))))))<|ak<|Wm Z<|bH b.length .n Z Z Z (by omega) U26 dn ba fun v5=>Wa Z<|Wn<|ab<|Cr<|Wm Z<|Ws (bj Z Z (c:=((b.length:Int)-1)) (aH (by omega)))<|Wa Z<|Wn<|aF<|tr 0 Z (y:=(plM b t b.length)) (plM_0 b t) ?_
  refine bU (fun (i:Nat) (u:Value)=>i≤b.length) (fun (i:Nat) (u:Value)=>[(4,VP.pt b1 0),(7,kN6.is (b.length:Int)),(8,(kSl kRC).is (plA b t b.length)),(14,VP.ex u),(15,kN6.is ((i:Int)-1))]) (fun (i:Nat) (u:Value)=>[OB.row u 31 kRC (plM b t i),OB.box b1 25 kGso (gDs (gram (llB b)) b.length,gLs (gram (llB b)) b.length)]) (fun (i:Nat) (u:Value)=>i) b.length v5 (Nat.le_refl _) (ao Z Z Z Z (az Z (ah (y:=(((b.length:Nat):Int)-1)) (by rfl)) aq)) (aG _) ?_
  intro i u hi
  refine ab<|Cr<|Wm Z<|Ws (di Z Z)<|Wn ?_
  refine aM Z (fun h_t63=>?_)<|fun h_t63=>?_
  ·
   refine Ck<|ab<|aF<|Cr<|Ws (ae (p:=kGso.is (gDs (gram (llB b)) b.length,gLs (gram (llB b)) b.length)) Z (ag 1 Z) Li bl Z)<|Wm Z<|Ws (aB fn68 (aj Z (ah (y:=(gDs (plG b) b.length,gLs (plG b) b.length)) (by rfl)) (aj Z (ah (y:=(((i-1):Nat):Int)) (by omega)) ar)) (gA (plG b) b.length 2300000 hP.n0 hP.n12 hP.p hP.d (by decide) (i-1) (by omega) hP.s))<|Wm Z<|Ws (aP Z Z)<|Ws (aP Z Z)<|Ax (l:=kRC) (u:=rq (frS (plG b) (i-1))) ba Z ai (fun _=>Z) Lr fun b6=>Wa Z<|Wn<|ab ?_
   refine a5 (Γ:=[.fr (VP.ex u),.fr (kN6.is ((i:Int)-1)),.fr ((kSl kRC).is (plA b t b.length)),.fr (kN6.is ((i:Int)-1)),.fr (VP.pim kRC (rq (axQ (plG b) b.length (plC b t) (i-1) (i-1)))),.fr (kRC.is (rq (axQ (plG b) b.length (plC b t) (i-1) (i-1)))),.fr (kRC.is (rq (frS (plG b) (i-1)))),.fr (VP.tup [kRC.is (rq ((axQ (plG b) b.length (plC b t) (i-1) (i-1))/(frS (plG b) (i-1)))),kN6.is 0]),.fr (VP.tup [kRC.is (rq ((axQ (plG b) b.length (plC b t) (i-1) (i-1))/(frS (plG b) (i-1)))),kN6.is 0]),.fr (kRC.is (rq ((axQ (plG b) b.length (plC b t) (i-1) (i-1))/(frS (plG b) (i-1))))),.lt (kN6.is 0),.fr (VP.pel u ((i-1)*4))]) (om Z Z (om Z Z (om Z Z (om Z Z (aa Z (fun N=>aU (i-1) Z Z U26 ai (by omega) (v:=(rq (axQ (plG b) b.length (plC b t) (i-1) (i-1)))) (plA_at (by omega))) (aa Z (fun N=>aO Z ai) (aa Z (fun N=>ae Z (mN N 0 Z) Li ai Z) (aa Z (fun N=>f2 fn70 Z Z (c_rat_Div 400000000 (axQ (plG b) b.length (plC b t) (i-1) (i-1)) (frS (plG b) (i-1)) (hP.ax (i-1) (Nat.le_refl _) (by omega)) ((hP.f (i-1) (by omega)).up (by decide)) (pos_ne (frS_p hP.s hP.p (by omega))) (by decide))) (om Z Z (aa Z (fun N=>aP Z Z) (oc (dc Z .n (dw Z Z)) (aa Z (fun N=>bb (k:=kRC) (xs:=(plM b t i)) (n:=((i:Int)-1)) (i-1) Z Z (mN N 1 Z) U26 ai (by omega) (by simp only [plM_len,List.length_set];omega)) oz))))))))))))<|fun σ2=>?_
   refine aE .n (co 1 (i-1) Z Z Li Z (y0:=((plM b t i).getD (i-1) (0,0))) (gd (0,0) (by simp only [plM_len,List.length_set];omega)) ai Z Lr)<|Wr<|Wm Z<|Ws (aR Z Z (c:=(((i:Int)-1)+1)) (aH (by omega)))<|Wa Z<|Wn<|aF<|tr 1 Z (y:=((plM b t i).set (i-1) (rq (bkQ (plG b) b.length (plC b t) (i-1) i)))) (by rw [show bkQ (plG b) b.length (plC b t) (i-1) i=axQ (plG b) b.length (plC b t) (i-1) (i-1)/frS (plG b) (i-1) by rw [bk_0 hP.s hP.p _ (show i-1<b.length by omega),show i-1+1=i by omega]])<|bg (bm [1,2] (by decide) Z)<|bJ (fun (J:Nat)=>i≤J∧J≤b.length) (fun (J:Nat)=>[(4,VP.pt b1 0),(7,kN6.is (b.length:Int)),(8,(kSl kRC).is (plA b t b.length)),(14,VP.ex u),(15,kN6.is ((i:Int)-1)),(18,kN6.is (J:Int))]) (fun (J:Nat)=>[OB.row u 31 kRC ((plM b t i).set (i-1) (rq (bkQ (plG b) b.length (plC b t) (i-1) J))),OB.box b1 25 kGso (gDs (gram (llB b)) b.length,gLs (gram (llB b)) b.length)]) (fun (J:Nat)=>b.length-J) i ⟨Nat.le_refl _,hi⟩ (ao Z Z Z Z (ac Z (az Z (ah (y:=(i:Int)) (by omega)) aq))) (aG _) ?_
   intro J ⟨hJ,hJn⟩
   refine ab<|Cr<|Wm Z<|Wm Z<|Ws (aX Z Z)<|Wn ?_
   refine aM Z (fun h_t88=>?_)<|fun h_t88=>?_
   ·
    refine Ck<|ab<|aF<|Cr<|Ws (ae (p:=kGso.is (gDs (gram (llB b)) b.length,gLs (gram (llB b)) b.length)) Z (ag 1 Z) Li bl Z)<|Wm Z<|Wm Z<|Ws (aB fn143 (aj Z (ah (y:=(gDs (plG b) b.length,gLs (plG b) b.length)) (by rfl)) (aS Z (aj Z (ah (y:=(((i-1):Nat):Int)) (by omega)) ar))) (c_gso_Mu (plG b) b.length 2300000 hP.n0 hP.n12 hP.p hP.d (by decide) J (i-1) (by omega) (by omega) hP.s hP.l))<|Wm Z<|Ws (aP Z Z)<|Ws (aP Z Z)<|Ax (l:=kRC) (u:=rq (frM (plG b) J (i-1))) ba Z ai (fun _=>Z) Lr fun b7=>Wa Z<|Wn ?_
    refine a5 (Γ:=[.fr (VP.ex u),.fr (kN6.is ((i:Int)-1)),.fr (VP.ex u),.fr (kN6.is ((i:Int)-1)),.fr (VP.pel u ((i-1)*4)),.fr (kRC.is (rq (bkQ (plG b) b.length (plC b t) (i-1) J))),.fr (kRC.is (rq (frM (plG b) J (i-1)))),.fr (VP.ex u),.fr (kN6.is (J:Int)),.fr (VP.pel u (J*4)),.fr (kRC.is (rq (plC b t J))),.fr (kRC.is (rq ((frM (plG b) J (i-1))*(plC b t J)))),.fr (kRC.is (rq ((bkQ (plG b) b.length (plC b t) (i-1) J)-rv (((rq (frM (plG b) J (i-1)*plC b t J)).1),((rq (frM (plG b) J (i-1)*plC b t J)).2))))),.fr (VP.pel u ((i-1)*4))]) (om Z Z (om Z Z (om Z Z (om Z Z (aa Z (fun N=>bb (k:=kRC) (xs:=((plM b t i).set (i-1) (rq (bkQ (plG b) b.length (plC b t) (i-1) J)))) (n:=((i:Int)-1)) (i-1) Z Z (mN N 1 Z) U26 ai (by omega) (by simp only [plM_len,List.length_set];omega)) (aa Z (fun N=>bp (k:=kRC) (xs:=((plM b t i).set (i-1) (rq (bkQ (plG b) b.length (plC b t) (i-1) J)))) (i-1) Z (mN N 1 Z) Li (ho:=Z) (y:=(rq (bkQ (plG b) b.length (plC b t) (i-1) J))) (set_at (by rw [plM_len];omega)) ai Z) (aa Z (fun N=>ae Z (mN N 0 Z) Li ai Z) (om Z Z (om Z Z (aa Z (fun N=>bb (k:=kRC) (xs:=((plM b t i).set (i-1) (rq (bkQ (plG b) b.length (plC b t) (i-1) J)))) (n:=(J:Int)) J Z Z (mN N 1 Z) U26 ai (by omega) (by simp only [plM_len,List.length_set];omega)) (aa Z (fun N=>bp (k:=kRC) (xs:=((plM b t i).set (i-1) (rq (bkQ (plG b) b.length (plC b t) (i-1) J)))) J Z (mN N 1 Z) Li (ho:=Z) (y:=(rq (plC b t J))) (plM_at2 (by omega) (by omega) (by omega)) ai Z) (aa Z (fun N=>f2 fn195 Z Z (c_close_mul 30300000 (frM (plG b) J (i-1)) (plC b t J) ((hP.m J (i-1) (by omega) (by omega)).up (by decide)) ((hP.c J (by omega)).up (by decide)) (by decide))) (aa Z (fun N=>aB fn123 (aS Z (aj Z (d9 (eZ ((((hP.m J (i-1) (by omega) (by omega)).mul (hP.c J (by omega))).a.sm (by decide))) ((((hP.m J (i-1) (by omega) (by omega)).mul (hP.c J (by omega))).b.sm (by decide)))) (ah (by rfl))) ar)) (gm 400000000 (bkQ (plG b) b.length (plC b t) (i-1) J) ((rq (frM (plG b) J (i-1)*plC b t J)).1) ((rq (frM (plG b) J (i-1)*plC b t J)).2) (hP.bk (show i-1<b.length by omega) (show i-1<J by omega)) ((((hP.m J (i-1) (by omega) (by omega)).mul (hP.c J (by omega))).up (by decide)).a) ((((hP.m J (i-1) (by omega) (by omega)).mul (hP.c J (by omega))).up (by decide)).b) (eS _) (by decide))) (aa Z (fun N=>bb (k:=kRC) (xs:=((plM b t i).set (i-1) (rq (bkQ (plG b) b.length (plC b t) (i-1) J)))) (n:=((i:Int)-1)) (i-1) Z Z (mN N 1 Z) U26 ai (by omega) (by simp only [plM_len,List.length_set];omega)) oz))))))))))))))<|fun σ3=>?_
    refine aE .n (co 1 (i-1) Z Z Li Z (y0:=(((plM b t i).set (i-1) (rq (bkQ (plG b) b.length (plC b t) (i-1) J))).getD (i-1) (0,0))) (gd (0,0) (by simp only [plM_len,List.length_set];omega)) ai Z Lr)<|au<|Qb<|ak<|Wm Z<|Ws (aR Z Z (c:=((J:Int)+1)) (aH (by omega)))<|Wa Z<|au<|bg (bm [1,2] (by decide) Z)<|tr 0 Z (y:=((plM b t i).set (i-1) (rq (bkQ (plG b) b.length (plC b t) (i-1) (J+1))))) (by rw [List.set_set,sub_rv,←bk_s (G:=plG b) (plC b t) (i:=i-1) (show J<b.length by omega)]) ?_
    exact bE (J+1) (by omega) (by omega) (ao Z Z Z Z (ac Z (az Z (ah (y:=(((J+1):Nat):Int)) (by rfl)) aq)))<|aG _
   ·
    refine dS<|da<|da<|dR<|Qb<|ak<|Wm Z<|Ws (bj Z Z (c:=(((i:Int)-1)-1)) (aH (by omega)))<|Wa Z<|au<|tr 0 Z (y:=(plM b t (i-1))) (by rw [show J=b.length by omega,bk_end];exact plM_set (by omega) (by omega)) ?_
    exact bS (i-1) u (by omega) (by omega) (ao Z Z Z Z (az Z (ah (y:=((((i-1):Nat):Int)-1)) (by omega)) aq))<|aG _
  ·
   refine Ex<|ab<|tr 0 Z (y:=(tcL (plC b t) b.length)) (by rw [show i=0 by omega];exact plM_end b t)<|bL 0 Z (kp 4 Z (kp 7 Z (kp 8 Z (.hit (i:=14) Z (kp 15 Z (kp 62 Z (kp 63 Z .nil)))))))<|ak<|Wm Z<|Wa Z<|Wn<|aA ?_
   exact Qd Z (aI Z ay) ⟨Z,Z⟩
end Fw
