/- Frame, facts and contracts for QuadReduces. -/
import Derived.Test.YtjbfmocbophmlaaGreatCQuadReducesC
set_option exponentiation.threshold 600
set_option linter.unusedVariables false
set_option linter.unusedSimpArgs false
set_option maxRecDepth 20000
set_option maxHeartbeats 1000000
namespace Fw
open Go Go.Proofs
theorem c_law22_owns (xs:List Int):Fn Tryz.prog 81 [kVZ.is xs] (kVZ.is xs):=by
 refine aK Tryz.func81 E E fun m w=>aR (i:=0) E bu fun hB=>Cr<|Wa E<|Wr<|Wa E<|Wn<|aa<|Cr<|Wa E<|Wn<|aw<|ca 29 kZ<|bX (fun (i:Nat) (v:Value)=>i≤xs.length) (fun (i:Nat) (v:Value)=>[(0,kVZ.is xs),(3,VP.ex v),(4,kN6.is (i:Int))]) (fun (i:Nat) (v:Value)=>[OB.row v 29 kZ (xs.take i)]) (fun (i:Nat) (v:Value)=>xs.length-i) 0 (.slice none 0 0) (by omega) (Z E (Z E (ao E (ag (y:=(0:Int)) (by omega)) ai))) (aW (OS.keepLe (a9 (by simp)) OS.nil)) ?_
 intro i v hR
 have htl:(xs.take i).length=i:=by simp;omega
 refine aa<|Cr<|Wm E<|Wm E<|Ws (aA E U23)<|Ws (aS E E)<|Wn ?_
 refine aB E (fun h_t8=>?_)<|fun h_t8=>?_
 ·
  refine Ck<|aa<|aw<|ah<|Wm E<|Wm E<|Wm E<|Ws (aT i E E U23 ab E (v:=(xs.getD i 0)) (gd 0 (by omega)))<|Ws (aO E ab)<|Ws (f1 fn153 E (c_law22_own (xs.getD i 0)))<|Ws (bC U23 el29_Z (b9 E bw) E (by decide))<|bL 0 .n E E E Lr U23 el29_Z (by simp;omega) fun v1=>Wa E<|aj<|Qb<|ah<|Wm E<|Ws (aI E E (c:=((i:Int)+1)) (ay (by omega)))<|Wa E<|aj<|tr 0 E (y:=(xs.take (i+1))) (eV (by omega)) ?_
  exact bP (i+1) v1 (by omega) (by omega) (Z E (Z E (ao E (ag (y:=(((i+1):Nat):Int)) (by omega)) ai)))<|au _
 ·
  refine Ex<|Cr<|Wm E<|Wa E<|Wn<|am<|bJ 0 E (kp 0 E (.hit (i:=2) E (.hit (i:=3) E (kp 4 E (kp 5 E (kp 6 E (kp 7 E (kp 8 E (.hit (i:=19) E .nil)))))))))<|tl 2 E (y:=xs) (List.take_of_length_le (by omega)) ?_
  exact Qd E (ar E ak) ⟨E,E⟩
theorem c_quad_shaped (a:List (List Int)):Fn Tryz.prog 140 [kMZ.is a] (kN6.is (qshape a)):=by
 refine aK Tryz.func140 E E fun m w=>aR (i:=0) E bu fun hB=>aR (i:=0) E dK fun hlc=>Cr<|Wa E<|Wn<|aa<|Cr<|Wm E<|Ws (aA E U22)<|Ws (cq E E)<|Wn ?_
 refine aB E (fun h_t11=>?_)<|fun h_t11=>?_
 ·
  refine Cr<|Wa E<|Wn<|am<|aQ<|tl 2 E (y:=(qshape a)) (qshape_1 (big_len h_t11)).symm ?_
  exact Qd E (ar E ak) ⟨E,E⟩
 ·
  refine Ck<|aa<|Cr<|Wm E<|Ws (aA E U22)<|Wm E<|Wn<|aw<|bN (fun (i:Nat)=>i≤a.length∧rowsTo a true i) (fun (i:Nat)=>[(0,kMZ.is a),(12,kMZ.is a),(13,kN6.is (a.length:Int)),(14,kN6.is (i:Int))]) (fun (i:Nat)=>[]) (fun (i:Nat)=>a.length-i) 0 ⟨Nat.zero_le _,fun j hj=>absurd hj (by omega)⟩ (Z E (Z E (Z E (ao E (ag (y:=(0:Int)) (by rfl)) ai)))) (au _) ?_
  intro i ⟨hi,hA⟩
  refine Cr<|Ws (aS E E)<|Wn<|aa ?_
  refine aB E (fun h_t15=>?_)<|fun h_t15=>?_
  ·
   refine Ck<|aa<|aw<|aa ?_
   have hlci:=hlc i
   refine ah<|Ws (aT i E E U22 aE E (v:=(a.getD i [])) (gd [] (by omega)))<|Ws (aO E aE)<|Wa E<|Wr<|Wm E<|Ws (aA E U23)<|Ws (cq E E)<|Wm E ?_
   refine bV 21 E (fun h_t21=>?_)<|fun h_t21=>?_
   ·
    refine Kt E E<|Kt E E<|Kt E E<|Kt E E<|Ws (ch E E)<|Wn<|em E<|Cr<|Wa E<|Wn<|am<|bE<|aQ<|aQ<|bE<|aQ<|tl 2 E (y:=(qshape a)) (qshape_1 (big_row (i:=i) (by omega) (by omega))).symm ?_
    exact Qd E (ar E ak) ⟨E,E⟩
   ·
    refine Wg E E (bj E)<|Wg E E (bC U22 eT (b9 E bw) E (by decide))<|Wg E E (f1 fn212 E (c_mat_Bits [(a.getD i [])]))<|Wg E E (cq E E)<|Ws (cb E E)<|Wn ?_
    refine aB E (fun h_t26=>?_)<|fun h_t26=>?_
    ·
     refine Cr<|Wa E<|Wn<|am<|bE<|aQ<|aQ<|bE<|aQ<|tl 2 E (y:=(qshape a)) (qshape_1 (big_bits (i:=i) (by omega) (by omega))).symm ?_
     exact Qd E (ar E ak) ⟨E,E⟩
    ·
     refine cc<|Qb<|ah<|Ws (aI E E (c:=((i:Int)+1)) (ay (by omega)))<|Wm E<|aj ?_
     exact bG (i+1) (by omega) ⟨by omega,rowsTo_next hA (by omega) (by omega)⟩ (Z E (Z E (Z E (ao E (ag (y:=(((i+1):Nat):Int)) (by rfl)) ai))))<|au _
  ·
   refine Ex<|aa<|aa ?_
   have hno:=rowsTo_end h_t11 (by rw [show i=a.length by omega] at hA;exact hA)
   refine ah<|Wm E<|Ws (aA E U22)<|Ws (bR E E)<|Wn ?_
   refine aB E (fun h_t30=>?_)<|fun h_t30=>?_
   ·
    refine Cr<|Wa E<|Wn<|am<|aQ<|tl 2 E (y:=(qshape a)) (qshape_2 hno (by omega)).symm ?_
    exact Qd E (ar E ak) ⟨E,E⟩
   ·
    refine Ck<|aa<|Cr<|Wm E<|Ws (aA E U22)<|Wm E<|Wn<|aw<|bN (fun (j:Nat)=>j≤a.length∧∀l,l<j→(a.getD l []).length=a.length) (fun (j:Nat)=>[(0,kMZ.is a),(31,kMZ.is a),(32,kN6.is (a.length:Int)),(33,kN6.is (j:Int))]) (fun (j:Nat)=>[]) (fun (j:Nat)=>a.length-j) 0 ⟨Nat.zero_le _,fun l hl=>absurd hl (by omega)⟩ (Z E (Z E (Z E (ao E (ag (y:=(0:Int)) (by rfl)) ai)))) (au _) ?_
    intro j ⟨hj,hQ⟩
    refine Cr<|Ws (aS E E)<|Wn<|aa ?_
    refine aB E (fun h_t34=>?_)<|fun h_t34=>?_
    ·
     refine Ck<|aa<|aw<|Cr<|Ws (aT j E E U22 aE E (v:=(a.getD j [])) (gd [] (by omega)))<|Ws (aO E aE)<|Wa E<|Wr<|Wm E<|Ws (aA E U23)<|Wm E<|Ws (aA E U22)<|Ws (bt E E)<|Wn ?_
     refine aB E (fun h_t41=>?_)<|fun h_t41=>?_
     ·
      refine Cr<|Wa E<|Wn<|am<|bE<|aQ<|aQ<|bE<|aQ<|tl 2 E (y:=(qshape a)) (qshape_3 hno (by omega) (not_sq (i:=j) (by omega) (by omega))).symm ?_
      exact Qd E (ar E ak) ⟨E,E⟩
     ·
      refine cc<|Qb<|ah<|Ws (aI E E (c:=((j:Int)+1)) (ay (by omega)))<|Wm E<|aj ?_
      exact bG (j+1) (by omega) ⟨by omega,fun l hl=>if e:l=j then by subst e;omega else hQ l (by omega)⟩ (Z E (Z E (Z E (ao E (ag (y:=(((j+1):Nat):Int)) (by rfl)) ai))))<|au _
    ·
     refine Ex<|aa<|aa ?_
     have hsq:=sqN_iff.2 (fun l hl=>hQ l (by omega))
     refine ah<|Wm E<|Ws (aA E U22)<|Wm E<|Wn<|aw<|bN (fun (i:Nat)=>i≤a.length∧∀x,x<i→∀y,y<x→matF a x y=matF a y x) (fun (i:Nat)=>[(0,kMZ.is a),(44,kN6.is (a.length:Int)),(45,kN6.is (i:Int))]) (fun (i:Nat)=>[]) (fun (i:Nat)=>a.length-i) 0 ⟨Nat.zero_le _,fun l hl=>absurd hl (by omega)⟩ (Z E (Z E (ao E (ag (y:=(0:Int)) (by rfl)) ai))) (au _) ?_
     intro i ⟨hi,hS⟩
     refine Cr<|Ws (aS E E)<|Wn<|aa ?_
     refine aB E (fun h_t46=>?_)<|fun h_t46=>?_
     ·
      refine Ck<|aa<|aw<|Cr<|Wm E<|Wa E<|Wr<|Wm E<|Wm E<|Wn<|aw<|bN (fun (k:Nat)=>k≤i∧∀y,y<k→matF a i y=matF a y i) (fun (k:Nat)=>[(0,kMZ.is a),(7,kN6.is (i:Int)),(44,kN6.is (a.length:Int)),(45,kN6.is (i:Int)),(48,kN6.is (i:Int)),(49,kN6.is (k:Int))]) (fun (k:Nat)=>[]) (fun (k:Nat)=>i-k) 0 ⟨Nat.zero_le _,fun l hl=>absurd hl (by omega)⟩ (af E E E E (Z E (ao E (ag (y:=(0:Int)) (by rfl)) ai))) (au _) ?_
      intro k ⟨hk,hK⟩
      refine Cr<|Ws (aS E E)<|Wn<|aa ?_
      refine aB E (fun h_t50=>?_)<|fun h_t50=>?_
      ·
       refine Ck<|aa<|aw<|Cr<|Wm E<|Wa E<|Wn<|aa ?_
       refine ba (Γ:=[.fr (kMZ.is a),.fr (kN6.is (i:Int)),.fr (VP.pim kVZ (a.getD i [])),.fr (kVZ.is (a.getD i [])),.fr (kN6.is (k:Int)),.fr (VP.pim kZ ((a.getD i []).getD k 0)),.fr (kZ.is ((a.getD i []).getD k 0)),.fr (kMZ.is a),.fr (kN6.is (k:Int)),.fr (VP.pim kVZ (a.getD k [])),.fr (kVZ.is (a.getD k [])),.fr (kN6.is (i:Int)),.fr (VP.pim kZ ((a.getD k []).getD i 0)),.fr (kZ.is ((a.getD k []).getD i 0)),.fr (kN6.is ((((a.getD i []).getD k 0)-((a.getD k []).getD i 0)).sign)),.fr (kBool.is (decide (((((a.getD i []).getD k 0)-((a.getD k []).getD i 0)).sign)≠0)))]) (om E E (om E E (J E (fun N=>aT i E E U22 aE E (v:=(a.getD i [])) (gd [] (by omega))) (J E (fun N=>aO E aE) (om E E (J E (fun N=>aT k E E U23 ab E (v:=((a.getD i []).getD k 0)) (gd 0 (by have h1:=hQ i (by omega);have h2:=hQ k (by omega);omega))) (J E (fun N=>aO E ab) (om E E (om E E (J E (fun N=>aT k E E U22 aE E (v:=(a.getD k [])) (gd [] (by omega))) (J E (fun N=>aO E aE) (om E E (J E (fun N=>aT i E E U23 ab E (v:=((a.getD k []).getD i 0)) (gd 0 (by have h1:=hQ i (by omega);have h2:=hQ k (by omega);omega))) (J E (fun N=>aO E ab) (J E (fun N=>f2 fn119 E E (eZ ((a.getD i []).getD k 0) ((a.getD k []).getD i 0))) (J E (fun N=>bt E E) oz))))))))))))))))<|fun σ1=>?_
       refine Wn ?_
       refine aB E (fun h_t67=>?_)<|fun h_t67=>?_
       ·
        refine Cr<|Wa E<|Wn<|am<|bE<|aQ<|aQ<|bE<|bE<|aQ<|aQ<|bE<|aQ<|tl 2 E (y:=(qshape a)) (qshape_4 hno (by omega) hsq (not_sym (i:=i) (k:=k) (by omega) (by omega) h_t67)).symm ?_
        exact Qd E (ar E ak) ⟨E,E⟩
       ·
        refine cc<|Qb<|ah<|Ws (aI E E (c:=((k:Int)+1)) (ay (by omega)))<|Wm E<|aj ?_
        exact bG (k+1) (by omega) ⟨by omega,fun y hy=>if e:y=k then by subst e;exact sgn0.1 (Classical.byContradiction fun h=>h_t67 h) else hK y (by omega)⟩ (af E E E E (Z E (ao E (ag (y:=(((k+1):Nat):Int)) (by rfl)) ai)))<|au _
      ·
       refine du<|cS<|cS<|dr<|Qb<|ah<|Ws (aI E E (c:=((i:Int)+1)) (ay (by omega)))<|Wm E<|aj ?_
       exact bG (i+1) (by omega) ⟨by omega,fun x hx=>if e:x=i then by subst e;exact fun y hy=>hK y (by omega) else hS x (by omega)⟩ (Z E (Z E (ao E (ag (y:=(((i+1):Nat):Int)) (by rfl)) ai)))<|au _
     ·
      refine Ex<|Cr<|Wa E<|Wn<|am<|tl 2 E (y:=(qshape a)) (qshape_5 hno (by omega) hsq (symB_iff.2 (fun x hx=>hS x (by omega)))).symm ?_
      exact Qd E (ar E ak) ⟨E,E⟩
theorem c_quad_data (n:Nat) (a:List (List Int)) (ha:SzM n a) (hq:∀i,i<a.length→(a.getD i []).length=a.length) (hs:SymG (matF a)) (hl:a.length≤12) (hn:n≤4194304):Fn Tryz.prog 141 [kMZ.is a] (VP.tup [kGso.is (gsoV (matF a) a.length),kBool.is (gOk (matF a) a.length)]):=by
 refine aK Tryz.func141 E E fun m w=>aR (i:=0) E bu fun hB=>aR (i:=0) E dK fun hlc=>?_
 have hz:∀i j,Sz (n+n+12) (matF a i j):=fun i j=>(matF_Sz ha i j).up (by omega)
 have hU:∀k,k≤12→szU (n+n+12) k≤34359902208:=fun k hk=>by have:=szU_le (n+n+12) hk;omega
 refine Cr<|a8 .n er fun b1=>Wa E<|Wr<|Ws (aF fn71 (aq E (cD (by omega)) ax) (d8 1))<|WP.bso .n U23 bo (b9 E bw) E (by decide) fun v2=>bn 0 E fun hcell_=>Ws (cH co E (bz E (bf (by assumption)) bH) (.cons E (aU Li) (.nil _)))<|Ax (l:=(kPair kVal kVal)) (u:=(v2,(.slice none 0 0))) cK E bi (fun _=>E) Lr fun b3=>Wn<|aa<|Cr<|Wm E<|Ws (aA E U22)<|Wm E<|Wn ?_
 refine aw<|ca 23 kVC<|da (fun (i:Nat) (vD:Value) (vL:Value)=>i≤a.length∧PosU (matF a) i) (fun (i:Nat) (vD:Value) (vL:Value)=>[(0,kMZ.is a),(2,VP.pt b1 0),(3,kBool.is false),(4,VP.pt b3 0),(16,kN6.is (a.length:Int)),(17,kN6.is (i:Int))]) (fun (i:Nat) (vD:Value) (vL:Value)=>[OB.row vL 23 kVC (gLs (matF a) i),OB.box b3 25 (kPair kVal kVal) (vD,vL),OB.row vD 29 kC (gDs (matF a) i),OB.box b1 25 kGso ([],[])]) (fun (i:Nat) (vD:Value) (vL:Value)=>a.length-i) 0 v2 (.slice none 0 0) ⟨Nat.zero_le _,fun l hl=>absurd hl (by omega)⟩ (af E E E E (Z E (ao E (ag (y:=(0:Int)) (by rfl)) ai))) (aW (OS.keepLe (a9 (by rfl)) (OS.keep (OS.keepLe (a9 (by rfl)) (OS.keep OS.nil))))) ?_
 intro i vD vL ⟨hi,hP⟩
 refine Cr<|Ws (aS E E)<|Wn<|aa ?_
 refine aB E (fun h_t18=>?_)<|fun h_t18=>?_
 ·
  refine Ck<|aa<|aw<|Cr<|Wm E<|Wa E<|Wr<|Wa E<|Wn<|aa<|Cr<|Wa E<|Wn<|aw<|ca 29 kC<|bX (fun (j:Nat) (v:Value)=>j≤i+1) (fun (j:Nat) (v:Value)=>[(0,kMZ.is a),(2,VP.pt b1 0),(3,kBool.is false),(4,VP.pt b3 0),(5,kN6.is (i:Int)),(6,VP.ex v),(7,kN6.is (j:Int)),(16,kN6.is (a.length:Int)),(17,kN6.is (i:Int))]) (fun (j:Nat) (v:Value)=>[OB.row v 29 kC (gRow (matF a) i j),OB.row vL 23 kVC (gLs (matF a) i),OB.box b3 25 (kPair kVal kVal) (vD,vL),OB.row vD 29 kC (gDs (matF a) i),OB.box b1 25 kGso ([],[])]) (fun (j:Nat) (v:Value)=>i+1-j) 0 (.slice none 0 0) (by omega) (af E E E E (Z E (Z E (ao E (ag (y:=(0:Int)) (by rfl)) (Z E (Z E ai)))))) (aW (OS.keepLe (a9 (by rfl)) (OS.keep (OS.keep (OS.keep (OS.keep OS.nil)))))) ?_
  intro j v hj
  refine aa<|Cr<|Wm E<|Wm E<|Ws (O.le E E)<|Wn ?_
  refine aB E (fun h_t22=>?_)<|fun h_t22=>?_
  ·
   refine Ck<|aa<|aw<|Cr<|Wm E<|Wm E<|Ws (aT i E E U22 aE E (v:=(a.getD i [])) (gd [] (by omega)))<|Ws (aO E aE)<|Wm E<|Ws (aT j E E U23 ab E (v:=((a.getD i []).getD j 0)) (gd 0 (by have:=hq i (by omega);omega)))<|Ws (aO E ab)<|Ws (f1 fn132 E (eO ((a.getD i []).getD j 0)))<|Ax (l:=kC) (u:=((a.getD i []).getD j 0)) aZ E ab (fun _=>E) Lr fun b4=>Wn<|aa<|Cr<|Wm E<|Wm E<|aj ?_
   refine bS<|aw<|bX (fun (k:Nat) (p:Nat)=>k≤j) (fun (k:Nat) (p:Nat)=>[(0,kMZ.is a),(2,VP.pt b1 0),(3,kBool.is false),(4,VP.pt b3 0),(5,kN6.is (i:Int)),(6,VP.ex v),(7,kN6.is (j:Int)),(8,VP.pt p 0),(33,kN6.is (j:Int)),(34,kN6.is (k:Int)),(16,kN6.is (a.length:Int)),(17,kN6.is (i:Int))]) (fun (k:Nat) (p:Nat)=>[OB.box p 29 kC (uE (matF a) k i j),OB.row v 29 kC (gRow (matF a) i j),OB.row vL 23 kVC (gLs (matF a) i),OB.box b3 25 (kPair kVal kVal) (vD,vL),OB.row vD 29 kC (gDs (matF a) i),OB.box b1 25 kGso ([],[])]) (fun (k:Nat) (p:Nat)=>j-k) 0 b4 (by omega) (af E E E E (af E E E E (Z E (ao E (ag (y:=(0:Int)) (by rfl)) (Z E (Z E ai)))))) (aW (OS.keepLe (cf (by rfl)) (OS.keep (OS.keep (OS.keep (OS.keep (OS.keep OS.nil))))))) ?_
   intro k p hk
   refine Cr<|Ws (aS E E)<|Wn<|aa ?_
   refine aB E (fun h_t35=>?_)<|fun h_t35=>?_
   ·
    refine Ck<|aa<|aw<|aa ?_
    have hE:=uE_Sz hs hz hP
    have hD:=uD_Sz hs hz hP
    have hUk:=hU k (by omega)
    refine ah<|Wm E<|Wa E<|Wr<|Wm E<|Wa E<|Wn<|aa<|Cr<|Wm E<|Wm E<|Ws (aS E E)<|Wn ?_
    refine aB E (fun h_t40=>?_)<|fun h_t40=>?_
    ·
     refine ah<|Ws (aM E cB E)<|Ws (aV (ae (p:=kVal.is vL) E (ac 3 E) (aN Li) bT E) (bm _))<|Wm E<|Ws (aY (k:=kVC) (xs:=(gLs (matF a) i)) (n:=(j:Int)) j E E (ac 2 E) U22 aE E (by simp only [gRow_len,gDs_len,gLs_len];omega))<|Ws (bd j E (ac 2 E) Li E (y:=((gLs (matF a) i).getD j [])) (gd [] (by simp only [gRow_len,gDs_len,gLs_len];omega)) aE E)<|Wa E<|Wn<|aa ?_
     refine ba (Γ:=[.fr (VP.pt b3 0),.fr (VP.ex vD),.fr (kN6.is (k:Int)),.fr (kN6.is ((k:Int)+1)),.fr (VP.pel vD ((((k:Int)+1)).toNat*2)),.fr (kC.is (uD (matF a) (k+1))),.fr (kC.is (uE (matF a) k i j)),.fr (kC.is ((uD (matF a) (k+1))*(uE (matF a) k i j))),.fr (VP.ex v),.fr (kN6.is (k:Int)),.fr (VP.pel v (k*2)),.fr (kC.is (uE (matF a) k i k)),.fr (kVC.is ((gLs (matF a) i).getD j [])),.fr (kN6.is (k:Int)),.fr (VP.pim kC (uE (matF a) k j k)),.fr (kC.is (uE (matF a) k j k)),.fr (kC.is ((uE (matF a) k i k)*(uE (matF a) k j k))),.fr (kC.is (((uD (matF a) (k+1))*(uE (matF a) k i j))-((uE (matF a) k i k)*(uE (matF a) k j k)))),.al (fun b=>OB.box b 29 kC 0)]) (J E (fun N=>aM E cE E) (J E (fun N=>aV (ae (p:=kVal.is vD) E (mN N 3 E) (aU Li) aE E) (bm _)) (om E E (J E (fun N=>aI E E (c:=((k:Int)+1)) (ay (by omega))) (J E (fun N=>aY (k:=kC) (xs:=(gDs (matF a) i)) (n:=((k:Int)+1)) ((((k:Int)+1)).toNat) E E (mN N 4 E) U23 ab (by omega) (by simp only [gRow_len,gDs_len,gLs_len];omega)) (J E (fun N=>bd (k:=kC) (xs:=(gDs (matF a) i)) ((((k:Int)+1)).toNat) E (mN N 4 E) Li (ho:=E) (y:=(uD (matF a) (k+1))) (dd (by omega)) ab E) (J E (fun N=>ae E (mN N 0 E) Li ab E) (J E (fun N=>aF de (aq E (aJ ((hE k (by omega) k k (by omega) (by omega)).sm (by omega))) (aq E (aJ ((hE k (by omega) i j (by omega) (by omega)).sm (by omega))) ax)) (c8 (uD (matF a) (k+1)) (uE (matF a) k i j))) (om E E (om E E (J E (fun N=>aY (k:=kC) (xs:=(gRow (matF a) i j)) (n:=(k:Int)) k E E (mN N 1 E) U23 ab E (by simp only [gRow_len,gDs_len,gLs_len];omega)) (J E (fun N=>bd (k:=kC) (xs:=(gRow (matF a) i j)) k E (mN N 1 E) Li (ho:=E) (y:=(uE (matF a) k i k)) (eH (by omega)) ab E) (om E E (om E E (J E (fun N=>aT k E E U23 ab E (v:=(uE (matF a) k j k)) (gLs_at (by omega) (by omega))) (J E (fun N=>aO E ab) (J E (fun N=>aF de (aq E (aJ ((hE k (by omega) i k (by omega) (by omega)).sm (by omega))) (aq E (aJ ((hE k (by omega) j k (by omega) (by omega)).sm (by omega))) ax)) (c8 (uE (matF a) k i k) (uE (matF a) k j k))) (J E (fun N=>aF fn213 (aq E (aJ (((hE k (by omega) k k (by omega) (by omega)).mul (hE k (by omega) i j (by omega) (by omega))).sm (by omega))) (aq E (aJ (((hE k (by omega) i k (by omega) (by omega)).mul (hE k (by omega) j k (by omega) (by omega))).sm (by omega))) ax)) (ff ((uD (matF a) (k+1))*(uE (matF a) k i j)) ((uE (matF a) k i k)*(uE (matF a) k j k)))) (oc (dA E aZ) oz)))))))))))))))))))<|fun σ1=>?_
     refine aG .n (aD (l:=kC) (u:=((uD (matF a) (k+1))*(uE (matF a) k i j))-((uE (matF a) k i k)*(uE (matF a) k j k))) 0 E E E ab E Lr)<|Wn ?_
     refine ba (Γ:=[.fr (kC.is (((uD (matF a) (k+1))*(uE (matF a) k i j))-((uE (matF a) k i k)*(uE (matF a) k j k)))),.fr (VP.pt b3 0),.fr (VP.ex vD),.fr (kN6.is (k:Int)),.fr (VP.pel vD (k*2)),.fr (kC.is (uD (matF a) k)),.fr (VP.tup [kC.is ((((uD (matF a) (k+1))*(uE (matF a) k i j))-((uE (matF a) k i k)*(uE (matF a) k j k))).fdiv (uD (matF a) k)),kC.is (if (uD (matF a) k)=0 then 0 else (((uD (matF a) (k+1))*(uE (matF a) k i j))-((uE (matF a) k i k)*(uE (matF a) k j k))).fmod (uD (matF a) k)),kN6.is (if (uD (matF a) k)=0 then 11 else 0)]),.fr (VP.tup [kC.is ((((uD (matF a) (k+1))*(uE (matF a) k i j))-((uE (matF a) k i k)*(uE (matF a) k j k))).fdiv (uD (matF a) k)),kC.is (if (uD (matF a) k)=0 then 0 else (((uD (matF a) (k+1))*(uE (matF a) k i j))-((uE (matF a) k i k)*(uE (matF a) k j k))).fmod (uD (matF a) k)),kN6.is (if (uD (matF a) k)=0 then 11 else 0)]),.fr (kC.is ((((uD (matF a) (k+1))*(uE (matF a) k i j))-((uE (matF a) k i k)*(uE (matF a) k j k))).fdiv (uD (matF a) k))),.lt (kC.is (if (uD (matF a) k)=0 then 0 else (((uD (matF a) (k+1))*(uE (matF a) k i j))-((uE (matF a) k i k)*(uE (matF a) k j k))).fmod (uD (matF a) k))),.lt (kN6.is (if (uD (matF a) k)=0 then 11 else 0))]) (J E (fun N=>ae E (mN N 0 E) Li ab E) (J E (fun N=>aM E cE E) (J E (fun N=>aV (ae (p:=kVal.is vD) E (mN N 4 E) (aU Li) aE E) (bm _)) (om E E (J E (fun N=>aY (k:=kC) (xs:=(gDs (matF a) i)) (n:=(k:Int)) k E E (mN N 5 E) U23 ab E (by simp only [gRow_len,gDs_len,gLs_len];omega)) (J E (fun N=>bd (k:=kC) (xs:=(gDs (matF a) i)) k E (mN N 5 E) Li (ho:=E) (y:=(uD (matF a) k)) (dd (by omega)) ab E) (J E (fun N=>aF fn214 (aq E (aJ ((((hE k (by omega) k k (by omega) (by omega)).mul (hE k (by omega) i j (by omega) (by omega))).sub ((hE k (by omega) i k (by omega) (by omega)).mul (hE k (by omega) j k (by omega) (by omega)))).sm (by omega))) (aq E (aJ ((hD k (by omega)).sm (by omega))) ax)) (et (((uD (matF a) (k+1))*(uE (matF a) k i j))-((uE (matF a) k i k)*(uE (matF a) k j k))) (uD (matF a) k))) (om E E (J E (fun N=>aH E E) (oc (cV E .n (dv E E)) (oc (cV E .n (dv E E)) oz)))))))))))<|fun σ2=>?_
     refine aG .n (aD (l:=kC) (u:=(((uD (matF a) (k+1))*(uE (matF a) k i j))-((uE (matF a) k i k)*(uE (matF a) k j k))).fdiv (uD (matF a) k)) 1 E E E ab E Lr)<|aj<|Qb<|ah<|Ws (aI E E (c:=((k:Int)+1)) (ay (by omega)))<|Wm E<|aj<|tb 1 E (y:=(uE (matF a) (k+1) i j)) (uE_succ _ k i j).symm ?_
     exact bP (k+1) p (by omega) (by omega) (af E E E E (af E E E E (Z E (ao E (ag (y:=(((k+1):Nat):Int)) (by rfl)) (Z E (Z E ai))))))<|aW<|OS.skip<|OS.keep<|OS.keep<|OS.keep<|OS.keep<|OS.keep<|OS.keep OS.nil
    ·
     refine Ck<|aa ?_
     refine ba (Γ:=[.fr (VP.pt b3 0),.fr (VP.ex vD),.fr (kN6.is (k:Int)),.fr (kN6.is ((k:Int)+1)),.fr (VP.pel vD ((((k:Int)+1)).toNat*2)),.fr (kC.is (uD (matF a) (k+1))),.fr (kC.is (uE (matF a) k i j)),.fr (kC.is ((uD (matF a) (k+1))*(uE (matF a) k i j))),.fr (VP.ex v),.fr (kN6.is (k:Int)),.fr (VP.pel v (k*2)),.fr (kC.is (uE (matF a) k i k)),.fr (VP.ex v),.fr (kN6.is (k:Int)),.fr (VP.pel v (k*2)),.fr (kC.is (uE (matF a) k j k)),.fr (kC.is ((uE (matF a) k i k)*(uE (matF a) k j k))),.fr (kC.is (((uD (matF a) (k+1))*(uE (matF a) k i j))-((uE (matF a) k i k)*(uE (matF a) k j k)))),.al (fun b=>OB.box b 29 kC 0)]) (J E (fun N=>aM E cE E) (J E (fun N=>aV (ae (p:=kVal.is vD) E (mN N 3 E) (aU Li) aE E) (bm _)) (om E E (J E (fun N=>aI E E (c:=((k:Int)+1)) (ay (by omega))) (J E (fun N=>aY (k:=kC) (xs:=(gDs (matF a) i)) (n:=((k:Int)+1)) ((((k:Int)+1)).toNat) E E (mN N 4 E) U23 ab (by omega) (by simp only [gRow_len,gDs_len,gLs_len];omega)) (J E (fun N=>bd (k:=kC) (xs:=(gDs (matF a) i)) ((((k:Int)+1)).toNat) E (mN N 4 E) Li (ho:=E) (y:=(uD (matF a) (k+1))) (dd (by omega)) ab E) (J E (fun N=>ae E (mN N 0 E) Li ab E) (J E (fun N=>aF de (aq E (aJ ((hE k (by omega) k k (by omega) (by omega)).sm (by omega))) (aq E (aJ ((hE k (by omega) i j (by omega) (by omega)).sm (by omega))) ax)) (c8 (uD (matF a) (k+1)) (uE (matF a) k i j))) (om E E (om E E (J E (fun N=>aY (k:=kC) (xs:=(gRow (matF a) i j)) (n:=(k:Int)) k E E (mN N 1 E) U23 ab E (by simp only [gRow_len,gDs_len,gLs_len];omega)) (J E (fun N=>bd (k:=kC) (xs:=(gRow (matF a) i j)) k E (mN N 1 E) Li (ho:=E) (y:=(uE (matF a) k i k)) (eH (by omega)) ab E) (om E E (om E E (J E (fun N=>aY (k:=kC) (xs:=(gRow (matF a) i j)) (n:=(k:Int)) k E E (mN N 1 E) U23 ab E (by simp only [gRow_len,gDs_len,gLs_len];omega)) (J E (fun N=>bd (k:=kC) (xs:=(gRow (matF a) i j)) k E (mN N 1 E) Li (ho:=E) (y:=(uE (matF a) k j k)) (by rw [show j=i by omega];exact gRow_at (by omega)) ab E) (J E (fun N=>aF de (aq E (aJ ((hE k (by omega) i k (by omega) (by omega)).sm (by omega))) (aq E (aJ ((hE k (by omega) j k (by omega) (by omega)).sm (by omega))) ax)) (c8 (uE (matF a) k i k) (uE (matF a) k j k))) (J E (fun N=>aF fn213 (aq E (aJ (((hE k (by omega) k k (by omega) (by omega)).mul (hE k (by omega) i j (by omega) (by omega))).sm (by omega))) (aq E (aJ (((hE k (by omega) i k (by omega) (by omega)).mul (hE k (by omega) j k (by omega) (by omega))).sm (by omega))) ax)) (ff ((uD (matF a) (k+1))*(uE (matF a) k i j)) ((uE (matF a) k i k)*(uE (matF a) k j k)))) (oc (dA E aZ) oz)))))))))))))))))))<|fun σ3=>?_
     refine aG .n (aD (l:=kC) (u:=((uD (matF a) (k+1))*(uE (matF a) k i j))-((uE (matF a) k i k)*(uE (matF a) k j k))) 0 E E E ab E Lr)<|Wn ?_
     refine ba (Γ:=[.fr (kC.is (((uD (matF a) (k+1))*(uE (matF a) k i j))-((uE (matF a) k i k)*(uE (matF a) k j k)))),.fr (VP.pt b3 0),.fr (VP.ex vD),.fr (kN6.is (k:Int)),.fr (VP.pel vD (k*2)),.fr (kC.is (uD (matF a) k)),.fr (VP.tup [kC.is ((((uD (matF a) (k+1))*(uE (matF a) k i j))-((uE (matF a) k i k)*(uE (matF a) k j k))).fdiv (uD (matF a) k)),kC.is (if (uD (matF a) k)=0 then 0 else (((uD (matF a) (k+1))*(uE (matF a) k i j))-((uE (matF a) k i k)*(uE (matF a) k j k))).fmod (uD (matF a) k)),kN6.is (if (uD (matF a) k)=0 then 11 else 0)]),.fr (VP.tup [kC.is ((((uD (matF a) (k+1))*(uE (matF a) k i j))-((uE (matF a) k i k)*(uE (matF a) k j k))).fdiv (uD (matF a) k)),kC.is (if (uD (matF a) k)=0 then 0 else (((uD (matF a) (k+1))*(uE (matF a) k i j))-((uE (matF a) k i k)*(uE (matF a) k j k))).fmod (uD (matF a) k)),kN6.is (if (uD (matF a) k)=0 then 11 else 0)]),.fr (kC.is ((((uD (matF a) (k+1))*(uE (matF a) k i j))-((uE (matF a) k i k)*(uE (matF a) k j k))).fdiv (uD (matF a) k))),.lt (kC.is (if (uD (matF a) k)=0 then 0 else (((uD (matF a) (k+1))*(uE (matF a) k i j))-((uE (matF a) k i k)*(uE (matF a) k j k))).fmod (uD (matF a) k))),.lt (kN6.is (if (uD (matF a) k)=0 then 11 else 0))]) (J E (fun N=>ae E (mN N 0 E) Li ab E) (J E (fun N=>aM E cE E) (J E (fun N=>aV (ae (p:=kVal.is vD) E (mN N 4 E) (aU Li) aE E) (bm _)) (om E E (J E (fun N=>aY (k:=kC) (xs:=(gDs (matF a) i)) (n:=(k:Int)) k E E (mN N 5 E) U23 ab E (by simp only [gRow_len,gDs_len,gLs_len];omega)) (J E (fun N=>bd (k:=kC) (xs:=(gDs (matF a) i)) k E (mN N 5 E) Li (ho:=E) (y:=(uD (matF a) k)) (dd (by omega)) ab E) (J E (fun N=>aF fn214 (aq E (aJ ((((hE k (by omega) k k (by omega) (by omega)).mul (hE k (by omega) i j (by omega) (by omega))).sub ((hE k (by omega) i k (by omega) (by omega)).mul (hE k (by omega) j k (by omega) (by omega)))).sm (by omega))) (aq E (aJ ((hD k (by omega)).sm (by omega))) ax)) (et (((uD (matF a) (k+1))*(uE (matF a) k i j))-((uE (matF a) k i k)*(uE (matF a) k j k))) (uD (matF a) k))) (om E E (J E (fun N=>aH E E) (oc (cV E .n (dv E E)) (oc (cV E .n (dv E E)) oz)))))))))))<|fun σ4=>?_
     refine aG .n (aD (l:=kC) (u:=(((uD (matF a) (k+1))*(uE (matF a) k i j))-((uE (matF a) k i k)*(uE (matF a) k j k))).fdiv (uD (matF a) k)) 1 E E E ab E Lr)<|aj<|Qb<|ah<|Ws (aI E E (c:=((k:Int)+1)) (ay (by omega)))<|Wm E<|aj<|tb 1 E (y:=(uE (matF a) (k+1) i j)) (uE_succ _ k i j).symm ?_
     exact bP (k+1) p (by omega) (by omega) (af E E E E (af E E E E (Z E (ao E (ag (y:=(((k+1):Nat):Int)) (by rfl)) (Z E (Z E ai))))))<|aW<|OS.skip<|OS.keep<|OS.keep<|OS.keep<|OS.keep<|OS.keep<|OS.keep OS.nil
   ·
    refine Ex<|ah<|Wm E<|Ws (ae E (ac 0 E) Li ab E)<|Ws (bC U23 bo (b9 E bw) E (by decide))<|bL 1 .n E E E Lr U23 bo (by simp only [gRow_len,gDs_len,gLs_len,List.length_cons,List.length_nil];omega) fun v5=>Wa E<|aj<|Qb<|ah<|Wm E<|Ws (aI E E (c:=((j:Int)+1)) (ay (by omega)))<|Wa E<|aj<|tr 1 E (y:=(gRow (matF a) i (j+1))) (by rw [show k=j by omega];exact gRow_app (matF a) i j) ?_
    exact bP (j+1) v5 (by omega) (by omega) (af E E E E (Z E (Z E (ao E (ag (y:=(((j+1):Nat):Int)) (by rfl)) (Z E (Z E ai))))))<|aW<|OS.skip<|OS.keep<|OS.keep<|OS.keep<|OS.keep<|OS.keep OS.nil
  ·
   refine Ex<|aa<|aa<|tr 0 E (y:=(gRow (matF a) i (i+1))) (by rw [show j=i+1 by omega]) ?_
   have hE:=uE_Sz hs hz hP
   have hD:=uD_Sz hs hz hP
   have hUi:=hU i (by omega)
   refine ah<|Wm E<|Wm E<|Ws (aY (k:=kC) (xs:=(gRow (matF a) i (i+1))) (n:=(i:Int)) i E E (ac 0 E) U23 ab E (by simp only [gRow_len,gDs_len,gLs_len];omega))<|Ws (bd (k:=kC) (xs:=(gRow (matF a) i (i+1))) i E (ac 0 E) Li (ho:=E) (y:=(uE (matF a) i i i)) (eH (by omega)) ab E)<|Ws (aF dp (aq E (aJ ((hE i (by omega) i i (by omega) (by omega)).sm (by omega))) ax) (dk (uE (matF a) i i i)))<|Ws (O.le E E)<|Wn ?_
   refine aB E (fun h_t85=>?_)<|fun h_t85=>?_
   ·
    refine Cr<|Ws (cH lit25_pr_sl_C_sl_sl_C_ E bH (.nil _))<|aG .n (aD (l:=kGso) (u:=([],[])) 4 E E E bi E Lr)<|Wa E<|Wn<|am<|aQ<|bE<|aQ<|aQ<|bE<|aQ<|tb 4 E (y:=(gsoV (matF a) a.length)) (gso_no (by omega) h_t85).2.symm<|tl 3 E (y:=(gOk (matF a) a.length)) (gso_no (by omega) h_t85).1.symm ?_
    exact Qd E (a5 E (ac 4 E) bi (ar E ak)) ⟨E,E⟩
   ·
    refine Ck<|aa ?_
    refine ba (Γ:=[.fr (VP.pt b3 0),.fr (VP.ex vD),.fr (VP.ex v),.fr (kN6.is (i:Int)),.fr (VP.pel v (i*2)),.fr (kC.is (uE (matF a) i i i)),.fr (kVC.is [(uE (matF a) i i i)])]) (J E (fun N=>aM E cE E) (J E (fun N=>aV (ae (p:=kVal.is vD) E (mN N 2 E) (aU Li) aE E) (bm _)) (om E E (om E E (J E (fun N=>aY (k:=kC) (xs:=(gRow (matF a) i (i+1))) (n:=(i:Int)) i E E (mN N 0 E) U23 ab E (by simp only [gRow_len,gDs_len,gLs_len];omega)) (J E (fun N=>bd (k:=kC) (xs:=(gRow (matF a) i (i+1))) i E (mN N 0 E) Li (ho:=E) (y:=(uE (matF a) i i i)) (eH (by omega)) ab E) (J E (fun N=>bC U23 bo (b9 E bw) E (by decide)) oz)))))))<|fun σ5=>?_
    refine bL 3 .n E E E Lr U23 bo (by simp only [gRow_len,gDs_len,gLs_len,List.length_cons,List.length_nil];omega) fun v6=>Ws (aM E cE E)<|bn 3 E fun hcell_=>aG .n (O.st 2 E E (aU Li) aE E (bf (by assumption)))<|Wn<|bJ 0 E (kp 0 E (kp 2 E (kp 3 E (kp 4 E (kp 5 E (.hit (i:=6) E (kp 7 E (kp 16 E (kp 17 E (kp 20 E (kp 21 E (kp 22 E (.hit (i:=80) E (kp 81 E (kp 82 E (kp 83 E (kp 84 E (kp 85 E (kp 87 E (kp 88 E (.hit (i:=89) E (kp 90 E (kp 91 E (kp 92 E (kp 93 E (kp 94 E (kp 95 E .nil))))))))))))))))))))))))))) ?_
    refine ba (Γ:=[.fr (VP.pt b3 1),.fr (VP.ex vL),.fr (kVC.is (gRow (matF a) i (i+1))),.fr (kN6.is (i:Int)),.fr (kN6.is (i:Int)),.fr (kVC.is ((gRow (matF a) i (i+1)).take i)),.fr (kMC.is [((gRow (matF a) i (i+1)).take i)])]) (J E (fun N=>aM E cB E) (J E (fun N=>aV (ae (p:=kVal.is vL) E (mN N 1 E) (aN Li) bT E) (bm _)) (om E E (om E E (om E E (J E (fun N=>O.sl3 i E E E U23 ab E E (by simp only [gRow_len,gDs_len,gLs_len];omega)) (J E (fun N=>bC U22 c9 (b9 E bw) E (by decide)) oz)))))))<|fun σ6=>?_
    refine bL 0 .n E E E Lr U22 c9 (by simp only [gRow_len,gDs_len,gLs_len,List.length_cons,List.length_nil];omega) fun v7=>Ws (aM E cB E)<|bn 0 E fun hcell_=>aG .n (O.st 1 E E (aN Li) bT E (bf (by assumption)))<|aj<|Qb<|ah<|Ws (aI E E (c:=((i:Int)+1)) (ay (by omega)))<|Wm E<|aj<|tr 2 E (y:=(gDs (matF a) (i+1))) (gDs_app (matF a) i)<|tr 0 E (y:=(gLs (matF a) (i+1))) (by rw [gRow_take];exact gLs_app (matF a) i) ?_
    exact cM (i+1) v6 v7 (by omega) ⟨by omega,posU_succ hP h_t85⟩ (af E E E E (Z E (ao E (ag (y:=(((i+1):Nat):Int)) (by rfl)) ai)))<|au _
 ·
  refine Ex<|aa<|ew (k2:=(kPair kVC kVal)) ((gDs (matF a) i),vL) 2 1 E E (fun m_ cs_ h_ c_=>fz_fst m_ cs_ h_ c_) (kp 0 E (kp 2 E (kp 3 E (kp 4 E (kp 16 E (kp 17 E (kp 18 E .nil)))))))<|ew (k2:=kGso) ((gDs (matF a) i),(gLs (matF a) i)) 0 0 E E (fun m_ cs_ h_ c_=>fz_snd m_ cs_ h_ c_) (kp 0 E (kp 2 E (kp 3 E (kp 4 E (kp 16 E (kp 17 E (kp 18 E .nil))))))) ?_
  have hib:i=a.length:=by omega
  refine ah<|Ws (ae (p:=kGso.is ((gDs (matF a) i),(gLs (matF a) i))) E (ac 0 E) Li bi E)<|aG .n (aD (l:=kGso) (u:=((gDs (matF a) i),(gLs (matF a) i))) 1 E E E bi E Lr)<|Wa E<|Wn<|am<|tb 1 E (y:=(gsoV (matF a) a.length)) (by rw [hib];rw [hib] at hP;exact (gso_yes hP).2.symm)<|tl 3 E (y:=(gOk (matF a) a.length)) (by rw [hib] at hP;exact (gso_yes hP).1.symm) ?_
  exact Qd E (a5 E (ac 1 E) bi (ar E ak)) ⟨E,E⟩
theorem c_quad_Valid (a:List (List Int)):Fn Tryz.prog 78 [kMZ.is a] (kN6.is (quadE a)):=by
 refine aK Tryz.func78 E E fun m w=>Cr<|Wa E<|Wn<|aa<|Cr<|Wm E<|Ws (f1 fn140 E (c_quad_shaped a))<|Wa E<|Wr<|Wm E<|Ws (bt E E)<|Wn ?_
 refine aB E (fun h_t9=>?_)<|fun h_t9=>?_
 ·
  refine Cr<|Wm E<|Wa E<|Wn<|am<|aQ<|tl 2 E (y:=(quadE a)) (quadE_1 (by omega)).symm ?_
  exact Qd E (ar E ak) ⟨E,E⟩
 ·
  refine Ck<|aa<|aa ?_
  have hM:=sqm_of (a:=a) (by omega)
  refine ah<|Wm E<|Ws (f1 fn141 E (c_quad_data 256 a (hM.z) (hM.q) (hM.s) (hM.n) (by decide)))<|Wm E<|Ws (aH E E)<|Ws (aH E E)<|Ax (l:=kGso) (u:=gsoV (matF a) a.length) er E bi (fun _=>E) Lr fun b1=>Wa E<|Wr<|Wm E<|Ws (di E)<|Wn ?_
  refine dx E (fun h_t17=>?_)<|fun h_t17=>?_
  ·
   refine Cr<|Wa E<|Wn<|am<|aQ<|tl 2 E (y:=(quadE a)) (quadE_2 (by omega) (by simpa using h_t17)).symm ?_
   exact Qd E (ar E ak) ⟨E,E⟩
  ·
   refine Ck<|Cr<|Wa E<|Wn<|am<|tl 2 E (y:=(quadE a)) (quadE_3 (by omega) (by simpa using h_t17)).symm ?_
   exact Qd E (ar E ak) ⟨E,E⟩
end Fw
namespace Fw
open Go
theorem map_take_app {α β:Type} {l:List α} {F:α→β} {d:α} {i:Nat} (h:i<l.length):(l.take i).map F++[F (l.getD i d)]=(l.take (i+1)).map F:=by
  rw [←take_app (d:=d) h,List.map_append];rfl
abbrev eM:=@map_take_app
def sumN (f:Nat→Int):Nat→Int
  | 0=>0
  | n+1=>sumN f n+f n
theorem sumN_congr {f g:Nat→Int}:∀{n},(∀i,i<n→f i=g i)→sumN f n=sumN g n
  | 0,_=>rfl
  | n+1,h=>by rw [sumN,sumN,sumN_congr (fun i hi=>h i (by omega)),h n (by omega)]
theorem mul_sumN (f:Nat→Int) (c:Int):∀n,c*sumN f n=sumN (fun i=>c*f i) n
  | 0=>by simp [sumN]
  | n+1=>by rw [sumN,sumN,Int.mul_add,mul_sumN f c n]
theorem sumN_add (f g:Nat→Int):∀n,sumN (fun i=>f i+g i) n=sumN f n+sumN g n
  | 0=>rfl
  | n+1=>by simp only [sumN];rw [sumN_add f g n];omega
theorem sumN_zero:∀n,sumN (fun _=>0) n=0
  | 0=>rfl
  | n+1=>by rw [sumN,sumN_zero n];rfl
theorem dotN_sum (u v:List Int):∀n,dotN u v n=sumN (fun k=>u.getD k 0*v.getD k 0) n
  | 0=>rfl
  | n+1=>by rw [dotN,sumN,dotN_sum u v n]
theorem combN_sum (x:List Int) (b:List (List Int)) (k):∀n,combN x b k n=sumN (fun i=>x.getD i 0*(b.getD i []).getD k 0) n
  | 0=>rfl
  | n+1=>by rw [combN,sumN,combN_sum x b k n]
theorem uE_congr {G H:Nat→Nat→Int} {n:Nat} (h:∀i j,i<n→j<n→G i j=H i j):∀k i j,k≤n→i<n→j<n→uE G k i j=uE H k i j∧uD G k=uD H k
  | 0,i,j,_,hi,hj=>⟨h i j hi hj,rfl⟩
  | k+1,i,j,hk,hi,hj=>by
    have e1:=uE_congr h k i j (by omega) hi hj
    have e2:=(uE_congr h k i k (by omega) hi (by omega)).1
    have e3:=(uE_congr h k j k (by omega) hj (by omega)).1
    have e4:=(uE_congr h k k k (by omega) (by omega) (by omega)).1
    have e5:uD G (k+1)=uD H (k+1):=e4
    exact ⟨by rw [uE_succ,uE_succ,e5,e1.1,e2,e3,e1.2],e5⟩
theorem uD_congr {G H:Nat→Nat→Int} {n:Nat} (h:∀i j,i<n→j<n→G i j=H i j) {k} (hk:k≤n):uD G k=uD H k:=by
  cases k with
  | zero=>rfl
  | succ k=>exact (uE_congr h k k k (by omega) (by omega) (by omega)).1
theorem getD_map {α β:Type} (F:α→β) (l:List α) (d:α) (e:β) {i:Nat} (h:i<l.length):(l.map F).getD i e=F (l.getD i d):=by
  rw [gde _ e (by simpa using h),gde _ d h];simp
theorem slslC_Z {xs:List (List Int)} (h:∀r∈xs,∀x∈r,Sm x):VP.le (kMC.is xs) (kMZ.is xs):=
  is_kd rfl fun m cs hx=>sl_kd (f:=fun r s=>r=s∧∀x∈r,Sm x) (fun m cs r s hrs hr=>by
    obtain ⟨rfl,h2⟩:=hrs
    exact sl_kd (f:=fun x y=>x=y∧Sm x) (fun m cs x y hxy hx=>by obtain ⟨rfl,h4⟩:=hxy;exact kC_Zat h4 hx) (F2.same h2) hr) (F2.same h) hx
abbrev dQ:=@slslC_Z
theorem SzM_mem {n b} (h:SzM n b) {r:List Int} (hr:r∈b):SzL n r:=by
  obtain ⟨i,hi,rfl⟩:=mem_getD [] hr
  exact h i
theorem SzM.sm {n b} (h:SzM n b) (hn:n≤549755813888):∀r∈b,∀x∈r,Sm x:=fun r hr=>(SzM_mem h hr).sm hn
end Fw
namespace Fw
open Go Go.Proofs
theorem c_law22_eqs (x y:List Int):Fn Tryz.prog 98 [kVC.is x,kVC.is y] (kBool.is (decide (x=y))):=by
 refine aK Tryz.func98 E E fun m w=>aR (i:=0) E bu fun hB=>Cr<|Wa E<|Wn<|aa<|Cr<|Wm E<|Ws (aA E U23)<|Wm E<|Ws (aA E U23)<|Ws (bt E E)<|Wn ?_
 refine aB E (fun h_t10=>?_)<|fun h_t10=>?_
 ·
  refine Cr<|Wa E<|Wn<|am<|aQ<|tl 4 E (y:=(decide (x=y))) (by rw [eq_comm,decide_eq_false_iff_not];intro e;exact h_t10 (by rw [e])) ?_
  exact Qd E (ar E ak) ⟨E,E⟩
 ·
  refine Ck<|aa<|Cr<|Wa E<|Wn<|aw<|bN (fun (i:Nat)=>i≤x.length∧x.take i=y.take i) (fun (i:Nat)=>[(0,kVC.is x),(1,kVC.is y),(5,kN6.is (i:Int))]) (fun (i:Nat)=>[]) (fun (i:Nat)=>x.length-i) 0 ⟨Nat.zero_le _,E⟩ (Z E (Z E (ao E (ag (y:=(0:Int)) (by omega)) ai))) (au _) ?_
  intro i ⟨hi,ht⟩
  refine aa<|Cr<|Wm E<|Wm E<|Ws (aA E U23)<|Ws (aS E E)<|Wn ?_
  refine aB E (fun h_t14=>?_)<|fun h_t14=>?_
  ·
   refine Ck<|aa<|aw<|aa ?_
   refine ba (Γ:=[.fr (kVC.is x),.fr (kN6.is (i:Int)),.fr (VP.pim kC (x.getD i 0)),.fr (kC.is (x.getD i 0)),.fr (kVC.is y),.fr (kN6.is (i:Int)),.fr (VP.pim kC (y.getD i 0)),.fr (kC.is (y.getD i 0)),.fr (kBool.is (decide ((canon (x.getD i 0))=(canon (y.getD i 0))))),.fr (kBool.is (!(decide ((canon (x.getD i 0))=(canon (y.getD i 0))))))]) (om E E (om E E (J E (fun N=>aT i E E U23 ab E (v:=(x.getD i 0)) (gd 0 (by omega))) (J E (fun N=>aO E ab) (om E E (om E E (J E (fun N=>aT i E E U23 ab E (v:=(y.getD i 0)) (gd 0 (by omega))) (J E (fun N=>aO E ab) (J E (fun N=>aF fn166 (aq E (kC_I _) (aq E (kC_I _) ax)) (c_law22_eq (canon (x.getD i 0)) (canon (y.getD i 0)))) (J E (fun N=>di E) oz))))))))))<|fun σ1=>?_
   refine Wn ?_
   refine dx E (fun h_t26=>?_)<|fun h_t26=>?_
   ·
    refine Cr<|Wa E<|Wn<|am<|bE<|aQ<|aQ<|bE<|aQ<|tl 4 E (y:=(decide (x=y))) (by rw [eq_comm,decide_eq_false_iff_not];intro e;exact canon_ned h_t26 (by rw [e])) ?_
    exact Qd E (ar E ak) ⟨E,E⟩
   ·
    refine cc<|Qb<|ah<|Wm E<|Ws (aI E E (c:=((i:Int)+1)) (ay (by omega)))<|Wa E<|aj ?_
    exact bG (i+1) (by omega) ⟨by omega,eq_take (d:=0) (by omega) (by omega) ht (canon_eqd h_t26)⟩ (Z E (Z E (ao E (ag (y:=(((i+1):Nat):Int)) (by omega)) ai)))<|au _
  ·
   refine Ex<|Cr<|Wa E<|Wn<|am<|tl 4 E (y:=(decide (x=y))) (by rw [eq_comm,decide_eq_true_iff];exact eq_full (i:=i) (by omega) (by omega) ht) ?_
   exact Qd E (ar E ak) ⟨E,E⟩
theorem c_law22_eqm (x y:List (List Int)):Fn Tryz.prog 31 [kMC.is x,kMC.is y] (kBool.is (decide (x=y))):=by
 refine aK Tryz.func31 E E fun m w=>aR (i:=0) E bu fun hB=>Cr<|Wa E<|Wn<|aa<|Cr<|Wm E<|Ws (aA E U22)<|Wm E<|Ws (aA E U22)<|Ws (bt E E)<|Wn ?_
 refine aB E (fun h_t10=>?_)<|fun h_t10=>?_
 ·
  refine Cr<|Wa E<|Wn<|am<|aQ<|tl 4 E (y:=(decide (x=y))) (by rw [eq_comm,decide_eq_false_iff_not];intro e;exact h_t10 (by rw [e])) ?_
  exact Qd E (ar E ak) ⟨E,E⟩
 ·
  refine Ck<|aa<|Cr<|Wa E<|Wn<|aw<|bN (fun (i:Nat)=>i≤x.length∧x.take i=y.take i) (fun (i:Nat)=>[(0,kMC.is x),(1,kMC.is y),(5,kN6.is (i:Int))]) (fun (i:Nat)=>[]) (fun (i:Nat)=>x.length-i) 0 ⟨Nat.zero_le _,E⟩ (Z E (Z E (ao E (ag (y:=(0:Int)) (by omega)) ai))) (au _) ?_
  intro i ⟨hi,ht⟩
  refine aa<|Cr<|Wm E<|Wm E<|Ws (aA E U22)<|Ws (aS E E)<|Wn ?_
  refine aB E (fun h_t14=>?_)<|fun h_t14=>?_
  ·
   refine Ck<|aa<|aw<|aa ?_
   refine ba (Γ:=[.fr (kMC.is x),.fr (kN6.is (i:Int)),.fr (VP.pim kVC (x.getD i [])),.fr (kVC.is (x.getD i [])),.fr (kMC.is y),.fr (kN6.is (i:Int)),.fr (VP.pim kVC (y.getD i [])),.fr (kVC.is (y.getD i [])),.fr (kBool.is (decide ((x.getD i [])=(y.getD i [])))),.fr (kBool.is (!(decide ((x.getD i [])=(y.getD i [])))))]) (om E E (om E E (J E (fun N=>aT i E E U22 aE E (v:=(x.getD i [])) (gd [] (by omega))) (J E (fun N=>aO E aE) (om E E (om E E (J E (fun N=>aT i E E U22 aE E (v:=(y.getD i [])) (gd [] (by omega))) (J E (fun N=>aO E aE) (J E (fun N=>f2 fn98 E E (c_law22_eqs (x.getD i []) (y.getD i []))) (J E (fun N=>di E) oz))))))))))<|fun σ1=>?_
   refine Wn ?_
   refine dx E (fun h_t26=>?_)<|fun h_t26=>?_
   ·
    refine Cr<|Wa E<|Wn<|am<|bE<|aQ<|aQ<|bE<|aQ<|tl 4 E (y:=(decide (x=y))) (by rw [eq_comm,decide_eq_false_iff_not];intro e;simp [e] at h_t26) ?_
    exact Qd E (ar E ak) ⟨E,E⟩
   ·
    refine cc<|Qb<|ah<|Wm E<|Ws (aI E E (c:=((i:Int)+1)) (ay (by omega)))<|Wa E<|aj ?_
    exact bG (i+1) (by omega) ⟨by omega,eq_take (d:=[]) (by omega) (by omega) ht (by simpa using h_t26)⟩ (Z E (Z E (ao E (ag (y:=(((i+1):Nat):Int)) (by omega)) ai)))<|au _
  ·
   refine Ex<|Cr<|Wa E<|Wn<|am<|tl 4 E (y:=(decide (x=y))) (by rw [eq_comm,decide_eq_true_iff];exact eq_full (i:=i) (by omega) (by omega) ht) ?_
   exact Qd E (ar E ak) ⟨E,E⟩
theorem c_mat_eachRR (fid:FuncId) (caps:List VP) (F:List Int→List Int) (l:List (List Int)) (hok:FnOk Tryz.prog fid) (hF:∀x,x∈l→Fn Tryz.prog fid (kVZ.is x::caps) (kVC.is (F x))):Fn Tryz.prog 223 [kMZ.is l,VP.clo fid caps] (kMC.is (l.map F)):=by
 refine aK Tryz.func223 E E fun m w=>aR (i:=0) E bu fun hB=>Cr<|Wa E<|Wr<|Wm E<|Ws (aA E U22)<|WP.mk0 l.length .n E E E (by omega) U22 c9 z23_sl_C fun v1=>Wa E<|Wn<|aa<|Cr<|Wm E<|Ws (aA E U22)<|Wm E<|Wn<|aw ?_
 refine bX (fun (i:Nat) (v:Value)=>i≤l.length) (fun (i:Nat) (v:Value)=>[(0,kMZ.is l),(1,VP.clo fid caps),(5,VP.ex v),(11,kMZ.is l),(12,kN6.is (l.length:Int)),(13,kN6.is (i:Int))]) (fun (i:Nat) (v:Value)=>[OB.row v 23 kVC ((l.take i).map F)]) (fun (i:Nat) (v:Value)=>l.length-i) 0 v1 (by omega) (af E E E E (Z E (ao E (ag (y:=(0:Int)) (by rfl)) ai))) (aW (OS.keepLe (a9 (by rfl)) OS.nil)) ?_
 intro i v hi
 refine Cr<|Ws (aS E E)<|Wn<|aa ?_
 refine aB E (fun h_t14=>?_)<|fun h_t14=>?_
 ·
  refine Ck<|aa<|aw<|Cr<|Ws (aT i E E U22 aE E (v:=(l.getD i [])) (gd [] (by omega)))<|Ws (aO E aE)<|Wa E<|Wn<|ah<|Wm E<|Wm E<|Wm E<|Ws (ee E hok (aX E ax) (hF _ (eE [] (by omega))))<|Ws (bC U22 c9 (b9 E bw) E (by decide))<|bL 0 .n E E E Lr U22 c9 (by simp;omega) fun v2=>Wa E<|aj<|Qb<|ah<|Ws (aI E E (c:=((i:Int)+1)) (ay (by omega))) ?_
  refine Wm E<|aj<|tr 0 E (y:=((l.take (i+1)).map F)) (eM (by omega)) ?_
  exact bP (i+1) v2 (by omega) (by omega) (af E E E E (Z E (ao E (ag (y:=(((i+1):Nat):Int)) (by rfl)) ai)))<|au _
 ·
  refine Ex<|Cr<|Wm E<|Wa E<|Wn<|am<|bJ 0 E (kp 0 E (kp 1 E (.hit (i:=4) E (.hit (i:=5) E (kp 11 E (kp 12 E (kp 13 E (kp 14 E (.hit (i:=24) E .nil)))))))))<|tl 4 E (y:=(l.map F)) (by rw [List.take_of_length_le (by omega)]) ?_
  exact Qd E (ar E ak) ⟨E,E⟩
end Fw
namespace Fw
open Go
theorem gsE_succ (G:Nat→Nat→Rat) (k x y):gsE G (k+1) x y=gsE G k x y-gsE G k x k*gsE G k k y/gsE G k k k:=rfl
def cI (i:Nat) (t:Rat) (x:Nat):Rat:=if x=i then t else 0
theorem cI_ne {i x t} (h:x≠i):cI i t x=0:=if_neg h
theorem cI_eq {i t}:cI i t i=t:=if_pos rfl
def rowQ (G:Nat→Nat→Rat) (i j:Nat) (t:Rat):Nat→Nat→Rat:=fun x y=>G x y+cI i t x*G j y+cI i t y*G x j+cI i t x*cI i t y*G j j
theorem gsE_row {G:Nat→Nat→Rat} {i j:Nat} {t:Rat} (hij:j<i):∀k,k≤j→(∀l,l<k→gsE G l l l≠0)→∀x y,gsE (rowQ G i j t) k x y=gsE G k x y+cI i t x*gsE G k j y+cI i t y*gsE G k x j+cI i t x*cI i t y*gsE G k j j
  | 0,_,_,x,y=>rfl
  | k+1,hk,hn,x,y=>by
    have ih:=gsE_row (G:=G) (t:=t) hij k (by omega) (fun l hl=>hn l (by omega))
    have h0:=hn k (by omega)
    have ck:cI i t k=0:=cI_ne (by omega)
    rw [gsE_succ,ih x y,ih x k,ih k y,ih k k,ck,gsE_succ,gsE_succ,gsE_succ,gsE_succ]
    grind
theorem gsE_row_hi {G:Nat→Nat→Rat} {i j:Nat} {t:Rat} (hij:j<i):∀k,j<k→(∀l,l<k→gsE G l l l≠0)→∀x y,gsE (rowQ G i j t) k x y=gsE G k x y
  | 0,hk,_,x,y=>absurd hk (by omega)
  | k+1,hk,hn,x,y=>by
    by_cases e:j=k
    · subst e
      have ih:=gsE_row (G:=G) (t:=t) hij j (Nat.le_refl _) (fun l hl=>hn l (by omega))
      have h0:=hn j (by omega)
      have cj:cI i t j=0:=cI_ne (by omega)
      rw [gsE_succ,ih x y,ih x j,ih j y,ih j j,cj,gsE_succ]
      grind
    · have ih:=gsE_row_hi (G:=G) (t:=t) hij k (by omega) (fun l hl=>hn l (by omega))
      rw [gsE_succ,ih x y,ih x k,ih k y,ih k k,gsE_succ]
theorem gsE_row_piv {G:Nat→Nat→Rat} {i j:Nat} {t:Rat} (hij:j<i) (k:Nat) (hn:∀l,l<k→gsE G l l l≠0):gsE (rowQ G i j t) k k k=gsE G k k k:=by
  by_cases h:k≤j
  · rw [gsE_row hij k h hn,cI_ne (show k≠i by omega)];grind
  · exact gsE_row_hi hij k (by omega) hn k k
theorem gsD_row {G:Nat→Nat→Rat} {i j:Nat} {t:Rat} (hij:j<i):∀k,(∀l,l<k→gsE G l l l≠0)→gsD (rowQ G i j t) k=gsD G k
  | 0,_=>rfl
  | k+1,hn=>by
    show gsD (rowQ G i j t) k*gsE (rowQ G i j t) k k k=gsD G k*gsE G k k k
    rw [gsD_row hij k (fun l hl=>hn l (by omega)),gsE_row_piv hij k (fun l hl=>hn l (by omega))]
def sg (p x:Nat):Nat:=if x=p then p+1 else if x=p+1 then p else x
theorem sg_p (p):sg p p=p+1:=if_pos rfl
theorem sg_q (p):sg p (p+1)=p:=by unfold sg;rw [if_neg (by omega),if_pos rfl]
theorem sg_ne {p x} (h:x≠p) (h2:x≠p+1):sg p x=x:=by unfold sg;rw [if_neg h,if_neg h2]
def swpQ (G:Nat→Nat→Rat) (p:Nat):Nat→Nat→Rat:=fun x y=>G (sg p x) (sg p y)
theorem gsE_swp_lo {G:Nat→Nat→Rat} {p:Nat}:∀k,k≤p→∀x y,gsE (swpQ G p) k x y=gsE G k (sg p x) (sg p y)
  | 0,_,x,y=>rfl
  | k+1,hk,x,y=>by
    have ih:=gsE_swp_lo (G:=G) (p:=p) k (by omega)
    rw [gsE_succ,ih x y,ih x k,ih k y,ih k k,gsE_succ,sg_ne (show k≠p by omega) (by omega)]
theorem gsE_swp_1 {G:Nat→Nat→Rat} {p:Nat} (x y):gsE (swpQ G p) (p+1) x y=gsE G p (sg p x) (sg p y)-gsE G p (sg p x) (p+1)*gsE G p (p+1) (sg p y)/gsE G p (p+1) (p+1):=by
  rw [gsE_succ,gsE_swp_lo p (Nat.le_refl _),gsE_swp_lo p (Nat.le_refl _),gsE_swp_lo p (Nat.le_refl _),gsE_swp_lo p (Nat.le_refl _),sg_p]
theorem inv_div {D c:Rat} (hc:c≠0) (hD:D≠0):(D/c)⁻¹=c/D:=Rat.inv_eq_of_mul_eq_one (by grind)
theorem schur2_ring (A x1 x2 y1 y2 a b c u v w:Rat) (hu:c*u=1) (hv:a*v=1) (hw:(a*c-b*b)*w=1):A-x2*y2*u-(x1-x2*b*u)*(y1-b*y2*u)*(c*w)=A-x1*y1*v-(x2-x1*b*v)*(y2-b*y1*v)*(a*w):=by
  grind
theorem schur2 {A x1 x2 y1 y2 a b c:Rat} (h1:a≠0) (h2:c≠0) (h3:c-b*b/a≠0):A-x2*y2/c-(x1-x2*b/c)*(y1-b*y2/c)/(a-b*b/c)=A-x1*y1/a-(x2-x1*b/a)*(y2-b*y1/a)/(c-b*b/a):=by
  have h4:a*c-b*b≠0:=by
    intro e
    apply h3
    have:c-b*b/a=(a*c-b*b)/a:=by grind
    rw [this,e];grind
  have e1:a-b*b/c=(a*c-b*b)/c:=by grind
  have e2:c-b*b/a=(a*c-b*b)/a:=by grind
  have i1:=inv_div h2 h4
  have i2:=inv_div h1 h4
  have hw:(a*c-b*b)*(a*c-b*b)⁻¹=1:=Rat.mul_inv_cancel _ h4
  have hu:c*c⁻¹=1:=Rat.mul_inv_cancel _ h2
  have hv:a*a⁻¹=1:=Rat.mul_inv_cancel _ h1
  have key:=schur2_ring A x1 x2 y1 y2 a b c c⁻¹ a⁻¹ (a*c-b*b)⁻¹ hu hv hw
  rw [e1,e2,Rat.div_def _ ((a*c-b*b)/c),Rat.div_def _ ((a*c-b*b)/a),i1,i2]
  simp only [Rat.div_def]
  exact key
theorem gsE_swp_2 {G:Nat→Nat→Rat} {p:Nat} (hs:∀i j,G i j=G j i) (h1:gsE G p p p≠0) (h2:gsE G p (p+1) (p+1)≠0) (h3:gsE G (p+1) (p+1) (p+1)≠0) {x y} (hx:p+1<x) (hy:p+1<y):gsE (swpQ G p) (p+2) x y=gsE G (p+2) x y:=by
  have s:=gsE_sym hs p
  rw [gsE_succ (swpQ G p) (p+1),gsE_swp_1,gsE_swp_1,gsE_swp_1,gsE_swp_1,sg_q,sg_ne (show x≠p by omega) (by omega),sg_ne (show y≠p by omega) (by omega)]
  rw [gsE_succ] at h3
  rw [gsE_succ G (p+1),gsE_succ G p,gsE_succ G p,gsE_succ G p,gsE_succ G p]
  rw [s p (p+1)] at h3
  rw [s p y,s (p+1) y,s p (p+1)]
  generalize gsE G p x y=A at *
  generalize gsE G p x p=x1 at *
  generalize gsE G p x (p+1)=x2 at *
  generalize gsE G p y p=y1 at *
  generalize gsE G p y (p+1)=y2 at *
  generalize gsE G p p p=a at *
  generalize gsE G p (p+1) p=b at *
  generalize gsE G p (p+1) (p+1)=c at *
  exact schur2 h1 h2 h3
theorem gsE_swp_hi {G:Nat→Nat→Rat} {p:Nat} (hs:∀i j,G i j=G j i) (h1:gsE G p p p≠0) (h2:gsE G p (p+1) (p+1)≠0) (h3:gsE G (p+1) (p+1) (p+1)≠0):∀k,p+2≤k→∀x y,k≤x→k≤y→gsE (swpQ G p) k x y=gsE G k x y
  | 0,hk,_,_,_,_=>absurd hk (by omega)
  | k+1,hk,x,y,hx,hy=>by
    by_cases e:k=p+1
    · subst e;exact gsE_swp_2 hs h1 h2 h3 (by omega) (by omega)
    · have ih:=gsE_swp_hi hs h1 h2 h3 k (by omega)
      rw [gsE_succ,ih x y (by omega) (by omega),ih x k (by omega) (Nat.le_refl _),ih k y (Nat.le_refl _) (by omega),ih k k (Nat.le_refl _) (Nat.le_refl _),gsE_succ]
theorem uE_q {G:Nat→Nat→Int} (hs:SymG G) {k:Nat} (hp:PosU G k) {i j:Nat} (hi:k≤i) (hj:k≤j):(uE G k i j:Rat)=gsD (qG G) k*gsE (qG G) k i j:=(ugs hs k hp).e i j hi hj
theorem uD_q {G:Nat→Nat→Int} (hs:SymG G) {k:Nat} (hp:PosU G k):(uD G k:Rat)=gsD (qG G) k:=(ugs hs k hp).d
theorem piv_pos {G:Nat→Nat→Int} (hs:SymG G) {k n:Nat} (hp:PosU G n) (hk:k<n):0<gsE (qG G) k k k:=(gsE_pos hs (hp.le (by omega))).2 (hp k hk)
theorem piv_ne {G:Nat→Nat→Int} (hs:SymG G) {k n:Nat} (hp:PosU G n) (hk:k<n):gsE (qG G) k k k≠0:=fun e=>by
  have:=piv_pos hs hp hk;rw [e] at this;exact absurd this (by decide)
theorem posU_of {G:Nat→Nat→Int} (hs:SymG G):∀n,(∀k,k<n→0<gsE (qG G) k k k)→PosU G n
  | 0,_=>fun l hl=>absurd hl (by omega)
  | n+1,h=>by
    have ih:=posU_of hs n (fun k hk=>h k (by omega))
    intro l hl
    by_cases e:l=n
    · subst e;exact (gsE_pos hs ih).1 (h l (by omega))
    · exact ih l (by omega)
def rowI (G:Nat→Nat→Int) (i j:Nat) (q:Int):Nat→Nat→Int:=fun x y=>G x y+(if x=i then q else 0)*G j y+(if y=i then q else 0)*G x j+(if x=i then q else 0)*(if y=i then q else 0)*G j j
theorem qG_row (G i j q):qG (rowI G i j q)=rowQ (qG G) i j (q:Rat):=by
  funext x y
  unfold qG rowI rowQ cI
  by_cases hx:x=i <;> by_cases hy:y=i <;> simp [hx,hy,Rat.intCast_add,Rat.intCast_mul] <;> grind
theorem rowI_sym {G i j q} (h:SymG G):SymG (rowI G i j q):=fun x y=>by
  unfold rowI;rw [h x y,h j y,h x j]
  by_cases hx:x=i <;> by_cases hy:y=i <;> simp [hx,hy] <;> omega
section
variable {G:Nat→Nat→Int} {i j n:Nat} {q:Int}
theorem rowI_pos (hs:SymG G) (hp:PosU G n) (hij:j<i):PosU (rowI G i j q) n:=posU_of (rowI_sym hs) n fun k hk=>by
  rw [qG_row,gsE_row_piv hij k (fun l hl=>piv_ne hs hp (by omega))];exact piv_pos hs hp hk
theorem rowI_uD (hs:SymG G) (hp:PosU G n) (hij:j<i) {k:Nat} (hk:k≤n):uD (rowI G i j q) k=uD G k:=by
  have h1:=uD_q (rowI_sym (i:=i) (j:=j) (q:=q) hs) ((rowI_pos hs hp hij).le hk)
  rw [qG_row,gsD_row hij k (fun l hl=>piv_ne hs hp (by omega)),←uD_q hs (hp.le hk)] at h1
  exact_mod_cast h1
theorem rowI_lo (hs:SymG G) (hp:PosU G n) (hij:j<i) (hi:i<n) {k:Nat} (hk:k<j):uE (rowI G i j q) k i k=uE G k i k+q*uE G k j k:=by
  have h1:=uE_q (rowI_sym (i:=i) (j:=j) (q:=q) hs) ((rowI_pos hs hp hij).le (show k≤n by omega)) (show k≤i by omega) (Nat.le_refl k)
  rw [qG_row,gsD_row hij k (fun l hl=>piv_ne hs hp (by omega)),gsE_row hij k (by omega) (fun l hl=>piv_ne hs hp (by omega)),cI_eq,cI_ne (show k≠i by omega)] at h1
  have h2:=uE_q hs (hp.le (show k≤n by omega)) (show k≤i by omega) (Nat.le_refl k)
  have h3:=uE_q hs (hp.le (show k≤n by omega)) (show k≤j by omega) (Nat.le_refl k)
  have h4:(uE (rowI G i j q) k i k:Rat)=((uE G k i k+q*uE G k j k:Int):Rat):=by
    rw [h1,Rat.intCast_add,Rat.intCast_mul,h2,h3];grind
  exact_mod_cast h4
theorem rowI_at (hs:SymG G) (hp:PosU G n) (hij:j<i) (hi:i<n):uE (rowI G i j q) j i j=uE G j i j+q*uD G (j+1):=by
  have h1:=uE_q (rowI_sym (i:=i) (j:=j) (q:=q) hs) ((rowI_pos hs hp hij).le (show j≤n by omega)) (show j≤i by omega) (Nat.le_refl j)
  rw [qG_row,gsD_row hij j (fun l hl=>piv_ne hs hp (by omega)),gsE_row hij j (Nat.le_refl _) (fun l hl=>piv_ne hs hp (by omega)),cI_eq,cI_ne (show j≠i by omega)] at h1
  have h2:=uE_q hs (hp.le (show j≤n by omega)) (show j≤i by omega) (Nat.le_refl j)
  have h3:=uE_q hs (hp.le (show j≤n by omega)) (Nat.le_refl j) (Nat.le_refl j)
  have h4:(uE (rowI G i j q) j i j:Rat)=((uE G j i j+q*uE G j j j:Int):Rat):=by
    rw [h1,Rat.intCast_add,Rat.intCast_mul,h2,h3];grind
  exact_mod_cast h4
theorem rowI_hi (hs:SymG G) (hp:PosU G n) (hij:j<i) {k x:Nat} (hk:j<k) (hkx:k≤x) (hx:x<n):uE (rowI G i j q) k x k=uE G k x k:=by
  have h1:=uE_q (rowI_sym (i:=i) (j:=j) (q:=q) hs) ((rowI_pos hs hp hij).le (show k≤n by omega)) hkx (Nat.le_refl k)
  rw [qG_row,gsD_row hij k (fun l hl=>piv_ne hs hp (by omega)),gsE_row_hi hij k hk (fun l hl=>piv_ne hs hp (by omega)),←uE_q hs (hp.le (show k≤n by omega)) hkx (Nat.le_refl k)] at h1
  exact_mod_cast h1
theorem rowI_ne (hs:SymG G) (hp:PosU G n) (hij:j<i) {k x:Nat} (hxi:x≠i) (hkx:k≤x) (hx:x<n):uE (rowI G i j q) k x k=uE G k x k:=by
  by_cases hk:j<k
  · exact rowI_hi hs hp hij hk hkx hx
  · have h1:=uE_q (rowI_sym (i:=i) (j:=j) (q:=q) hs) ((rowI_pos hs hp hij).le (show k≤n by omega)) hkx (Nat.le_refl k)
    rw [qG_row,gsD_row hij k (fun l hl=>piv_ne hs hp (by omega)),gsE_row hij k (by omega) (fun l hl=>piv_ne hs hp (by omega)),cI_ne hxi,cI_ne (show k≠i by omega)] at h1
    have h2:=uE_q hs (hp.le (show k≤n by omega)) hkx (Nat.le_refl k)
    have h4:(uE (rowI G i j q) k x k:Rat)=(uE G k x k:Rat):=by rw [h1,h2];grind
    exact_mod_cast h4
end
def swpI (G:Nat→Nat→Int) (p:Nat):Nat→Nat→Int:=fun x y=>G (sg p x) (sg p y)
theorem qG_swp (G p):qG (swpI G p)=swpQ (qG G) p:=rfl
theorem swpI_sym {G p} (h:SymG G):SymG (swpI G p):=fun x y=>h _ _
section
variable {G:Nat→Nat→Int} {p n:Nat}
theorem swp_c (hs:SymG G) (hp:PosU G n) (h:p+1<n):0<gsE (qG G) p (p+1) (p+1)∧gsE (qG G) p p p*gsE (qG G) (p+1) (p+1) (p+1)=gsE (qG G) p p p*gsE (qG G) p (p+1) (p+1)-gsE (qG G) p (p+1) p*gsE (qG G) p (p+1) p:=by
  have h1:=piv_pos hs hp (show p<n by omega)
  have h2:=piv_pos hs hp h
  have h3:=piv_ne hs hp (show p<n by omega)
  have hsy:=gsE_sym (fun i j=>by unfold qG;rw [hs i j]:∀i j,qG G i j=qG G j i) p p (p+1)
  rw [gsE_succ] at h2 ⊢
  rw [hsy] at h2 ⊢
  generalize gsE (qG G) p p p=a at *
  generalize gsE (qG G) p (p+1) p=b at *
  generalize gsE (qG G) p (p+1) (p+1)=c at *
  refine ⟨?_,by grind⟩
  have h4:0≤b*b/a:=by
    rw [Rat.div_def]
    exact Rat.mul_nonneg (by rcases Rat.le_total (a:=0) (b:=b) with hb | hb;exact Rat.mul_nonneg hb hb;have:=Rat.mul_nonneg (a:=-b) (b:=-b) (by grind) (by grind);grind) (Rat.le_of_lt (Rat.inv_pos.2 h1))
  grind
theorem swp_piv (hs:SymG G) (hp:PosU G n) (h:p+1<n):∀k,k<n→0<gsE (qG (swpI G p)) k k k:=by
  intro k hk
  rw [qG_swp]
  have hq:∀i j,qG G i j=qG G j i:=fun i j=>by unfold qG;rw [hs i j]
  obtain ⟨c1,c2⟩:=swp_c hs hp h
  have a1:=piv_pos hs hp (show p<n by omega)
  have b1:=piv_pos hs hp h
  have cn:gsE (qG G) p (p+1) (p+1)≠0:=fun e=>by rw [e] at c1;exact absurd c1 (by decide)
  rcases Nat.lt_trichotomy k p with h1 | h1 | h1
  · rw [gsE_swp_lo k (by omega),sg_ne (by omega) (by omega)];exact piv_pos hs hp hk
  · rw [h1,gsE_swp_lo p (Nat.le_refl _),sg_p];exact c1
  · by_cases h2:k=p+1
    · rw [h2,gsE_swp_1,sg_q,gsE_sym hq p p (p+1)]
      have e:gsE (qG G) p p p-gsE (qG G) p (p+1) p*gsE (qG G) p (p+1) p/gsE (qG G) p (p+1) (p+1)=gsE (qG G) p p p*gsE (qG G) (p+1) (p+1) (p+1)/gsE (qG G) p (p+1) (p+1):=by
        rw [c2];grind
      rw [e,Rat.div_def]
      exact Rat.mul_pos (Rat.mul_pos a1 b1) (Rat.inv_pos.2 c1)
    · rw [gsE_swp_hi hq (piv_ne hs hp (by omega)) cn (piv_ne hs hp h) k (by omega) k k (Nat.le_refl _) (Nat.le_refl _)]
      exact piv_pos hs hp hk
theorem swpI_pos (hs:SymG G) (hp:PosU G n) (h:p+1<n):PosU (swpI G p) n:=posU_of (swpI_sym hs) n (swp_piv hs hp h)
theorem gsD_swp_lo:∀k,k≤p→gsD (qG (swpI G p)) k=gsD (qG G) k
  | 0,_=>rfl
  | k+1,hk=>by
    show gsD (qG (swpI G p)) k*gsE (qG (swpI G p)) k k k=gsD (qG G) k*gsE (qG G) k k k
    rw [gsD_swp_lo k (by omega),qG_swp,gsE_swp_lo k (by omega),sg_ne (by omega) (by omega)]
theorem gsD_swp_1:gsD (qG (swpI G p)) (p+1)=gsD (qG G) p*gsE (qG G) p (p+1) (p+1):=by
  show gsD (qG (swpI G p)) p*gsE (qG (swpI G p)) p p p=_
  rw [gsD_swp_lo p (Nat.le_refl _),qG_swp,gsE_swp_lo p (Nat.le_refl _),sg_p]
theorem gsD_swp_2 (hs:SymG G) (hp:PosU G n) (h:p+1<n):gsD (qG (swpI G p)) (p+2)=gsD (qG G) (p+2):=by
  have hq:∀i j,qG G i j=qG G j i:=fun i j=>by unfold qG;rw [hs i j]
  obtain ⟨c1,c2⟩:=swp_c hs hp h
  have cn:gsE (qG G) p (p+1) (p+1)≠0:=fun e=>by rw [e] at c1;exact absurd c1 (by decide)
  show gsD (qG (swpI G p)) (p+1)*gsE (qG (swpI G p)) (p+1) (p+1) (p+1)=gsD (qG G) p*gsE (qG G) p p p*gsE (qG G) (p+1) (p+1) (p+1)
  rw [gsD_swp_1,qG_swp,gsE_swp_1,sg_q,gsE_sym hq p p (p+1)]
  have e:gsE (qG G) p (p+1) (p+1)*(gsE (qG G) p p p-gsE (qG G) p (p+1) p*gsE (qG G) p (p+1) p/gsE (qG G) p (p+1) (p+1))=gsE (qG G) p p p*gsE (qG G) (p+1) (p+1) (p+1):=by
    rw [c2];grind
  rw [Rat.mul_assoc,e,Rat.mul_assoc]
theorem gsD_swp_hi (hs:SymG G) (hp:PosU G n) (h:p+1<n):∀k,p+2≤k→k≤n→gsD (qG (swpI G p)) k=gsD (qG G) k
  | 0,hk,_=>absurd hk (by omega)
  | k+1,hk,hkn=>by
    by_cases e:k=p+1
    · subst e;exact gsD_swp_2 hs hp h
    · have hq:∀i j,qG G i j=qG G j i:=fun i j=>by unfold qG;rw [hs i j]
      obtain ⟨c1,c2⟩:=swp_c hs hp h
      have cn:gsE (qG G) p (p+1) (p+1)≠0:=fun e=>by rw [e] at c1;exact absurd c1 (by decide)
      show gsD (qG (swpI G p)) k*gsE (qG (swpI G p)) k k k=gsD (qG G) k*gsE (qG G) k k k
      rw [gsD_swp_hi hs hp h k (by omega) (by omega),qG_swp,gsE_swp_hi hq (piv_ne hs hp (by omega)) cn (piv_ne hs hp h) k (by omega) k k (Nat.le_refl _) (Nat.le_refl _)]
theorem swpI_uD (hs:SymG G) (hp:PosU G n) (h:p+1<n) {k:Nat} (hk:k≤n) (hne:k≠p+1):uD (swpI G p) k=uD G k:=by
  have h1:=uD_q (swpI_sym (p:=p) hs) ((swpI_pos hs hp h).le hk)
  have e:gsD (qG (swpI G p)) k=gsD (qG G) k:=by
    by_cases h2:k≤p
    · exact gsD_swp_lo k h2
    · exact gsD_swp_hi hs hp h k (by omega) hk
  rw [e,←uD_q hs (hp.le hk)] at h1
  exact_mod_cast h1
theorem swpI_D (hs:SymG G) (hp:PosU G n) (h:p+1<n):uD (swpI G p) (p+1)*uD G (p+1)=uD G p*uD G (p+2)+uE G p (p+1) p*uE G p (p+1) p:=by
  have h1:=uD_q (swpI_sym (p:=p) hs) ((swpI_pos hs hp h).le (show p+1≤n by omega))
  rw [gsD_swp_1] at h1
  obtain ⟨c1,c2⟩:=swp_c hs hp h
  have d0:=uD_q hs (hp.le (show p≤n by omega))
  have d1:=uD_q hs (hp.le (show p+1≤n by omega))
  have d2:=uD_q hs (hp.le (show p+2≤n by omega))
  have l0:=uE_q hs (hp.le (show p≤n by omega)) (show p≤p+1 by omega) (Nat.le_refl p)
  have g1:gsD (qG G) (p+1)=gsD (qG G) p*gsE (qG G) p p p:=rfl
  have g2:gsD (qG G) (p+2)=gsD (qG G) p*gsE (qG G) p p p*gsE (qG G) (p+1) (p+1) (p+1):=rfl
  have h4:((uD (swpI G p) (p+1)*uD G (p+1):Int):Rat)=((uD G p*uD G (p+2)+uE G p (p+1) p*uE G p (p+1) p:Int):Rat):=by
    rw [Rat.intCast_add,Rat.intCast_mul,Rat.intCast_mul,Rat.intCast_mul,h1,d0,d1,d2,l0,g1,g2]
    grind
  exact_mod_cast h4
theorem swpI_lo (hs:SymG G) (hp:PosU G n) (h:p+1<n) {k x:Nat} (hk:k<p) (hkx:k≤x):uE (swpI G p) k x k=uE G k (sg p x) k:=by
  have h1:=uE_q (swpI_sym (p:=p) hs) ((swpI_pos hs hp h).le (show k≤n by omega)) hkx (Nat.le_refl k)
  have hsg:k≤sg p x:=by unfold sg;split;omega;split <;> omega
  rw [gsD_swp_lo k (by omega),qG_swp,gsE_swp_lo k (by omega),sg_ne (show k≠p by omega) (by omega),←uE_q hs (hp.le (show k≤n by omega)) hsg (Nat.le_refl k)] at h1
  exact_mod_cast h1
theorem swpI_mid (hs:SymG G) (hp:PosU G n) (h:p+1<n):uE (swpI G p) p (p+1) p=uE G p (p+1) p:=by
  have hq:∀i j,qG G i j=qG G j i:=fun i j=>by unfold qG;rw [hs i j]
  have h1:=uE_q (swpI_sym (p:=p) hs) ((swpI_pos hs hp h).le (show p≤n by omega)) (show p≤p+1 by omega) (Nat.le_refl p)
  rw [gsD_swp_lo p (Nat.le_refl _),qG_swp,gsE_swp_lo p (Nat.le_refl _),sg_q,sg_p,gsE_sym hq p p (p+1),←uE_q hs (hp.le (show p≤n by omega)) (show p≤p+1 by omega) (Nat.le_refl p)] at h1
  exact_mod_cast h1
theorem swpI_1 (hs:SymG G) (hp:PosU G n) (h:p+1<n) {x:Nat} (hx:p+1<x):uE (swpI G p) p x p*uD G (p+1)=uD G p*uE G (p+1) x (p+1)+uE G p (p+1) p*uE G p x p:=by
  have hq:∀i j,qG G i j=qG G j i:=fun i j=>by unfold qG;rw [hs i j]
  have h1:=uE_q (swpI_sym (p:=p) hs) ((swpI_pos hs hp h).le (show p≤n by omega)) (show p≤x by omega) (Nat.le_refl p)
  rw [gsD_swp_lo p (Nat.le_refl _),qG_swp,gsE_swp_lo p (Nat.le_refl _),sg_p,sg_ne (show x≠p by omega) (by omega)] at h1
  have an:=piv_ne hs hp (show p<n by omega)
  have d0:=uD_q hs (hp.le (show p≤n by omega))
  have d1:=uD_q hs (hp.le (show p+1≤n by omega))
  have l0:=uE_q hs (hp.le (show p≤n by omega)) (show p≤p+1 by omega) (Nat.le_refl p)
  have l1:=uE_q hs (hp.le (show p≤n by omega)) (show p≤x by omega) (Nat.le_refl p)
  have l2:=uE_q hs (hp.le (show p+1≤n by omega)) (show p+1≤x by omega) (Nat.le_refl (p+1))
  have g1:gsD (qG G) (p+1)=gsD (qG G) p*gsE (qG G) p p p:=rfl
  rw [gsE_succ,gsE_sym hq p p (p+1)] at l2
  have h4:((uE (swpI G p) p x p*uD G (p+1):Int):Rat)=((uD G p*uE G (p+1) x (p+1)+uE G p (p+1) p*uE G p x p:Int):Rat):=by
    rw [Rat.intCast_add,Rat.intCast_mul,Rat.intCast_mul,Rat.intCast_mul,h1,d0,d1,l0,l1,l2,g1]
    grind
  exact_mod_cast h4
theorem swpI_2 (hs:SymG G) (hp:PosU G n) (h:p+1<n) {x:Nat} (hx:p+1<x):uE (swpI G p) (p+1) x (p+1)*uD G (p+1)=uD G (p+2)*uE G p x p-uE G p (p+1) p*uE G (p+1) x (p+1):=by
  have hq:∀i j,qG G i j=qG G j i:=fun i j=>by unfold qG;rw [hs i j]
  have h1:=uE_q (swpI_sym (p:=p) hs) ((swpI_pos hs hp h).le (show p+1≤n by omega)) (show p+1≤x by omega) (Nat.le_refl (p+1))
  rw [gsD_swp_1,qG_swp,gsE_swp_1,sg_q,sg_ne (show x≠p by omega) (by omega)] at h1
  obtain ⟨c1,c2⟩:=swp_c hs hp h
  have cn:gsE (qG G) p (p+1) (p+1)≠0:=fun e=>by rw [e] at c1;exact absurd c1 (by decide)
  have an:=piv_ne hs hp (show p<n by omega)
  have d0:=uD_q hs (hp.le (show p≤n by omega))
  have d1:=uD_q hs (hp.le (show p+1≤n by omega))
  have d2:=uD_q hs (hp.le (show p+2≤n by omega))
  have l0:=uE_q hs (hp.le (show p≤n by omega)) (show p≤p+1 by omega) (Nat.le_refl p)
  have l1:=uE_q hs (hp.le (show p≤n by omega)) (show p≤x by omega) (Nat.le_refl p)
  have l2:=uE_q hs (hp.le (show p+1≤n by omega)) (show p+1≤x by omega) (Nat.le_refl (p+1))
  have g1:gsD (qG G) (p+1)=gsD (qG G) p*gsE (qG G) p p p:=rfl
  have g2:gsD (qG G) (p+2)=gsD (qG G) p*gsE (qG G) p p p*gsE (qG G) (p+1) (p+1) (p+1):=rfl
  rw [gsE_succ,gsE_sym hq p p (p+1)] at l2
  have h4:((uE (swpI G p) (p+1) x (p+1)*uD G (p+1):Int):Rat)=((uD G (p+2)*uE G p x p-uE G p (p+1) p*uE G (p+1) x (p+1):Int):Rat):=by
    rw [Rat.intCast_sub,Rat.intCast_mul,Rat.intCast_mul,Rat.intCast_mul,h1,d1,d2,l0,l1,l2,g1,g2]
    grind
  exact_mod_cast h4
theorem swpI_hi (hs:SymG G) (hp:PosU G n) (h:p+1<n) {k x:Nat} (hk:p+2≤k) (hkx:k≤x) (hx:x<n):uE (swpI G p) k x k=uE G k x k:=by
  have hq:∀i j,qG G i j=qG G j i:=fun i j=>by unfold qG;rw [hs i j]
  obtain ⟨c1,c2⟩:=swp_c hs hp h
  have cn:gsE (qG G) p (p+1) (p+1)≠0:=fun e=>by rw [e] at c1;exact absurd c1 (by decide)
  have h1:=uE_q (swpI_sym (p:=p) hs) ((swpI_pos hs hp h).le (show k≤n by omega)) hkx (Nat.le_refl k)
  rw [gsD_swp_hi hs hp h k hk (by omega),qG_swp,gsE_swp_hi hq (piv_ne hs hp (by omega)) cn (piv_ne hs hp h) k hk x k hkx (Nat.le_refl _),←uE_q hs (hp.le (show k≤n by omega)) hkx (Nat.le_refl k)] at h1
  exact_mod_cast h1
theorem swpI_low (hs:SymG G) (hp:PosU G n) (h:p+1<n) {k x:Nat} (hkx:k≤x) (hx:x<p):uE (swpI G p) k x k=uE G k x k:=by
  rw [swpI_lo hs hp h (by omega) hkx,sg_ne (by omega) (by omega)]
end
abbrev Fq:=Nat→Nat→Rat
def tabR (r n:Nat) (f:Fq):List (List (Int×Int)):=(List.range r).map (fun i=>(List.range n).map (fun k=>rq (f i k)))
theorem tabR_len (r n f):(tabR r n f).length=r:=by simp [tabR]
theorem tabR_row {r n f i} (h:i<r):(tabR r n f).getD i []=(List.range n).map (fun k=>rq (f i k)):=by
  rw [gde _ [] (by rw [tabR_len];exact h)];simp [tabR]
theorem tabR_rlen {r n f i} (h:i<r):((tabR r n f).getD i []).length=n:=by rw [tabR_row h];simp
theorem tabR_at {r n f i k} (h:i<r) (hk:k<n):((tabR r n f).getD i [])[k]?=some (rq (f i k)):=by rw [tabR_row h];simp [hk]
theorem tabR_at2 {r n f i k} (q:Rat) (h:i<r) (hk:k<n) (e:f i k=q):((tabR r n f).getD i [])[k]?=some (rq q):=by rw [←e];exact tabR_at h hk
abbrev dD:=@tabR_at2
theorem tabR_congr {r n} {f g:Fq} (h:∀i k,i<r→k<n→f i k=g i k):tabR r n f=tabR r n g:=
  List.map_congr_left fun i hi=>List.map_congr_left fun k hk=>by rw [h i k (List.mem_range.1 hi) (List.mem_range.1 hk)]
def updF (f:Fq) (i k:Nat) (q:Rat):Fq:=fun a b=>if a=i∧b=k then q else f a b
theorem tabR_set {r n f i k} (q:Rat) (h:i<r) (hk:k<n):(tabR r n f).set i (((tabR r n f).getD i []).set k (rq q))=tabR r n (updF f i k q):=by
  apply List.ext_getElem
  · simp [tabR]
  · intro a h1 h2
    rw [List.getElem_set]
    split
    · rename_i e
      subst e
      rw [tabR_row h]
      apply List.ext_getElem
      · simp [tabR]
      · intro b h3 h4
        simp only [tabR,List.getElem_map,List.getElem_range,List.getElem_set,updF]
        by_cases e:k=b
        · subst e;rw [if_pos rfl,if_pos ⟨trivial,rfl⟩]
        · rw [if_neg e,if_neg (fun x=>e x.2.symm)]
    · rename_i e
      simp only [tabR,List.getElem_map,List.getElem_range,updF]
      apply List.map_congr_left
      intro b hb
      rw [if_neg (fun x=>e x.1.symm)]
def swapF (f:Fq) (p q:Nat):Fq:=fun a b=>if a=p then f q b else if a=q then f p b else f a b
theorem swapF_self (f:Fq) (p:Nat):swapF f p p=f:=by
  funext a b;unfold swapF;by_cases e:a=p
  · subst e;simp
  · simp [e]
theorem tabR_swap {r n f p q} (hp:p<r) (hq:q<r) (hpq:p≠q):((tabR r n f).set p ((tabR r n f).getD q [])).set q ((tabR r n f).getD p [])=tabR r n (swapF f p q):=by
  rw [tabR_row hp,tabR_row hq]
  apply List.ext_getElem
  · simp [tabR]
  · intro a h1 h2
    rw [List.getElem_set]
    by_cases e:q=a
    · subst e
      rw [if_pos rfl]
      simp only [tabR,List.getElem_map,List.getElem_range,swapF]
      simp [Ne.symm hpq]
    · rw [if_neg e,List.getElem_set]
      by_cases e2:p=a
      · subst e2
        rw [if_pos rfl]
        simp [tabR,swapF]
      · rw [if_neg e2]
        simp only [tabR,List.getElem_map,List.getElem_range,swapF]
        have n1:¬a=p:=fun x=>e2 x.symm
        have n2:¬a=q:=fun x=>e x.symm
        simp [n1,n2]
def divF (f:Fq) (top:Nat) (h:Rat) (c0:Nat):Fq:=fun a b=>if a=top∧b<c0 then f a b/h else f a b
theorem divF_0 (f top h):divF f top h 0=f:=by funext a b;simp [divF]
theorem divF_at {f top h c0}:divF f top h c0 top c0=f top c0:=by simp [divF]
theorem divF_upd (f:Fq) (top:Nat) (h:Rat) (c0:Nat):updF (divF f top h c0) top c0 (f top c0/h)=divF f top h (c0+1):=by
  funext a b
  unfold updF divF
  by_cases e:a=top
  · subst e
    by_cases e2:b=c0
    · subst e2;simp
    · simp only [e2,and_false,if_false,true_and]
      by_cases e3:b<c0
      · rw [if_pos e3,if_pos (by omega)]
      · rw [if_neg e3,if_neg (by omega)]
  · simp [e]
def divA (f:Fq) (top:Nat) (h:Rat):Fq:=fun a b=>if a=top then f a b/h else f a b
theorem tabR_div {r n f top h}:tabR r n (divF f top h n)=tabR r n (divA f top h):=tabR_congr fun i k hi hk=>by
  unfold divF divA
  by_cases e:i=top
  · rw [if_pos ⟨e,hk⟩,if_pos e]
  · rw [if_neg (fun x=>e x.1),if_neg e]
def loseF (f:Fq) (i k:Nat) (q:Rat) (c0:Nat):Fq:=fun a b=>if a=i∧b<c0 then f a b-q*f k b else f a b
theorem loseF_0 (f i k q):loseF f i k q 0=f:=by funext a b;simp [loseF]
theorem loseF_at {f i k q c0}:loseF f i k q c0 i c0=f i c0:=by simp [loseF]
theorem loseF_k {f i k q c0 b} (h:i≠k):loseF f i k q c0 k b=f k b:=by unfold loseF;rw [if_neg (fun x=>h x.1.symm)]
theorem loseF_upd (f:Fq) (i k:Nat) (q:Rat) (c0:Nat):updF (loseF f i k q c0) i c0 (f i c0-q*f k c0)=loseF f i k q (c0+1):=by
  funext a b
  unfold updF loseF
  by_cases e:a=i
  · subst e
    by_cases e2:b=c0
    · subst e2;simp
    · simp only [e2,and_false,if_false,true_and]
      by_cases e3:b<c0
      · rw [if_pos e3,if_pos (by omega)]
      · rw [if_neg e3,if_neg (by omega)]
  · simp [e]
def elimF (f:Fq) (top c i0:Nat):Fq:=fun a b=>if a<i0∧a≠top then f a b-f a c*f top b else f a b
theorem elimF_0 (f top c):elimF f top c 0=f:=by funext a b;simp [elimF]
theorem elimF_i {f:Fq} {top c i0 b}:elimF f top c i0 i0 b=f i0 b:=by simp [elimF]
theorem elimF_top {f:Fq} {top c i0 b}:elimF f top c i0 top b=f top b:=by simp [elimF]
theorem elimF_skip {f:Fq} {top c i0} (h:i0=top∨f i0 c=0):elimF f top c i0=elimF f top c (i0+1):=by
  funext a b
  unfold elimF
  by_cases e:a=i0
  · subst e
    rw [if_neg (fun x=>absurd x.1 (Nat.lt_irrefl _))]
    by_cases e2:a=top
    · rw [if_neg (fun x=>x.2 e2)]
    · rw [if_pos ⟨by omega,e2⟩]
      rcases h with h | h
      · exact absurd h e2
      · rw [h];grind
  · by_cases e3:a<i0∧a≠top
    · rw [if_pos e3,if_pos ⟨by omega,e3.2⟩]
    · rw [if_neg e3,if_neg (fun x=>e3 ⟨by omega,x.2⟩)]
theorem elimF_lose {r n:Nat} {f:Fq} {top c i0} (h:i0≠top):tabR r n (loseF (elimF f top c i0) i0 top (elimF f top c i0 i0 c) n)=tabR r n (elimF f top c (i0+1)):=tabR_congr fun a b ha hb=>by
  unfold loseF
  rw [elimF_i,elimF_top]
  by_cases e:a=i0
  · subst e
    rw [if_pos ⟨rfl,hb⟩,elimF_i]
    unfold elimF
    rw [if_pos ⟨by omega,h⟩]
  · rw [if_neg (fun x=>e x.1)]
    unfold elimF
    by_cases e3:a<i0∧a≠top
    · rw [if_pos e3,if_pos ⟨by omega,e3.2⟩]
    · rw [if_neg e3,if_neg (fun x=>e3 ⟨by omega,x.2⟩)]
theorem elimF_lose2 {r n:Nat} {f:Fq} {top c i0} (h:i0≠top):tabR r n (loseF (elimF f top c i0) i0 top (f i0 c) n)=tabR r n (elimF f top c (i0+1)):=by
  rw [←elimF_lose h,elimF_i]
def dvF (f:Fq) (p top c:Nat):Fq:=divA (swapF f p top) top (f p c)
def rdcF (f:Fq) (p top c n:Nat):Fq:=elimF (divA (swapF f p top) top (f p c)) top c n
def sgD (d:Rat) (p top:Nat):Rat:=if p=top then d else -d
theorem swapF_top {f:Fq} {p top b}:swapF f p top top b=f p b:=by
  unfold swapF;by_cases e:top=p
  · rw [if_pos e,e]
  · rw [if_neg e,if_pos rfl]
theorem RZ.add {n p q} (h:RZ n p) (k:RZ n q):RZ (n+n+1) (p+q):=
  RZ.of (Int.mul_ne_zero (rq_den_ne p) (rq_den_ne q)) (rq_add p q) (Sz.add1 (h.a.mul k.b) (k.a.mul h.b)) ((h.b.mul k.b).up (by omega))
theorem RZ.sub2 {n m p q} (h:RZ n p) (k:RZ m q):RZ (n+m+1) (p-q):=by
  rw [Rat.sub_eq_add_neg]
  refine RZ.of (Int.mul_ne_zero (rq_den_ne p) (rq_den_ne (-q))) (rq_add p (-q)) (Sz.add1 (h.a.mul k.neg.b) ?_) ((h.b.mul k.neg.b).up (by omega))
  have:=k.neg.a.mul h.b
  exact this.up (by omega)
theorem RZ.div {n m p q} (h:RZ n p) (k:RZ m q) (h0:q≠0):RZ (n+m) (p/q):=
  RZ.of (Int.mul_ne_zero (rq_den_ne p) (rq_num_ne h0)) (rq_div p h0) (h.a.mul k.b) (h.b.mul k.a)
theorem swapF_RZ {s:Nat} {f:Fq} (h:∀i k,RZ s (f i k)) (p q i k):RZ s (swapF f p q i k):=by
  unfold swapF;split
  · exact h _ _
  · split <;> exact h _ _
theorem dvF_RZ {s:Nat} {f:Fq} (h:∀i k,RZ s (f i k)) {p top c:Nat} (h0:f p c≠0) (i k):RZ (s+s) (dvF f p top c i k):=by
  unfold dvF divA;split
  · exact (swapF_RZ h p top i k).div (h p c) h0
  · exact (swapF_RZ h p top i k).up (by omega)
theorem dvF_RZ1 {s:Nat} {f:Fq} (h:∀i k,RZ s (f i k)) {p top c i:Nat} (hi:i≠top) (k):RZ s (dvF f p top c i k):=by
  unfold dvF divA;rw [if_neg hi];exact swapF_RZ h p top i k
def szE (s:Nat):Nat→Nat
  | 0=>s
  | c+1=>4*szE s c+1
theorem szE_eq (s):∀c,3*szE s c+1=4^c*(3*s+1)
  | 0=>by simp [szE]
  | c+1=>by rw [szE,Nat.pow_succ,Nat.mul_comm (4^c) 4,Nat.mul_assoc,←szE_eq s c];omega
theorem szE_le {s c:Nat} (hc:c≤12) (hs:s≤257):szE s c≤4317512248:=by
  have h1:=szE_eq s c
  have h2:4^c≤4^12:=Nat.pow_le_pow_right (by decide) hc
  have h3:4^c*(3*s+1)≤4^12*772:=Nat.mul_le_mul h2 (by omega)
  omega
theorem szE_last {s c:Nat} (hc:c<12) (hs:s≤257):4*szE s c+1≤4317512248:=szE_le (c:=c+1) hc hs
structure RedI (G:Nat→Nat→Int) (n s c top:Nat) (f:Fq) (d:Rat):Prop where
  cn:c≤n
  tc:top≤c
  z:∀i k,RZ (szE s c) (f i k)
  zd:RZ (szE s c+1) d
  gf:PosU G c→top=c∧∀i k,c≤i→i<n→c≤k→k<n→f i k=gsE (qG G) c i k
  gd:PosU G (min c (n-1))→d=gsD (qG G) c
theorem red_0 {G:Nat→Nat→Int} {n s:Nat} (hs:∀i j,Sz s (G i j)) (h1:1≤s):RedI G n s 0 0 (fun i k=>(G i k:Rat)) 1:=by
  obtain ⟨s',rfl⟩:∃s',s=s'+1:=⟨s-1,by omega⟩
  refine ⟨Nat.zero_le _,Nat.le_refl _,fun i k=>RZ.int (hs i k),?_,fun _=>⟨rfl,fun i k _ _ _ _=>rfl⟩,fun _=>rfl⟩
  have:=RZ.int (n:=s'+1) (z:=1) (by show (1:Int).natAbs<2^(s'+1+1);simp)
  exact this
theorem red_none {G:Nat→Nat→Int} (hs:SymG G) {n s c top:Nat} {f:Fq} {d:Rat} (h:RedI G n s c top f d) (hc:c<n) (h0:∀q,top≤q→q<n→f q c=0):RedI G n s (c+1) top f 0:=by
  have key:PosU G c→gsE (qG G) c c c=0:=fun hp=>by
    obtain ⟨e1,e2⟩:=h.gf hp
    rw [←e2 c c (Nat.le_refl c) hc (Nat.le_refl c) hc]
    exact h0 c (by omega) hc
  refine ⟨hc,Nat.le_succ_of_le h.tc,fun i k=>(h.z i k).up (by rw [szE];omega),?_,fun hp=>?_,fun hp=>?_⟩
  · have:=RZ.int (n:=szE s (c+1)) (z:=0) (Sz.zero _)
    exact this
  · exact absurd (key (hp.le (by omega))) (frS_ne hs hp)
  · by_cases e:c+1<n
    · have hp':PosU G (c+1):=by rw [show min (c+1) (n-1)=c+1 by omega] at hp;exact hp
      exact absurd (key (hp'.le (by omega))) (frS_ne hs hp')
    · have hp':PosU G c:=by rw [show min (c+1) (n-1)=c by omega] at hp;exact hp
      show 0=gsD (qG G) c*gsE (qG G) c c c
      rw [key hp'];grind
theorem red_step {G:Nat→Nat→Int} (hs:SymG G) {n s c top p:Nat} {f:Fq} {d:Rat} (h:RedI G n s c top f d) (hc:c<n) (hp:top≤p) (hpn:p<n) (h1:f p c≠0) (h0:∀q,top≤q→q<p→f q c=0):RedI G n s (c+1) (top+1) (rdcF f p top c n) (sgD d p top*f p c):=by
  have key:PosU G c→(c+1<n→PosU G (c+1))→p=c∧top=c:=fun hP hP1=>by
    obtain ⟨e1,e2⟩:=h.gf hP
    refine ⟨?_,e1⟩
    by_cases e:p=c
    · exact e
    · have e3:=h0 c (by omega) (by omega)
      rw [e2 c c (Nat.le_refl c) hc (Nat.le_refl c) hc] at e3
      by_cases e4:c+1<n
      · exact absurd e3 (frS_ne hs (hP1 e4))
      · omega
  have hz1:∀i k,RZ (szE s c) (swapF f p top i k):=fun i k=>by
    unfold swapF;split
    · exact h.z _ _
    · split <;> exact h.z _ _
  have hz2:∀i k,RZ (szE s c+szE s c) (divA (swapF f p top) top (f p c) i k):=fun i k=>by
    unfold divA;split
    · exact (hz1 i k).div (h.z p c) h1
    · exact (hz1 i k).up (by omega)
  have hz3:∀i k,i≠top→RZ (szE s c) (divA (swapF f p top) top (f p c) i k):=fun i k hi=>by
    unfold divA;rw [if_neg hi];exact hz1 i k
  refine ⟨hc,Nat.succ_le_succ h.tc,fun i k=>?_,?_,fun hP=>?_,fun hP=>?_⟩
  · unfold rdcF elimF
    split
    · rename_i e
      have h2:=(hz3 i c e.2).mul (hz2 top k)
      exact (RZ.sub2 (hz3 i k e.2) h2).up (by rw [szE];omega)
    · exact (hz2 i k).up (by rw [szE];omega)
  · have h2:RZ (szE s c+1) (sgD d p top):=by
      unfold sgD;split
      · exact h.zd
      · exact h.zd.neg
    exact (h2.mul (h.z p c)).up (by rw [szE];omega)
  · obtain ⟨e1,e2⟩:=key (hP.le (by omega)) (fun _=>hP)
    obtain ⟨_,e3⟩:=h.gf (hP.le (by omega))
    rw [e1,e2]
    refine ⟨rfl,fun i k hi hin hk hkn=>?_⟩
    unfold rdcF elimF divA
    rw [swapF_self]
    rw [if_pos ⟨by omega,by omega⟩,if_neg (by omega),if_neg (by omega),if_pos rfl]
    rw [e3 i k (by omega) hin (by omega) hkn,e3 i c (by omega) hin (Nat.le_refl _) hc,e3 c k (Nat.le_refl _) hc (by omega) hkn,e3 c c (Nat.le_refl _) hc (Nat.le_refl _) hc]
    show _=gsE (qG G) c i k-gsE (qG G) c i c*gsE (qG G) c c k/gsE (qG G) c c c
    have hne:gsE (qG G) c c c≠0:=frS_ne hs hP
    grind
  · have hPc:PosU G c:=hP.le (by omega)
    obtain ⟨e1,e2⟩:=key hPc (fun hlt=>by rw [show min (c+1) (n-1)=c+1 by omega] at hP;exact hP)
    have hd:=h.gd (hPc.le (by omega))
    obtain ⟨_,e3⟩:=h.gf hPc
    rw [e1,e2]
    unfold sgD
    rw [if_pos rfl,hd,e3 c c (Nat.le_refl _) hc (Nat.le_refl _) hc]
    rfl
theorem red_end {G:Nat→Nat→Int} (hs:SymG G) {n s top:Nat} {f:Fq} {d:Rat} (h:RedI G n s n top f d) (hn:0<n) (hp:PosU G (n-1)):d=(uD G n:Rat):=by
  obtain ⟨k,rfl⟩:∃k,n=k+1:=⟨n-1,by omega⟩
  have hp':PosU G k:=hp
  rw [h.gd (by rw [show min (k+1) (k+1-1)=k by omega];exact hp')]
  show gsD (qG G) k*gsE (qG G) k k k=(uE G k k k:Rat)
  rw [←(ugs hs k hp').d,gsE_frac hs hp' (Nat.le_refl k) (Nat.le_refl k)]
  have h2:uD G k≠0:=by have:=hp'.uD (Nat.le_refl k);omega
  have h3:=rat_ne h2
  grind
theorem rq_zero {q:Rat}:(rq q).1.sign=0↔q=0:=by
  rw [Int.sign_eq_zero_iff_zero]
  constructor
  · intro h;exact Classical.byContradiction fun e=>rq_num_ne e h
  · intro h;subst h;rfl
def nearI (a b:Int):Int:=(a+a+b).fdiv (b+b)
def nearQ (q:Rat):Int:=nearI (rq q).1 (rq q).2
theorem rq_cmp (p q:Rat):((rq p).1*(rq q).2-(rq q).1*(rq p).2).sign≤0↔p≤q:=by
  have hp:(0:Rat)<((rq p).2:Rat):=by exact_mod_cast rq_den_pos p
  have hq:(0:Rat)<((rq q).2:Rat):=by exact_mod_cast rq_den_pos q
  have ep:=rq_val p
  have eq_:=rq_val q
  have np:((rq p).2:Rat)≠0:=fun e=>by rw [e] at hp;exact absurd hp (by decide)
  have nq:((rq q).2:Rat)≠0:=fun e=>by rw [e] at hq;exact absurd hq (by decide)
  have e1:(((rq p).1*(rq q).2-(rq q).1*(rq p).2:Int):Rat)=(p-q)*(((rq p).2:Rat)*((rq q).2:Rat)):=by
    rw [Rat.intCast_sub,Rat.intCast_mul,Rat.intCast_mul]
    have a1:((rq p).1:Rat)=p*((rq p).2:Rat):=by rw [←ep];grind
    have a2:((rq q).1:Rat)=q*((rq q).2:Rat):=by rw [←eq_];grind
    rw [a1,a2];grind
  have hd:=Rat.mul_pos hp hq
  have key:((rq p).1*(rq q).2-(rq q).1*(rq p).2)≤0↔p≤q:=by
    constructor
    · intro h
      have h2:(((rq p).1*(rq q).2-(rq q).1*(rq p).2:Int):Rat)≤0:=by exact_mod_cast h
      rw [e1] at h2
      rcases Rat.le_total (a:=p) (b:=q) with h3 | h3
      · exact h3
      · by_cases e:p=q
        · rw [e];exact Rat.le_refl
        · have h4:0<p-q:=by grind
          have:=Rat.mul_pos h4 hd
          grind
    · intro h
      have h2:(((rq p).1*(rq q).2-(rq q).1*(rq p).2:Int):Rat)≤0:=by
        rw [e1]
        have h3:0≤q-p:=by grind
        have:=Rat.mul_nonneg h3 (Rat.le_of_lt hd)
        grind
      exact_mod_cast h2
  rw [←key]
  generalize (rq p).1*(rq q).2-(rq q).1*(rq p).2=z
  rcases Int.lt_trichotomy z 0 with h | h | h
  · rw [Int.sign_eq_neg_one_of_neg h];omega
  · subst h;simp
  · rw [Int.sign_eq_one_of_pos h];omega
end Fw
namespace Fw
open Go Go.Proofs
theorem c_zint_Near (n:Nat) (a b:Int) (ha:Sz n a) (hb:Sz n b) (h0:0<b) (hn:n≤274877906944):Fn Tryz.prog 215 [kZ.is a,kZ.is b] (VP.tup [kC.is (nearI a b),kN6.is 0]):=by
 refine aK Tryz.func215 E E fun m w=>Cr<|a6 .n E fun b1=>a6 .n E fun b2=>a8 .n aZ fun b3=>Wa E<|Wn<|aa ?_
 refine ba (Γ:=[.fr (kZ.is a),.fr (kZ.is a),.fr (kC.is (a+a)),.fr (kZ.is b),.fr (kC.is ((a+a)+b)),.fr (kZ.is b),.fr (kZ.is b),.fr (kC.is (b+b)),.fr (VP.tup [kC.is (((a+a)+b).fdiv (b+b)),kC.is (if (b+b)=0 then 0 else ((a+a)+b).fmod (b+b)),kN6.is (if (b+b)=0 then 11 else 0)]),.fr (VP.tup [kC.is (((a+a)+b).fdiv (b+b)),kC.is (if (b+b)=0 then 0 else ((a+a)+b).fmod (b+b)),kN6.is (if (b+b)=0 then 11 else 0)]),.fr (kC.is (((a+a)+b).fdiv (b+b))),.lt (kC.is (if (b+b)=0 then 0 else ((a+a)+b).fmod (b+b))),.lt (kN6.is (if (b+b)=0 then 11 else 0)),.al (fun b=>OB.box b 29 kC 0),.al (fun b=>OB.box b 29 kC 0)]) (J E (fun N=>ae E (mN N 2 E) Li ab E) (J E (fun N=>ae E (mN N 2 E) Li ab E) (J E (fun N=>f2 dU E E (dP a a)) (J E (fun N=>ae E (mN N 1 E) Li ab E) (J E (fun N=>aF dU (aq E (aJ ((eY ha ha).sm (by omega))) (aX E ax)) (dP (a+a) b)) (J E (fun N=>ae E (mN N 1 E) Li ab E) (J E (fun N=>ae E (mN N 1 E) Li ab E) (J E (fun N=>f2 dU E E (dP b b)) (J E (fun N=>aF fn214 (aq E (aJ ((eY (eY ha ha) (hb.up (by omega))).sm (by omega))) (aq E (aJ ((eY hb hb).sm (by omega))) ax)) (et ((a+a)+b) (b+b))) (om E E (J E (fun N=>aH E E) (oc (cV E .n (dv E E)) (oc (cV E .n (dv E E)) (oc (dA E aZ) (oc (dA E aZ) oz)))))))))))))))<|fun σ1=>?_
 refine aG .n (aD (l:=kC) (u:=((a+a)+b).fdiv (b+b)) 0 E E E ab E Lr)<|aG .n (aD (l:=kC) (u:=if (b+b)=0 then 0 else ((a+a)+b).fmod (b+b)) 1 E E E ab E Lr)<|Wa E<|Wr<|Ws (ae E (ac 0 E) Li ab E)<|Wm E<|aG .n (aD (l:=kC) (u:=((a+a)+b).fdiv (b+b)) 2 E E E ab E Lr)<|Wa E<|Wn<|am<|tb 2 E (y:=(nearI a b)) E ?_
 exact Qd E (a5 E (ac 2 E) ab (cz E (ag (y:=0) (by omega)) ak)) ⟨E,E⟩
theorem c_rat_valid (l:List (Int×Int)) (hv:∀x,x∈l→0<x.2∧Sm x.2):Fn Tryz.prog 121 [(kSl kRC).is l] (kN6.is 0):=by
 refine aK Tryz.func121 E E fun m w=>aR (i:=0) E bu fun hB=>Cr<|Wa E<|Wn<|aa<|Cr<|Wm E<|Ws (aA E U26)<|Wm E<|Wn<|aw<|bN (fun (i:Nat)=>i≤l.length) (fun (i:Nat)=>[(0,(kSl kRC).is l),(5,(kSl kRC).is l),(6,kN6.is (l.length:Int)),(7,kN6.is (i:Int))]) (fun (i:Nat)=>[]) (fun (i:Nat)=>l.length-i) 0 (by omega) (Z E (Z E (Z E (ao E (ag (y:=(0:Int)) (by rfl)) ai)))) (au _) ?_
 intro i hi
 refine Cr<|Ws (aS E E)<|Wn<|aa ?_
 refine aB E (fun h_t8=>?_)<|fun h_t8=>?_
 ·
  refine Ck<|aa<|aw<|Cr<|Ws (aT i E E U26 aL E (v:=(l.getD i (0,0))) (gd (0,0) (by omega)))<|Ws (aO E aL)<|Ax (l:=kRC) (u:=(l.getD i (0,0))) bU E aL (fun _=>E) Lr fun b1=>Wr<|Ws (aM E cX E)<|Ws (ae E (ac 0 E) (aN Li) ab E)<|Ws (aF dp (aq E (aJ (by exact (hv _ (getD_mem (0,0) (by omega))).2)) ax) (dk ((l.getD i (0,0)).2)))<|Ws (O.le E E)<|Wn ?_
  refine CN E (by have h1:=(hv _ (getD_mem (0,0) (show i<l.length by omega))).1;have:=Int.sign_eq_one_of_pos h1;omega) fun h_t14=>?_
  refine cc<|Qb<|ah<|Ws (aI E E (c:=((i:Int)+1)) (ay (by omega)))<|Wm E<|aj ?_
  exact bG (i+1) (by omega) (by omega) (Z E (Z E (Z E (ao E (ag (y:=(((i+1):Nat):Int)) (by rfl)) ai))))<|el<|List.nil_sublist _
 ·
  refine Ex<|Cr<|Wa E<|Wn<|am ?_
  exact Qd E (ar E ak) ⟨E,E⟩
theorem c_rat_two (n:Nat) (p q r:Rat) (fid:FuncId) (caps:List VP) (hok:FnOk Tryz.prog fid) (hF:Fn Tryz.prog fid caps (kRC.is (rq r))) (hp:RZ n p) (hq:RZ n q) (hn:n≤68719476736):Fn Tryz.prog 205 [kRC.is (rq p),kRC.is (rq q),VP.clo fid caps] (VP.tup [kRC.is (rq r),kN6.is 0]):=by
 refine aK Tryz.func205 E E fun m w=>?_
 have hv2:∀x,x∈[rq p,rq q]→0<x.2∧Sm x.2:=by intro x hx;rcases List.mem_cons.1 hx with rfl | hx;exact ⟨rq_den_pos p,hp.b.sm (by omega)⟩;rcases List.mem_cons.1 hx with rfl | hx;exact ⟨rq_den_pos q,hq.b.sm (by omega)⟩;cases hx
 refine Cr<|a6 .n E fun b1=>a6 .n E fun b2=>a8 .n bU fun b3=>Wa E<|Wn<|aa<|Cr<|Ws (ae E (ac 2 E) Li aL E)<|Ws (ae E (ac 1 E) Li aL E)<|Ws (bC U26 ef (b9 E (b9 E bw)) E (by decide))<|Ws (f1 fn121 E (c_rat_valid [rq p,rq q] hv2))<|Wa E<|Wr<|Wm E<|Ws (bt E E)<|Wn ?_
 refine CN E (fun h=>h E) fun h_t14=>?_
 refine Ck<|Cr<|Wm E<|Ws (ee E hok ax hF)<|aG .n (aD (l:=kRC) (u:=rq r) 0 E E E aL E Lr)<|Wa E<|Wn<|am ?_
 exact Qd E (a5 E (ac 0 E) aL (ar E ak)) ⟨E,E⟩
theorem c_rat_Mul1 (n:Nat) (p q:Rat) (hp:RZ n p) (hq:RZ n q) (hn:n≤68719476736):Fn Tryz.prog 258 [VP.pim kRC (rq p),VP.pim kRC (rq q)] (kRC.is (rq (p*q))):=by
 refine aK Tryz.func258 E E fun m w=>Cr<|a8 .n bU fun b1=>Wn<|aa ?_
 refine ba (Γ:=[.fr (VP.pim kC ((rq p).1)),.fr (kC.is ((rq p).1)),.fr (VP.pim kC ((rq q).1)),.fr (kC.is ((rq q).1)),.fr (kC.is (((rq p).1)*((rq q).1))),.fr (VP.pim kC ((rq p).2)),.fr (kC.is ((rq p).2)),.fr (VP.pim kC ((rq q).2)),.fr (kC.is ((rq q).2)),.fr (kC.is (((rq p).2)*((rq q).2))),.fr (kRC.is (rmk (((rq p).1)*((rq q).1)) (((rq p).2)*((rq q).2))))]) (J E (fun N=>dY E db (aU Li) E) (J E (fun N=>aO E ab) (J E (fun N=>dY E db (aU Li) E) (J E (fun N=>aO E ab) (J E (fun N=>aF de (aq E (aJ (hp.a.sm (by omega))) (aq E (aJ (hq.a.sm (by omega))) ax)) (c8 ((rq p).1) ((rq q).1))) (J E (fun N=>dY E cX (aN Li) E) (J E (fun N=>aO E ab) (J E (fun N=>dY E cX (aN Li) E) (J E (fun N=>aO E ab) (J E (fun N=>aF de (aq E (aJ (hp.b.sm (by omega))) (aq E (aJ (hq.b.sm (by omega))) ax)) (c8 ((rq p).2) ((rq q).2))) (J E (fun N=>aF fn136 (aq E (aJ ((hp.a.mul hq.a).sm (by omega))) (aq E (aJ ((hp.b.mul hq.b).sm (by omega))) ax)) (c_rat_made (((rq p).1)*((rq q).1)) (((rq p).2)*((rq q).2)) (by exact Int.mul_ne_zero (rq_den_ne p) (rq_den_ne q)))) oz)))))))))))<|fun σ1=>?_
 refine aG .n (aD (l:=kRC) (u:=rmk (((rq p).1)*((rq q).1)) (((rq p).2)*((rq q).2))) 0 E E E aL E Lr)<|Wn<|am<|tb 0 E (y:=(rq (p*q))) (rq_mul p q) ?_
 exact Qd E (a5 E (ac 0 E) aL ak) ⟨E,E⟩
theorem c_rat_Mul (n:Nat) (p q:Rat) (hp:RZ n p) (hq:RZ n q) (hn:n≤68719476736):Fn Tryz.prog 221 [kRC.is (rq p),kRC.is (rq q)] (VP.tup [kRC.is (rq (p*q)),kN6.is 0]):=by
 refine aK Tryz.func221 E E fun m w=>Cr<|a6 .n E fun b1=>a6 .n E fun b2=>a8 .n bU fun b3=>Wa E<|Wr<|Ws (ae E (ac 2 E) Li aL E)<|Ws (ae E (ac 1 E) Li aL E)<|dZ 2 E (kp 0 E (kp 1 E (.hit (i:=2) E (kp 3 E (kp 4 E (kp 5 E (kp 6 E (kp 7 E .nil))))))))<|dZ 1 E (kp 0 E (kp 1 E (kp 2 E (.hit (i:=3) E (kp 4 E (kp 5 E (kp 6 E (kp 7 E .nil))))))))<|Ws (O.mkf (aX E (aX E ax)))<|Ws (aF fn205 (aX E (aX E (aX E ax))) (c_rat_two n p q (p*q) 258 [VP.pim kRC (rq p),VP.pim kRC (rq q)] fn258 (c_rat_Mul1 n p q hp hq hn) hp hq hn))<|Ws (aH E E)<|Ws (aH E E)<|aG .n (aD (l:=kRC) (u:=rq (p*q)) 0 E E E aL E Lr)<|Wa E<|Wn<|am ?_
 exact Qd E (a5 E (ac 0 E) aL (ar E ak)) ⟨E,E⟩
theorem c_rat_Add1 (n:Nat) (p q:Rat) (hp:RZ n p) (hq:RZ n q) (hn:n≤68719476736):Fn Tryz.prog 206 [VP.pim kRC (rq p),VP.pim kRC (rq q)] (kRC.is (rq (p+q))):=by
 refine aK Tryz.func206 E E fun m w=>Cr<|a8 .n bU fun b1=>Wn<|aa ?_
 refine ba (Γ:=[.fr (VP.pim kC ((rq p).1)),.fr (kC.is ((rq p).1)),.fr (VP.pim kC ((rq q).2)),.fr (kC.is ((rq q).2)),.fr (kC.is (((rq p).1)*((rq q).2))),.fr (VP.pim kC ((rq q).1)),.fr (kC.is ((rq q).1)),.fr (VP.pim kC ((rq p).2)),.fr (kC.is ((rq p).2)),.fr (kC.is (((rq q).1)*((rq p).2))),.fr (kC.is ((((rq p).1)*((rq q).2))+(((rq q).1)*((rq p).2)))),.fr (VP.pim kC ((rq p).2)),.fr (kC.is ((rq p).2)),.fr (VP.pim kC ((rq q).2)),.fr (kC.is ((rq q).2)),.fr (kC.is (((rq p).2)*((rq q).2))),.fr (kRC.is (rmk ((((rq p).1)*((rq q).2))+(((rq q).1)*((rq p).2))) (((rq p).2)*((rq q).2))))]) (J E (fun N=>dY E db (aU Li) E) (J E (fun N=>aO E ab) (J E (fun N=>dY E cX (aN Li) E) (J E (fun N=>aO E ab) (J E (fun N=>aF de (aq E (aJ (hp.a.sm (by omega))) (aq E (aJ (hq.b.sm (by omega))) ax)) (c8 ((rq p).1) ((rq q).2))) (J E (fun N=>dY E db (aU Li) E) (J E (fun N=>aO E ab) (J E (fun N=>dY E cX (aN Li) E) (J E (fun N=>aO E ab) (J E (fun N=>aF de (aq E (aJ (hq.a.sm (by omega))) (aq E (aJ (hp.b.sm (by omega))) ax)) (c8 ((rq q).1) ((rq p).2))) (J E (fun N=>aF dU (aq E (aJ ((hp.a.mul hq.b).sm (by omega))) (aq E (aJ ((hq.a.mul hp.b).sm (by omega))) ax)) (dP (((rq p).1)*((rq q).2)) (((rq q).1)*((rq p).2)))) (J E (fun N=>dY E cX (aN Li) E) (J E (fun N=>aO E ab) (J E (fun N=>dY E cX (aN Li) E) (J E (fun N=>aO E ab) (J E (fun N=>aF de (aq E (aJ (hp.b.sm (by omega))) (aq E (aJ (hq.b.sm (by omega))) ax)) (c8 ((rq p).2) ((rq q).2))) (J E (fun N=>aF fn136 (aq E (aJ (((hp.a.mul hq.b).add (hq.a.mul hp.b)).sm (by omega))) (aq E (aJ ((hp.b.mul hq.b).sm (by omega))) ax)) (c_rat_made ((((rq p).1)*((rq q).2))+(((rq q).1)*((rq p).2))) (((rq p).2)*((rq q).2)) (by exact Int.mul_ne_zero (rq_den_ne p) (rq_den_ne q)))) oz)))))))))))))))))<|fun σ1=>?_
 refine aG .n (aD (l:=kRC) (u:=rmk ((((rq p).1)*((rq q).2))+(((rq q).1)*((rq p).2))) (((rq p).2)*((rq q).2))) 0 E E E aL E Lr)<|Wn<|am<|tb 0 E (y:=(rq (p+q))) (rq_add p q) ?_
 exact Qd E (a5 E (ac 0 E) aL ak) ⟨E,E⟩
theorem c_rat_Add (n:Nat) (p q:Rat) (hp:RZ n p) (hq:RZ n q) (hn:n≤68719476736):Fn Tryz.prog 135 [kRC.is (rq p),kRC.is (rq q)] (VP.tup [kRC.is (rq (p+q)),kN6.is 0]):=by
 refine aK Tryz.func135 E E fun m w=>Cr<|a6 .n E fun b1=>a6 .n E fun b2=>a8 .n bU fun b3=>Wa E<|Wr<|Ws (ae E (ac 2 E) Li aL E)<|Ws (ae E (ac 1 E) Li aL E)<|dZ 2 E (kp 0 E (kp 1 E (.hit (i:=2) E (kp 3 E (kp 4 E (kp 5 E (kp 6 E (kp 7 E .nil))))))))<|dZ 1 E (kp 0 E (kp 1 E (kp 2 E (.hit (i:=3) E (kp 4 E (kp 5 E (kp 6 E (kp 7 E .nil))))))))<|Ws (O.mkf (aX E (aX E ax)))<|Ws (aF fn205 (aX E (aX E (aX E ax))) (c_rat_two n p q (p+q) 206 [VP.pim kRC (rq p),VP.pim kRC (rq q)] fn206 (c_rat_Add1 n p q hp hq hn) hp hq hn))<|Ws (aH E E)<|Ws (aH E E)<|aG .n (aD (l:=kRC) (u:=rq (p+q)) 0 E E E aL E Lr)<|Wa E<|Wn<|am ?_
 exact Qd E (a5 E (ac 0 E) aL (ar E ak)) ⟨E,E⟩
theorem c_rat_Cmp (n:Nat) (p q:Rat) (hp:RZ n p) (hq:RZ n q) (hn:n≤68719476736):Fn Tryz.prog 58 [kRC.is (rq p),kRC.is (rq q)] (VP.tup [kN6.is (((rq p).1*(rq q).2-(rq q).1*(rq p).2).sign),kN6.is 0]):=by
 refine aK Tryz.func58 E E fun m w=>?_
 have hv2:∀x,x∈[rq p,rq q]→0<x.2∧Sm x.2:=by intro x hx;rcases List.mem_cons.1 hx with rfl | hx;exact ⟨rq_den_pos p,hp.b.sm (by omega)⟩;rcases List.mem_cons.1 hx with rfl | hx;exact ⟨rq_den_pos q,hq.b.sm (by omega)⟩;cases hx
 refine Cr<|a6 .n E fun b1=>a6 .n E fun b2=>Wa E<|Wa E<|Wn<|aa<|Cr<|Ws (ae E (ac 1 E) Li aL E)<|Ws (ae E (ac 0 E) Li aL E)<|Ws (bC U26 ef (b9 E (b9 E bw)) E (by decide))<|Ws (f1 fn121 E (c_rat_valid [rq p,rq q] hv2))<|Wa E<|Wr<|Wm E<|Ws (bt E E)<|Wn ?_
 refine CN E (fun h=>h E) fun h_t12=>?_
 refine Ck<|aa ?_
 refine ba (Γ:=[.fr (VP.pt b1 0),.fr (kC.is ((rq p).1)),.fr (VP.pt b2 2),.fr (kC.is ((rq q).2)),.fr (kC.is (((rq p).1)*((rq q).2))),.fr (VP.pt b2 0),.fr (kC.is ((rq q).1)),.fr (VP.pt b1 2),.fr (kC.is ((rq p).2)),.fr (kC.is (((rq q).1)*((rq p).2))),.fr (kN6.is (((((rq p).1)*((rq q).2))-(((rq q).1)*((rq p).2))).sign))]) (J E (fun N=>aM E db E) (J E (fun N=>ae E (mN N 1 E) (aU Li) ab E) (J E (fun N=>aM E cX E) (J E (fun N=>ae E (mN N 0 E) (aN Li) ab E) (J E (fun N=>aF de (aq E (aJ (hp.a.sm (by omega))) (aq E (aJ (hq.b.sm (by omega))) ax)) (c8 ((rq p).1) ((rq q).2))) (J E (fun N=>aM E db E) (J E (fun N=>ae E (mN N 0 E) (aU Li) ab E) (J E (fun N=>aM E cX E) (J E (fun N=>ae E (mN N 1 E) (aN Li) ab E) (J E (fun N=>aF de (aq E (aJ (hq.a.sm (by omega))) (aq E (aJ (hp.b.sm (by omega))) ax)) (c8 ((rq q).1) ((rq p).2))) (J E (fun N=>aF fn119 (aq E (aJ ((hp.a.mul hq.b).sm (by omega))) (aq E (aJ ((hq.a.mul hp.b).sm (by omega))) ax)) (eZ (((rq p).1)*((rq q).2)) (((rq q).1)*((rq p).2)))) oz)))))))))))<|fun σ1=>?_
 refine Wa E<|Wa E<|Wn<|am ?_
 exact Qd E (cz E (ag (y:=((rq p).1*(rq q).2-(rq q).1*(rq p).2).sign) (by rfl)) (ar E ak)) ⟨E,E⟩
theorem c_rat_Near (n:Nat) (p:Rat) (hp:RZ n p) (hn:n≤68719476736):Fn Tryz.prog 144 [kRC.is (rq p)] (VP.tup [kC.is (nearQ p),kN6.is 0]):=by
 refine aK Tryz.func144 E E fun m w=>?_
 have hv1:∀x,x∈[rq p]→0<x.2∧Sm x.2:=by intro x hx;rcases List.mem_cons.1 hx with rfl | hx;exact ⟨rq_den_pos p,hp.b.sm (by omega)⟩;cases hx
 refine Cr<|a6 .n E fun b1=>a8 .n aZ fun b2=>Wa E<|Wn<|aa<|Cr<|Ws (ae E (ac 1 E) Li aL E)<|Ws (bC U26 ef (b9 E bw) E (by decide))<|Ws (f1 fn121 E (c_rat_valid [rq p] hv1))<|Wa E<|Wr<|Wm E<|Ws (bt E E)<|Wn ?_
 refine CN E (fun h=>h E) fun h_t11=>?_
 refine Ck<|Cr<|Ws (aM E db E)<|Ws (ae E (ac 1 E) (aU Li) ab E)<|Ws (aM E cX E)<|Ws (ae E (ac 1 E) (aN Li) ab E)<|Ws (aF fn215 (aq E (aJ (hp.a.sm (by omega))) (aq E (aJ (hp.b.sm (by omega))) ax)) (c_zint_Near n ((rq p).1) ((rq p).2) hp.a hp.b (rq_den_pos p) (by omega)))<|Wm E<|Ws (aH E E)<|Ws (aH E E)<|Ax (l:=kC) (u:=nearI ((rq p).1) ((rq p).2)) aZ E ab (fun _=>E) Lr fun b3=>Wa E<|Wr<|Ws (ae E (ac 0 E) Li ab E)<|aG .n (aD (l:=kC) (u:=nearI ((rq p).1) ((rq p).2)) 1 E E E ab E Lr)<|Wa E<|Wn ?_
 refine am ?_
 exact Qd E (dE E (ac 1 E) ab (ag (y:=nearQ p) (by rfl)) (ar E ak)) ⟨E,E⟩
end Fw
namespace Fw
open Go
theorem copy_all {α:Type} {ys xs:List α} (h:ys.length=xs.length):ys.take (min ys.length xs.length)++xs.drop (min ys.length xs.length)=ys:=by
  rw [h,Nat.min_self,←h,List.take_length,h,List.drop_length,List.append_nil]
abbrev ek:=@copy_all
abbrev Fi:=Nat→Nat→Int
def triR (n:Nat) (f:Fi) (x:Nat):List Int:=(List.range x).map (f x)
def tri (n:Nat) (f:Fi):List (List Int):=(List.range n).map (triR n f)
theorem tri_len (n f):(tri n f).length=n:=by simp [tri]
theorem tri_row {n f x} (h:x<n):(tri n f).getD x []=triR n f x:=by
  rw [gde _ [] (by rw [tri_len];exact h)];simp [tri]
theorem tri_rlen {n f x} (h:x<n):((tri n f).getD x []).length=x:=by rw [tri_row h];simp [triR]
theorem tri_at {n f x k} (h:x<n) (hk:k<x):((tri n f).getD x [])[k]?=some (f x k):=by rw [tri_row h];simp [triR,hk]
theorem tri_get {n f x k} (h:x<n) (hk:k<x):((tri n f).getD x []).getD k 0=f x k:=by rw [List.getD_eq_getElem?_getD,tri_at h hk];rfl
theorem tri_at2 {n f x k} {q:Int} (h:x<n) (hk:k<x) (e:f x k=q):((tri n f).getD x [])[k]?=some q:=by rw [←e];exact tri_at h hk
theorem Sz.fdiv {n:Nat} {x y:Int} (h:Sz n x) (hy:0<y):Sz n (x.fdiv y):=by
  refine h.le ?_
  have h1:(1:Int)≤y:=hy
  rw [Int.fdiv_eq_ediv_of_nonneg _ (by omega)]
  exact Int.natAbs_ediv_le_natAbs x y
theorem tri_congr {n} {f g:Fi} (h:∀x k,x<n→k<x→f x k=g x k):tri n f=tri n g:=
  List.map_congr_left fun x hx=>List.map_congr_left fun k hk=>h x k (List.mem_range.1 hx) (List.mem_range.1 hk)
def updI (f:Fi) (i k:Nat) (q:Int):Fi:=fun a b=>if a=i∧b=k then q else f a b
theorem tri_set {n f i k} (q:Int) (h:i<n):(tri n f).set i (((tri n f).getD i []).set k q)=tri n (updI f i k q):=by
  apply List.ext_getElem
  · simp [tri]
  · intro a h1 h2
    rw [List.getElem_set]
    split
    · rename_i e
      subst e
      rw [tri_row h]
      apply List.ext_getElem
      · simp [tri,triR]
      · intro b h3 h4
        simp only [tri,triR,List.getElem_map,List.getElem_range,List.getElem_set,updI]
        by_cases e:k=b
        · subst e;rw [if_pos rfl,if_pos ⟨trivial,rfl⟩]
        · rw [if_neg e,if_neg (fun x=>e x.2.symm)]
    · rename_i e
      simp only [tri,triR,List.getElem_map,List.getElem_range]
      apply List.map_congr_left
      intro b hb
      show f a b=(if a=i∧b=k then q else f a b)
      rw [if_neg (fun h:a=i∧b=k=>e h.1.symm)]
def eF (G:Fi):Fi:=fun x k=>uE G k x k
theorem gLs_tri (G n):gLs G n=tri n (eF G):=rfl
def addF (G:Fi) (i j:Nat) (q:Int) (c:Nat):Fi:=fun x k=>if x=i∧k=j then uE G j i j+q*uD G (j+1) else if x=i∧k<c then uE G k i k+q*uE G k j k else uE G k x k
theorem addF_0 (G i j q):updI (eF G) i j (uE G j i j+q*uD G (j+1))=addF G i j q 0:=by
  funext x k;unfold updI addF eF;simp
theorem addF_at {G i j q c} (h:c<j):addF G i j q c i c=uE G c i c:=by
  unfold addF;simp [show c≠j by omega]
theorem addF_s {G i j q c} (h:c<j):updI (addF G i j q c) i c (uE G c i c+q*uE G c j c)=addF G i j q (c+1):=by
  funext x k;unfold updI addF
  by_cases h1:x=i
  · subst h1
    by_cases h2:k=c
    · subst h2;simp [show k≠j by omega]
    · simp [h2,Nat.lt_succ_iff_lt_or_eq]
  · simp [h1]
theorem addF_end {G:Fi} {n i j:Nat} {q:Int} (hs:SymG G) (hp:PosU G n) (hij:j<i) (hi:i<n):tri n (addF G i j q j)=gLs (rowI G i j q) n:=by
  rw [gLs_tri]
  refine tri_congr fun x k hx hk=>?_
  unfold addF eF
  by_cases h1:x=i
  · subst h1
    by_cases h2:k=j
    · subst h2;simp [rowI_at hs hp hij hi]
    · by_cases h3:k<j
      · simp [h2,h3,rowI_lo hs hp hij hi h3]
      · simp [h2,h3,rowI_hi hs hp hij (show j<k by omega) (show k≤x by omega) hx]
  · simp [h1,rowI_ne hs hp hij h1 (show k≤x by omega) hx]
theorem gDs_row {G:Fi} {n i j:Nat} {q:Int} (hs:SymG G) (hp:PosU G n) (hij:j<i):gDs (rowI G i j q) n=gDs G n:=
  List.map_congr_left fun k hk=>rowI_uD hs hp hij (by have:=List.mem_range.1 hk;omega)
def swF1 (G:Fi) (p c:Nat):Fi:=fun x k=>if x=p∧k<c then uE G k (p+1) k else if x=p+1∧k<c then uE G k p k else uE G k x k
def swA (G:Fi) (p x:Nat):Int:=(uD G p*uE G (p+1) x (p+1)+uE G p (p+1) p*uE G p x p).fdiv (uD G (p+1))
def swB (G:Fi) (p x:Nat):Int:=(uD G (p+2)*uE G p x p + -(uE G p (p+1) p)*uE G (p+1) x (p+1)).fdiv (uD G (p+1))
def swD (G:Fi) (p:Nat):Int:=(uD G p*uD G (p+2)+uE G p (p+1) p*uE G p (p+1) p).fdiv (uD G (p+1))
def swF2 (G:Fi) (p c:Nat):Fi:=fun x k=>if p+1<x∧x<c∧k=p then swA G p x else if p+1<x∧x<c∧k=p+1 then swB G p x else swF1 G p p x k
theorem swF1_0 (G p):eF G=swF1 G p 0:=by
  funext x k;unfold eF swF1;simp
theorem swF1_a {G p c}:swF1 G p c (p+1) c=uE G c (p+1) c:=by unfold swF1;simp
theorem swF1_b {G p c}:swF1 G p c p c=uE G c p c:=by unfold swF1;simp
theorem swF1_s {G p c}:updI (updI (swF1 G p c) p c (uE G c (p+1) c)) (p+1) c (uE G c p c)=swF1 G p (c+1):=by
  funext x k;unfold updI swF1
  by_cases h1:x=p+1
  · subst h1
    by_cases h2:k=c
    · subst h2;simp
    · simp [h2,Nat.lt_succ_iff_lt_or_eq]
  · by_cases h3:x=p
    · subst h3
      by_cases h2:k=c
      · subst h2;simp
      · simp [h2,Nat.lt_succ_iff_lt_or_eq]
    · simp [h1,h3]
theorem swF2_0 (G p):swF1 G p p=swF2 G p (p+2):=by
  funext x k;unfold swF2
  have h1:¬(p+1<x∧x<p+2):=by omega
  have h2:¬(p+1<x∧x<p+2∧k=p):=fun h=>h1 ⟨h.1,h.2.1⟩
  have h3:¬(p+1<x∧x<p+2∧k=p+1):=fun h=>h1 ⟨h.1,h.2.1⟩
  rw [if_neg h2,if_neg h3]
theorem swF2_s {G p c} (hc:p+1<c):updI (updI (swF2 G p c) c p (swA G p c)) c (p+1) (swB G p c)=swF2 G p (c+1):=by
  funext x k;unfold updI swF2
  by_cases h1:x=c
  · subst h1
    by_cases h2:k=p+1
    · subst h2;simp [hc]
    · by_cases h3:k=p
      · subst h3;simp [hc]
      · simp [h2,h3]
  · simp [h1,Nat.lt_succ_iff_lt_or_eq]
section
variable {G:Fi} {n p:Nat}
theorem uD_ne (hp:PosU G n) {k} (hk:k≤n):uD G k≠0:=by have:=hp.uD hk;omega
theorem swD_eq (hs:SymG G) (hp:PosU G n) (h:p+1<n):swD G p=uD (swpI G p) (p+1):=fdiv_ex (uD_ne hp (by omega)) (swpI_D hs hp h).symm
theorem swA_eq (hs:SymG G) (hp:PosU G n) (h:p+1<n) {x} (hx:p+1<x):swA G p x=uE (swpI G p) p x p:=fdiv_ex (uD_ne hp (by omega)) (swpI_1 hs hp h hx).symm
theorem swB_eq (hs:SymG G) (hp:PosU G n) (h:p+1<n) {x} (hx:p+1<x):swB G p x=uE (swpI G p) (p+1) x (p+1):=fdiv_ex (uD_ne hp (by omega)) (by rw [swpI_2 hs hp h hx];rw [Int.neg_mul];omega)
theorem swF2_end (hs:SymG G) (hp:PosU G n) (h:p+1<n):tri n (swF2 G p n)=gLs (swpI G p) n:=by
  rw [gLs_tri]
  refine tri_congr fun x k hx hk=>?_
  unfold eF swF2 swF1
  rcases Nat.lt_trichotomy x p with h1 | h1 | h1
  · simp [show ¬p+1<x by omega,show x≠p by omega,show x≠p+1 by omega,swpI_low hs hp h (show k≤x by omega) h1]
  · subst h1
    have e:=swpI_lo hs hp h (x:=x) hk (by omega)
    rw [sg_p] at e
    simp [hk,e,show ¬x+1<x by omega]
  · by_cases h2:x=p+1
    · subst h2
      by_cases h3:k<p
      · have e:=swpI_lo hs hp h (x:=p+1) h3 (by omega)
        rw [sg_q] at e
        simp [h3,e]
      · have h4:k=p:=by omega
        subst h4
        simp [swpI_mid hs hp h]
    · have h3:p+1<x:=by omega
      by_cases h4:k=p
      · subst h4;simp [h3,hx,swA_eq hs hp h h3]
      · by_cases h5:k=p+1
        · subst h5;simp [h3,hx,swB_eq hs hp h h3]
        · by_cases h6:k<p
          · have e:=swpI_lo hs hp h (x:=x) h6 (by omega)
            rw [sg_ne (by omega) (by omega)] at e
            simp [h4,h5,show x≠p by omega,h2,e]
          · simp [h4,h5,show x≠p by omega,h2,swpI_hi hs hp h (show p+2≤k by omega) (show k≤x by omega) hx]
theorem gDs_swp (hs:SymG G) (hp:PosU G n) (h:p+1<n):(gDs G n).set (p+1) (swD G p)=gDs (swpI G p) n:=by
  apply List.ext_getElem
  · simp [gDs]
  · intro k h1 h2
    simp only [gDs,List.getElem_set,List.getElem_map,List.getElem_range]
    by_cases e:p+1=k
    · subst e;rw [if_pos rfl,swD_eq hs hp h]
    · rw [if_neg e,swpI_uD hs hp h (by simp [gDs] at h2;omega) (fun x=>e x.symm)]
theorem frM_rmk (hs:SymG G) (hp:PosU G n) {i j} (hij:j<i) (hi:i<n):rmk (uE G j i j) (uD G (j+1))=rq (frM G i j):=by
  rw [frM_eq hs (hp.le (by omega)) (by omega),rmk_rq (uD_ne hp (by omega))];rfl
theorem frS_rmk (hs:SymG G) (hp:PosU G n) {i} (hi:i<n):rmk (uD G (i+1)) (uD G i)=rq (frS G i):=by
  unfold frS
  rw [gsE_frac hs (hp.le (by omega)) (Nat.le_refl i) (Nat.le_refl i),rmk_rq (uD_ne hp (by omega))];rfl
theorem gDs_Sm {B:Nat} (h:∀k,k≤n→Sz B (uD G k)) (hB:B≤549755813888):∀x,x∈gDs G n→Sm x:=fun x hx=>by
  obtain ⟨k,hk,rfl⟩:=List.mem_map.1 hx
  exact (h k (by have:=List.mem_range.1 hk;omega)).sm hB
theorem gLs_Sm {B:Nat} (h:∀x k,x<n→k<x→Sz B (uE G k x k)) (hB:B≤549755813888):∀r,r∈gLs G n→∀x,x∈r→Sm x:=fun r hr x hx=>by
  obtain ⟨i,hi,rfl⟩:=List.mem_map.1 hr
  obtain ⟨k,hk,rfl⟩:=List.mem_map.1 hx
  exact (h i k (List.mem_range.1 hi) (List.mem_range.1 hk)).sm hB
end
end Fw
namespace Fw
open Go Go.Proofs
theorem c_gso_good (G:Nat→Nat→Int) (n B:Nat) (h0:0<n) (h12:n≤12) (hP:PosU G n) (hD:∀k,k≤n→Sz B (uD G k)) (hB:B≤68719476736):Fn Tryz.prog 133 [kGso.is (gDs G n,gLs G n)] (kBool.is true):=by
 refine aK Tryz.func133 E E fun m w=>?_
 have hn0:0<n:=h0
 have hLl:(gLs G n).length=n:=gLs_len G n
 have hDl:(gDs G n).length=n+1:=gDs_len G n
 refine Cr<|a6 .n E fun b1=>Wa E<|Wn<|aa<|aa ?_
 refine ba (Γ:=[.fr (VP.pt b1 1),.fr (kMC.is (gLs G n)),.fr (kN6.is ((gLs G n).length:Int)),.fr (kBool.is false),.fr (kBool.is false),.fr (VP.pt b1 0),.fr (kVC.is (gDs G n)),.fr (kN6.is ((gDs G n).length:Int)),.fr (VP.pt b1 1),.fr (kMC.is (gLs G n)),.fr (kN6.is ((gLs G n).length:Int)),.fr (kN6.is (((gLs G n).length:Int)+1)),.fr (kBool.is false),.fr (kBool.is false),.fr (kBool.is false),.fr (VP.pt b1 0),.fr (kVC.is (gDs G n)),.fr (VP.pim kC (uD G 0)),.fr (kC.is (uD G 0)),.fr (kC.is 1),.fr (kN6.is (((uD G 0)-1).sign)),.fr (kBool.is false),.fr (kBool.is false)]) (J E (fun N=>aM E cB E) (J E (fun N=>ae (p:=kMC.is (gLs G n)) E (mN N 0 E) (aN Li) bT E) (J E (fun N=>aA E U22) (J E (fun N=>aV (bR E E) (ag (decide_eq_false (by rw [gLs_len];omega)))) (om E E (oc (cJ E (.g E E) fun N=>(aM E cE E)) (oc (cJ E (.g E E) fun N=>(ae (p:=kVC.is (gDs G n)) E (mN N 0 E) (aU Li) aE E)) (oc (cJ E (.g E E) fun N=>(aA E U23)) (oc (cJ E (.g E E) fun N=>(aM E cB E)) (oc (cJ E (.g E E) fun N=>(ae (p:=kMC.is (gLs G n)) E (mN N 0 E) (aN Li) bT E)) (oc (cJ E (.g E E) fun N=>(aA E U22)) (oc (cJ E (.g E E) fun N=>(aI E E (c:=(((gLs G n).length:Int)+1)) (ay (by omega)))) (oc (cJ E (.g E E) fun N=>(aV (bt E E) (ag (decide_eq_false (by rw [gLs_len,gDs_len];omega))))) (J E (fun N=>cb E E) (om E E (oc (cJ E (.g E E) fun N=>(aM E cE E)) (oc (cJ E (.g E E) fun N=>(ae (p:=kVC.is (gDs G n)) E (mN N 0 E) (aU Li) aE E)) (oc (cJ E (.g E E) fun N=>(aT 0 E E U23 ab E (v:=(uD G 0)) (dd (by omega)))) (oc (cJ E (.g E E) fun N=>(aO E ab)) (oc (cJ E (.g E E) fun N=>(aF fn71 (aq E (cD (by omega)) ax) (d8 1))) (oc (cJ E (.g E E) fun N=>(aF fn119 (aq E (aJ ((hD 0 (by omega)).sm (by omega))) (aq E (aJ ((hD 0 (by omega)).sm (by omega))) ax)) (eZ (uD G 0) 1))) (oc (cJ E (.g E E) fun N=>(aV (bt E E) (ag (decide_eq_false (by show ¬((uD G 0-1).sign≠0);simp [uD]))))) (J E (fun N=>cb E E) oz)))))))))))))))))))))))<|fun σ1=>?_
 refine Wn<|df E<|Ck<|aa<|Cr<|Ws (aM E cB E)<|Ws (ae (p:=kMC.is (gLs G n)) E (ac 0 E) (aN Li) bT E)<|Ws (aA E U22)<|Wm E<|Wn<|aw<|tl 30 E (y:=(n:Int)) (by rw [gLs_len])<|bN (fun (i:Nat)=>i≤n) (fun (i:Nat)=>[(1,VP.pt b1 0),(29,kMC.is (gLs G n)),(30,kN6.is (n:Int)),(31,kN6.is (i:Int))]) (fun (i:Nat)=>[OB.box b1 25 kGso (gDs G n,gLs G n)]) (fun (i:Nat)=>n-i) 0 (by omega) (Z E (Z E (Z E (ao E (ag (y:=(0:Int)) (by rfl)) ai)))) (au _) ?_
 intro i hi
 refine Cr<|Ws (aS E E)<|Wn<|aa ?_
 refine aB E (fun h_t32=>?_)<|fun h_t32=>?_
 ·
  refine Ck<|aa<|aw<|Cr<|Wm E<|Ws (aT i E E U22 aE E (v:=((gLs G n).getD i [])) (gd [] (by omega)))<|Ws (aO E aE)<|Wa E<|Wa E<|Wr<|Wm E<|Ws (aA E U23)<|Wm E<|Ws (bt E E)<|Wm E ?_
  refine bV 40 E (fun h=>absurd h (fun h=>h (by rw [gLs_get (by omega),gRow_len])))<|fun h_t40=>?_
  refine Wg E E (aM E cE E)<|Wg E E (ae (p:=kVC.is (gDs G n)) E (ac 0 E) (aU Li) aE E)<|Wg E E (bj E)<|Wg E E (aI E E (c:=((i:Int)+1)) (ay (by omega)))<|Wg E E (aT ((((i:Int)+1)).toNat) E E U23 ab (by omega) (v:=(uD G (i+1))) (dd (by omega)))<|Wg E E (aO E ab)<|Wg E E (aF dp (aq E (aJ ((hD (i+1) (by omega)).sm (by omega))) ax) (dk (uD G (i+1))))<|Wg E E (O.le E E)<|Ws (cb E E)<|Wn ?_
  refine CN E (by have h1:=hP i (by omega);have h2:=Int.sign_eq_one_of_pos h1;have h3:uD G (i+1)=uE G i i i:=rfl;rw [h3];omega) fun h_t49=>?_
  refine cc<|Qb<|ah<|Ws (aI E E (c:=((i:Int)+1)) (ay (by omega)))<|Wm E<|aj ?_
  exact bG (i+1) (by omega) (by omega) (Z E (Z E (Z E (ao E (ag (y:=(((i+1):Nat):Int)) (by rfl)) ai))))<|au _
 ·
  refine Ex<|Cr<|Wa E<|Wn<|am ?_
  exact Qd E (ar E ak) ⟨E,E⟩
abbrev fg:=@c_gso_good
theorem c_gso_Mu (G:Nat→Nat→Int) (n B:Nat) (h0:0<n) (h12:n≤12) (hP:PosU G n) (hD:∀k,k≤n→Sz B (uD G k)) (hB:B≤68719476736) (i j:Nat) (hj:j<i) (hi:i<n) (hs:SymG G) (hL:∀x k,x<n→k<x→Sz B (uE G k x k)):Fn Tryz.prog 143 [kGso.is (gDs G n,gLs G n),kN6.is (i:Int),kN6.is (j:Int)] (VP.tup [kRC.is (rq (frM G i j)),kN6.is 0]):=by
 refine aK Tryz.func143 E E fun m w=>Cr<|a6 .n E fun b1=>a8 .n bU fun b2=>Wa E<|Wn<|aa<|aw<|Cr<|Ws (ae (p:=kGso.is (gDs G n,gLs G n)) E (ac 1 E) Li bi E)<|Ws (f1 fn133 E (fg G n B (by assumption) (by assumption) (by assumption) (by assumption) (by assumption)))<|Ws (di (a:=true) E)<|Wa E<|Wn<|df E<|Cr<|Wm E<|Ws (aS E E)<|Wm E ?_
 refine bV 16 E (fun h=>absurd h (by omega))<|fun h_t16=>?_
 refine Wg E E (bj E)<|Wg E E (aM E cB E)<|Wg E E (ae (p:=kMC.is (gLs G n)) E (ac 1 E) (aN Li) bT E)<|Wg E E (aA E U22)<|Wg E E (cR E E)<|Ws (cb E E)<|Wm E ?_
 refine bV 23 E (fun h=>absurd h (by rw [gLs_len];omega))<|fun h_t23=>?_
 refine Wg E E (bj E)<|Wg E E (aS E E)<|Ws (cb E E)<|Wm E ?_
 refine bV 27 E (fun h=>absurd h (by omega))<|fun h_t27=>?_
 refine Wg E E (bj E)<|Wg E E (bj E)<|Wg E E (cq E E)<|Ws (cb E E)<|Wa E<|Wn ?_
 refine CN E (by omega) fun h_t13=>?_
 refine Cr<|Wm E<|Wm E<|Ws (bR E E)<|Wa E<|Wn ?_
 refine CN E (by omega) fun h_t33=>?_
 refine cc<|Qb<|aa ?_
 refine ba (Γ:=[.fr (VP.pt b1 1),.fr (kMC.is (gLs G n)),.fr (kN6.is (i:Int)),.fr (VP.pim kVC ((gLs G n).getD i [])),.fr (kVC.is ((gLs G n).getD i [])),.fr (kN6.is (j:Int)),.fr (VP.pim kC (uE G j i j)),.fr (kC.is (uE G j i j)),.fr (VP.pt b1 0),.fr (kVC.is (gDs G n)),.fr (kN6.is (j:Int)),.fr (kN6.is ((j:Int)+1)),.fr (VP.pim kC (uD G (j+1))),.fr (kC.is (uD G (j+1))),.fr (VP.tup [kRC.is (rq (frM G i j)),kN6.is 0]),.fr (kRC.is (rq (frM G i j))),.fr (kN6.is 0)]) (J E (fun N=>aM E cB E) (J E (fun N=>ae (p:=kMC.is (gLs G n)) E (mN N 1 E) (aN Li) bT E) (om E E (J E (fun N=>aT i E E U22 aE E (v:=((gLs G n).getD i [])) (gd [] (by omega))) (J E (fun N=>aO E aE) (om E E (J E (fun N=>aT j E E U23 ab E (v:=(uE G j i j)) (gLs_at (by omega) (by omega))) (J E (fun N=>aO E ab) (J E (fun N=>aM E cE E) (J E (fun N=>ae (p:=kVC.is (gDs G n)) E (mN N 1 E) (aU Li) aE E) (om E E (J E (fun N=>aI E E (c:=((j:Int)+1)) (ay (by omega))) (J E (fun N=>aT ((((j:Int)+1)).toNat) E E U23 ab (by omega) (v:=(uD G (j+1))) (dd (by omega))) (J E (fun N=>aO E ab) (J E (fun N=>aV (aF fn134 (aq E (aJ ((hL i j (by omega) (by omega)).sm (by omega))) (aq E (aJ ((hD (j+1) (by omega)).sm (by omega))) ax)) (c_rat_Make (uE G j i j) (uD G (j+1)))) (tup_le (eD (ag (by rw [if_neg (uD_ne hP (by omega)),frM_rmk hs hP hj hi])) (eD (ag (if_neg (uD_ne hP (by omega)))) tup_nil)))) (J E (fun N=>aH E E) (J E (fun N=>aH E E) oz)))))))))))))))))<|fun σ1=>?_
 refine aG .n (aD (l:=kRC) (u:=rq (frM G i j)) 0 E E E aL E Lr)<|Wa E<|Wn<|am ?_
 exact Qd E (a5 E (ac 0 E) aL (ar E ak)) ⟨E,E⟩
theorem c_gso_Star (G:Nat→Nat→Int) (n B:Nat) (h0:0<n) (h12:n≤12) (hP:PosU G n) (hD:∀k,k≤n→Sz B (uD G k)) (hB:B≤68719476736) (i:Nat) (hi:i<n) (hs:SymG G):Fn Tryz.prog 68 [kGso.is (gDs G n,gLs G n),kN6.is (i:Int)] (VP.tup [kRC.is (rq (frS G i)),kN6.is 0]):=by
 refine aK Tryz.func68 E E fun m w=>Cr<|a6 .n E fun b1=>a8 .n bU fun b2=>Wa E<|Wn<|aa<|Cr<|Ws (ae (p:=kGso.is (gDs G n,gLs G n)) E (ac 1 E) Li bi E)<|Ws (f1 fn133 E (fg G n B (by assumption) (by assumption) (by assumption) (by assumption) (by assumption)))<|Ws (di (a:=true) E)<|Wn<|df E<|Ck<|aa<|Cr<|Wm E<|Ws (aS E E) ?_
 refine Wm E ?_
 refine bV 12 E (fun h=>absurd h (by omega))<|fun h_t12=>?_
 refine Wg E E (bj E)<|Wg E E (aM E cB E)<|Wg E E (ae (p:=kMC.is (gLs G n)) E (ac 1 E) (aN Li) bT E)<|Wg E E (aA E U22)<|Wg E E (cR E E)<|Ws (cb E E)<|Wn ?_
 refine CN E (by rw [gLs_len];omega) fun h_t18=>?_
 refine Ck<|aa ?_
 refine ba (Γ:=[.fr (VP.pt b1 0),.fr (kVC.is (gDs G n)),.fr (kN6.is (i:Int)),.fr (kN6.is ((i:Int)+1)),.fr (VP.pim kC (uD G (i+1))),.fr (kC.is (uD G (i+1))),.fr (VP.pt b1 0),.fr (kVC.is (gDs G n)),.fr (kN6.is (i:Int)),.fr (VP.pim kC (uD G i)),.fr (kC.is (uD G i)),.fr (VP.tup [kRC.is (rq (frS G i)),kN6.is 0]),.fr (kRC.is (rq (frS G i))),.fr (kN6.is 0)]) (J E (fun N=>aM E cE E) (J E (fun N=>ae (p:=kVC.is (gDs G n)) E (mN N 1 E) (aU Li) aE E) (om E E (J E (fun N=>aI E E (c:=((i:Int)+1)) (ay (by omega))) (J E (fun N=>aT ((((i:Int)+1)).toNat) E E U23 ab (by omega) (v:=(uD G (i+1))) (dd (by omega))) (J E (fun N=>aO E ab) (J E (fun N=>aM E cE E) (J E (fun N=>ae (p:=kVC.is (gDs G n)) E (mN N 1 E) (aU Li) aE E) (om E E (J E (fun N=>aT i E E U23 ab E (v:=(uD G i)) (dd (by omega))) (J E (fun N=>aO E ab) (J E (fun N=>aV (aF fn134 (aq E (aJ ((hD (i+1) (by omega)).sm (by omega))) (aq E (aJ ((hD i (by omega)).sm (by omega))) ax)) (c_rat_Make (uD G (i+1)) (uD G i))) (tup_le (eD (ag (by rw [if_neg (uD_ne hP (by omega)),frS_rmk hs hP hi])) (eD (ag (if_neg (uD_ne hP (by omega)))) tup_nil)))) (J E (fun N=>aH E E) (J E (fun N=>aH E E) oz))))))))))))))<|fun σ1=>?_
 refine aG .n (aD (l:=kRC) (u:=rq (frS G i)) 0 E E E aL E Lr)<|Wa E<|Wn<|am ?_
 exact Qd E (a5 E (ac 0 E) aL (ar E ak)) ⟨E,E⟩
theorem c_mat_eachII (fid:FuncId) (caps:List VP) (F:Int→Int) (l:List Int) (hok:FnOk Tryz.prog fid) (hF:∀x,x∈l→Fn Tryz.prog fid (kZ.is x::caps) (kC.is (F x))):Fn Tryz.prog 219 [kVZ.is l,VP.clo fid caps] (kVC.is (l.map F)):=by
 refine aK Tryz.func219 E E fun m w=>aR (i:=0) E bu fun hB=>Cr<|Wa E<|Wr<|Wm E<|Ws (aA E U23)<|WP.mk0 l.length .n E E E (by omega) U23 bo aZ fun v1=>Wa E<|Wn<|aa<|Cr<|Wm E<|Ws (aA E U23)<|Wm E<|Wn<|aw ?_
 refine bX (fun (i:Nat) (v:Value)=>i≤l.length) (fun (i:Nat) (v:Value)=>[(0,kVZ.is l),(1,VP.clo fid caps),(5,VP.ex v),(11,kVZ.is l),(12,kN6.is (l.length:Int)),(13,kN6.is (i:Int))]) (fun (i:Nat) (v:Value)=>[OB.row v 29 kC ((l.take i).map F)]) (fun (i:Nat) (v:Value)=>l.length-i) 0 v1 (by omega) (af E E E E (Z E (ao E (ag (y:=(0:Int)) (by rfl)) ai))) (aW (OS.keepLe (a9 (by rfl)) OS.nil)) ?_
 intro i v hi
 refine Cr<|Ws (aS E E)<|Wn<|aa ?_
 refine aB E (fun h_t14=>?_)<|fun h_t14=>?_
 ·
  refine Ck<|aa<|aw<|Cr<|Ws (aT i E E U23 ab E (v:=(l.getD i 0)) (gd 0 (by omega)))<|Ws (aO E ab)<|Ax (l:=kZ) (u:=(l.getD i 0)) z29_Z E ab (fun _=>E) Lr fun b2=>Wn<|ah<|Wm E<|Wm E<|Ws (ae E (ac 0 E) Li ab E)<|Ws (ee E hok (aX E ax) (hF _ (eE 0 (by omega))))<|Ws (bC U23 bo (b9 E bw) E (by decide))<|bL 1 .n E E E Lr U23 bo (by simp;omega) fun v3=>Wa E<|aj<|Qb<|ah ?_
  refine Ws (aI E E (c:=((i:Int)+1)) (ay (by omega)))<|Wm E<|aj<|tr 1 E (y:=((l.take (i+1)).map F)) (eM (by omega)) ?_
  exact bP (i+1) v3 (by omega) (by omega) (af E E E E (Z E (ao E (ag (y:=(((i+1):Nat):Int)) (by rfl)) ai)))<|aW<|OS.skip<|OS.keep OS.nil
 ·
  refine Ex<|Cr<|Wm E<|Wa E<|Wn<|am<|bJ 0 E (kp 0 E (kp 1 E (.hit (i:=4) E (.hit (i:=5) E (kp 11 E (kp 12 E (kp 13 E (kp 14 E (.hit (i:=24) E .nil)))))))))<|tl 4 E (y:=(l.map F)) (by rw [List.take_of_length_le (by omega)]) ?_
  exact Qd E (ar E ak) ⟨E,E⟩
theorem c_mat_eachIIo (fid:FuncId) (caps:List VP) (F:Int→Int) (l:List Int) (hok:FnOk Tryz.prog fid) (hF:∀x,x∈l→Fn Tryz.prog fid (kZ.is x::caps) (kC.is (F x))):Con Tryz.prog 219 [kVZ.is l,VP.clo fid caps] [] (fun p Lo=>∃(v:Value),p=VP.ex v∧Lo=[OB.row v 29 kC (l.map F)]∧True):=by
 refine aK Tryz.func219 E E fun m w=>aR (i:=0) E bu fun hB=>Cr<|Wa E<|Wr<|Wm E<|Ws (aA E U23)<|WP.mk0 l.length .n E E E (by omega) U23 bo aZ fun v1=>Wa E<|Wn<|aa<|Cr<|Wm E<|Ws (aA E U23)<|Wm E<|Wn<|aw ?_
 refine bX (fun (i:Nat) (v:Value)=>i≤l.length) (fun (i:Nat) (v:Value)=>[(0,kVZ.is l),(1,VP.clo fid caps),(5,VP.ex v),(11,kVZ.is l),(12,kN6.is (l.length:Int)),(13,kN6.is (i:Int))]) (fun (i:Nat) (v:Value)=>[OB.row v 29 kC ((l.take i).map F)]) (fun (i:Nat) (v:Value)=>l.length-i) 0 v1 (by omega) (af E E E E (Z E (ao E (ag (y:=(0:Int)) (by rfl)) ai))) (aW (OS.keepLe (a9 (by rfl)) OS.nil)) ?_
 intro i v hi
 refine Cr<|Ws (aS E E)<|Wn<|aa ?_
 refine aB E (fun h_t14=>?_)<|fun h_t14=>?_
 ·
  refine Ck<|aa<|aw<|Cr<|Ws (aT i E E U23 ab E (v:=(l.getD i 0)) (gd 0 (by omega)))<|Ws (aO E ab)<|Ax (l:=kZ) (u:=(l.getD i 0)) z29_Z E ab (fun _=>E) Lr fun b2=>Wn<|ah<|Wm E<|Wm E<|Ws (ae E (ac 0 E) Li ab E)<|Ws (ee E hok (aX E ax) (hF _ (eE 0 (by omega))))<|Ws (bC U23 bo (b9 E bw) E (by decide))<|bL 1 .n E E E Lr U23 bo (by simp;omega) fun v3=>Wa E<|aj<|Qb<|ah ?_
  refine Ws (aI E E (c:=((i:Int)+1)) (ay (by omega)))<|Wm E<|aj<|tr 1 E (y:=((l.take (i+1)).map F)) (eM (by omega)) ?_
  exact bP (i+1) v3 (by omega) (by omega) (af E E E E (Z E (ao E (ag (y:=(((i+1):Nat):Int)) (by rfl)) ai)))<|aW<|OS.skip<|OS.keep OS.nil
 ·
  refine Ex<|Cr<|Wm E<|Wa E<|Wn<|am<|tr 0 E (y:=(l.map F)) (by rw [List.take_of_length_le (by omega)]) ?_
  exact ct (.inl E) E (ar E ak) (au _) ⟨v,E,E,trivial⟩
theorem c_mat_Form1 (l:List Int) (hl:∀x,x∈l→Sm x):Fn Tryz.prog 268 [kVZ.is l] (kVC.is l):=by
 refine aK Tryz.func268 E E fun m w=>Cr<|Wa E<|Wr<|Wm E<|Ws (aF fn219 (aX E (aq E clo_fv ax)) (c_mat_eachII 132 [] (fun x=>x) l fn132 (fun x _=>eO x)))<|Wa E<|Wn<|am<|tl 2 E (y:=l) (by simp) ?_
 exact Qd E (ar E ak) ⟨E,E⟩
theorem c_mat_Form1o (l:List Int):Con Tryz.prog 268 [kVZ.is l] [] (fun p Lo=>∃(v:Value),p=VP.ex v∧Lo=[OB.row v 29 kC l]∧True):=by
 refine aK Tryz.func268 E E fun m w=>Cr<|Wa E<|Wr<|Wm E<|cF (Li:=[]) (L:=[]) .n fn219 (aX E (aq E clo_fv ax)) (c_mat_eachIIo 132 [] (fun x=>x) l fn132 (fun x _=>eO x)) fun p_ Lo_ hp_=>?_
 obtain ⟨v1,rfl,rfl,hx_t4⟩:=hp_
 refine Wa E<|Wn<|am<|tr 0 E (y:=l) (by simp) ?_
 exact ct (.inl E) E (ar E ak) (au _) ⟨v1,E,E,trivial⟩
theorem c_mat_eachRRo (fid:FuncId) (caps:List VP) (F:List Int→List Int) (l:List (List Int)) (hok:FnOk Tryz.prog fid) (hF:∀x,x∈l→Con Tryz.prog fid (kVZ.is x::caps) [] (fun p Lo=>∃u:Value,p=VP.ex u∧Lo=[OB.row u 29 kC (F x)]∧True)):Con Tryz.prog 223 [kMZ.is l,VP.clo fid caps] [] (fun p Lo=>∃(v:Value) (vs:List Value),p=VP.ex v∧Lo=[OB.row v 23 kVal vs,OB.fam vs 29 kC (l.map F)]∧vs.length=l.length):=by
 refine aK Tryz.func223 E E fun m w=>aR (i:=0) E bu fun hB=>Cr<|Wa E<|Wr<|Wm E<|Ws (aA E U22)<|WP.mk0 l.length .n E E E (by omega) U22 cg cA fun v1=>Wa E<|Wn<|aa<|Cr<|Wm E<|Ws (aA E U22)<|Wm E<|Wn<|aw ?_
 refine fl 29 kC<|da (fun (i:Nat) (v:Value) (vs:List Value)=>i≤l.length∧vs.length=i) (fun (i:Nat) (v:Value) (vs:List Value)=>[(0,kMZ.is l),(1,VP.clo fid caps),(5,VP.ex v),(11,kMZ.is l),(12,kN6.is (l.length:Int)),(13,kN6.is (i:Int))]) (fun (i:Nat) (v:Value) (vs:List Value)=>[OB.fam vs 29 kC ((l.take i).map F),OB.row v 23 kVal vs]) (fun (i:Nat) (v:Value) (vs:List Value)=>l.length-i) 0 v1 [] ⟨Nat.zero_le _,E⟩ (af E E E E (Z E (ao E (ag (y:=(0:Int)) (by rfl)) ai))) (aW (OS.keepLe (d9 (by rfl) (by rfl)) (OS.keep OS.nil))) ?_
 intro i v vs ⟨hi,hvs⟩
 refine Cr<|Ws (aS E E)<|Wn<|aa ?_
 refine aB E (fun h_t14=>?_)<|fun h_t14=>?_
 ·
  refine Ck<|aa<|aw<|Cr<|Ws (aT i E E U22 aE E (v:=(l.getD i [])) (gd [] (by omega)))<|Ws (aO E aE)<|Wa E<|Wn<|ah<|Wm E<|Wm E<|Wm E<|WP.callc (Li:=[]) (L:=[OB.fam vs 29 kC ((l.take i).map F),OB.row v 23 kVal vs]) .n E hok (aX E ax) (hF _ (eE [] (by omega))) fun p_ Lo_ hp_=>?_
  obtain ⟨v2,rfl,rfl,_⟩:=hp_
  refine bn 0 E fun hcell_=>Ws (bC U22 cg (bZ E (bf (by assumption)) bw) E (by decide))<|bL 2 .n E E E Lr U22 cg (by simp;omega) fun v3=>Wa E<|aj<|Qb<|ah<|Ws (aI E E (c:=((i:Int)+1)) (ay (by omega)))<|Wm E<|aj<|bD (fam_push 0 E)<|tf 0 E (y:=((l.take (i+1)).map F)) (eM (by omega)) ?_
  exact cM (i+1) v3 (vs++[v2]) (by omega) ⟨by omega,by simp [hvs]⟩ (af E E E E (Z E (ao E (ag (y:=(((i+1):Nat):Int)) (by rfl)) ai)))<|au _
 ·
  refine Ex<|Cr<|Wm E<|Wa E<|Wn<|am ?_
  have hvl:vs.length=l.length:=by omega
  refine tf 0 E (y:=(l.map F)) (by rw [List.take_of_length_le (by omega)])<|bD (bI [1,0] (by decide) E) ?_
  exact ct (.inl E) E (ar E ak) (au _) ⟨v,vs,E,E,hvl⟩
theorem c_mat_Form (l:List (List Int)) (hl:∀r,r∈l→∀x,x∈r→Sm x):Fn Tryz.prog 248 [kMZ.is l] (kMC.is l):=by
 refine aK Tryz.func248 E E fun m w=>Cr<|Wa E<|Wr<|Wm E<|Ws (aF fn223 (aX E (aq E clo_fv ax)) (c_mat_eachRR 268 [] (fun x=>x) l fn268 (fun r hr=>c_mat_Form1 r (hl r hr))))<|Wa E<|Wn<|am<|tl 2 E (y:=l) (by simp) ?_
 exact Qd E (ar E ak) ⟨E,E⟩
theorem c_mat_Formo (l:List (List Int)):Con Tryz.prog 248 [kMZ.is l] [] (fun p Lo=>∃(v:Value) (vs:List Value),p=VP.ex v∧Lo=[OB.row v 23 kVal vs,OB.fam vs 29 kC l]∧vs.length=l.length):=by
 refine aK Tryz.func248 E E fun m w=>Cr<|Wa E<|Wr<|Wm E<|cF (Li:=[]) (L:=[]) .n fn223 (aX E (aq E clo_fv ax)) (c_mat_eachRRo 268 [] (fun x=>x) l fn268 (fun r _=>c_mat_Form1o r)) fun p_ Lo_ hp_=>?_
 obtain ⟨v1,vs_t4,rfl,rfl,hx_t4⟩:=hp_
 refine Wa E<|Wn<|am<|tf 1 E (y:=l) (by simp) ?_
 exact ct (.inl E) E (ar E ak) (au _) ⟨v1,vs_t4,E,E,hx_t4⟩
theorem c_gso_fresh (D:List Int) (Ls:List (List Int)) (hD:∀x,x∈D→Sm x) (hL:∀r,r∈Ls→∀x,x∈r→Sm x) (hDl:D.length≤100) (hLl:Ls.length≤100):Con Tryz.prog 216 [kGso.is (D,Ls)] [] (fun p Lo=>∃(vD:Value) (vL:Value) (vs:List Value),p=(kPair kVal kVal).is (vD,vL)∧Lo=[OB.row vD 29 kC D,OB.row vL 23 kVal vs,OB.fam vs 29 kC Ls]∧vs.length=Ls.length):=by
 refine aK Tryz.func216 E E fun m w=>Cr<|a6 .n E fun b1=>a8 .n cK fun b2=>Wn ?_
 refine CW.cut3 (fun (pb:Nat) (vD:Value) (vL:Value)=>True) (fun (pb:Nat) (vD:Value) (vL:Value)=>[(1,VP.pt b1 0),(2,VP.pt b2 0),(3,VP.pt pb 0)]) (fun (pb:Nat) (vD:Value) (vL:Value)=>[OB.row vL 23 kVal (List.replicate Ls.length nilV),OB.row vD 29 kC (List.replicate D.length 0),OB.box pb 25 (kPair kVal kVal) (vD,vL),OB.box b2 25 (kPair kVal kVal) (nilV,nilV),OB.box b1 25 kGso (D,Ls)]) ?_ ?_
 ·
  refine dy (by kernel_rfl)<|br 0 E (by kernel_rfl) (by kernel_rfl) (by kernel_rfl) (fun _ _ _ _ _ h=>h) .n (OV.fa E cE E)<|br 4 E (by kernel_rfl) (by kernel_rfl) (by kernel_rfl) (fun _ _ _ _ _ h=>h) .n (OV.fa E cB E) ?_
  refine bv 1 [5,9] ⟨?_,⟨?_,⟨?_,trivial⟩⟩⟩
  ·
   refine aC E .n (ae (p:=kVC.is D) E (ac 1 E) (aU Li) aE E)<|br 2 E (by kernel_rfl) (by kernel_rfl) (by kernel_rfl) (fun _ _ _ _ _ h=>h) .n (dc E U23) ?_
   refine bv 3 [5,9] ⟨?_,⟨?_,⟨?_,trivial⟩⟩⟩
   ·
    refine bl E<|bp D.length .n E E E (by omega) U23 bo aZ fun v3=>aj<|bk ?_
    refine bv 5 [9] ⟨?_,⟨?_,trivial⟩⟩
    ·
     refine aC E .n (ae (p:=kMC.is Ls) E (ac 2 E) (aN Li) bT E)<|br 6 E (by kernel_rfl) (by kernel_rfl) (by kernel_rfl) (fun _ _ _ _ _ h=>h) .n (dc E U22) ?_
     refine bv 7 [9] ⟨?_,⟨?_,trivial⟩⟩
     ·
      refine bl E<|bp Ls.length .n E E E (by omega) U22 cg cA fun v4=>aj<|bk<|bn 1 E fun hcell_=>bn 0 E fun hcell_=>br 8 E (by kernel_rfl) (by kernel_rfl) (by kernel_rfl) (fun _ _ _ _ _ h=>h) .n (cu co E (bz E (bf (by assumption)) (bz E (bf (by assumption)) bH)) (.cons E (aU Li) (.cons E (aN Li) (.nil _))))<|az 9<|bl E<|a8 .n cK fun b5=>aj<|bk<|az 10<|bg E .n (aD (l:=(kPair kVal kVal)) (u:=(v3,v4)) 0 E E E bi E Lr)<|bc (by kernel_rfl)<|bD (bI [1,2,0,3,4] (by decide) E) ?_
      exact cr b5 v3 v4 trivial (Z E (Z E (Z E ai)))<|aW<|OS.keepLe (a9 (by rfl))<|OS.keep<|OS.keep<|OS.keepLe (cf (by rfl))<|OS.keep OS.nil
     ·
      refine bl E<|a8 .n cK fun b6=>aj<|bk<|az 7<|bl E<|bp Ls.length .n E E E (by omega) U22 cg cA fun v7=>aj<|bk<|bn 2 E fun hcell_=>bn 0 E fun hcell_=>br 8 E (by kernel_rfl) (by kernel_rfl) (by kernel_rfl) (fun _ _ _ _ _ h=>h) .n (cu co E (bz E (bf (by assumption)) (bz E (bf (by assumption)) bH)) (.cons E (aU Li) (.cons E (aN Li) (.nil _))))<|az 10<|bg E .n (aD (l:=(kPair kVal kVal)) (u:=(v3,v7)) 1 E E E bi E Lr)<|bc (by kernel_rfl)<|bD (bI [0,2,1,3,4] (by decide) E) ?_
      exact cr b6 v3 v7 trivial (Z E (Z E (Z E ai)))<|aW<|OS.keepLe (a9 (by rfl))<|OS.keep<|OS.keep<|OS.keepLe (cf (by rfl))<|OS.keep OS.nil
    ·
     refine bl E<|a8 .n cK fun b8=>aj<|bk<|az 5<|aC E .n (ae (p:=kMC.is Ls) E (ac 3 E) (aN Li) bT E)<|br 6 E (by kernel_rfl) (by kernel_rfl) (by kernel_rfl) (fun _ _ _ _ _ h=>h) .n (dc E U22)<|az 7<|bl E<|bp Ls.length .n E E E (by omega) U22 cg cA fun v9=>aj<|bk<|bn 2 E fun hcell_=>bn 0 E fun hcell_=>br 8 E (by kernel_rfl) (by kernel_rfl) (by kernel_rfl) (fun _ _ _ _ _ h=>h) .n (cu co E (bz E (bf (by assumption)) (bz E (bf (by assumption)) bH)) (.cons E (aU Li) (.cons E (aN Li) (.nil _))))<|az 10<|bg E .n (aD (l:=(kPair kVal kVal)) (u:=(v3,v9)) 1 E E E bi E Lr)<|bc (by kernel_rfl)<|bD (bI [0,2,1,3,4] (by decide) E) ?_
     exact cr b8 v3 v9 trivial (Z E (Z E (Z E ai)))<|aW<|OS.keepLe (a9 (by rfl))<|OS.keep<|OS.keep<|OS.keepLe (cf (by rfl))<|OS.keep OS.nil
   ·
    refine aC E .n (ae (p:=kMC.is Ls) E (ac 1 E) (aN Li) bT E)<|br 6 E (by kernel_rfl) (by kernel_rfl) (by kernel_rfl) (fun _ _ _ _ _ h=>h) .n (dc E U22) ?_
    refine bv 3 [7,9] ⟨?_,⟨?_,⟨?_,trivial⟩⟩⟩
    ·
     refine bl E<|bp D.length .n E E E (by omega) U23 bo aZ fun v10=>aj<|bk ?_
     refine bv 7 [9] ⟨?_,⟨?_,trivial⟩⟩
     ·
      refine bl E<|bp Ls.length .n E E E (by omega) U22 cg cA fun v11=>aj<|bk<|bn 1 E fun hcell_=>bn 0 E fun hcell_=>br 8 E (by kernel_rfl) (by kernel_rfl) (by kernel_rfl) (fun _ _ _ _ _ h=>h) .n (cu co E (bz E (bf (by assumption)) (bz E (bf (by assumption)) bH)) (.cons E (aU Li) (.cons E (aN Li) (.nil _))))<|az 9<|bl E<|a8 .n cK fun b12=>aj<|bk<|az 10<|bg E .n (aD (l:=(kPair kVal kVal)) (u:=(v10,v11)) 0 E E E bi E Lr)<|bc (by kernel_rfl)<|bD (bI [1,2,0,3,4] (by decide) E) ?_
      exact cr b12 v10 v11 trivial (Z E (Z E (Z E ai)))<|aW<|OS.keepLe (a9 (by rfl))<|OS.keep<|OS.keep<|OS.keepLe (cf (by rfl))<|OS.keep OS.nil
     ·
      refine bl E<|a8 .n cK fun b13=>aj<|bk<|az 7<|bl E<|bp Ls.length .n E E E (by omega) U22 cg cA fun v14=>aj<|bk<|bn 2 E fun hcell_=>bn 0 E fun hcell_=>br 8 E (by kernel_rfl) (by kernel_rfl) (by kernel_rfl) (fun _ _ _ _ _ h=>h) .n (cu co E (bz E (bf (by assumption)) (bz E (bf (by assumption)) bH)) (.cons E (aU Li) (.cons E (aN Li) (.nil _))))<|az 10<|bg E .n (aD (l:=(kPair kVal kVal)) (u:=(v10,v14)) 1 E E E bi E Lr)<|bc (by kernel_rfl)<|bD (bI [0,2,1,3,4] (by decide) E) ?_
      exact cr b13 v10 v14 trivial (Z E (Z E (Z E ai)))<|aW<|OS.keepLe (a9 (by rfl))<|OS.keep<|OS.keep<|OS.keepLe (cf (by rfl))<|OS.keep OS.nil
    ·
     refine bl E<|bp Ls.length .n E E E (by omega) U22 cg cA fun v15=>aj<|bk ?_
     refine bv 3 [9] ⟨?_,⟨?_,trivial⟩⟩
     ·
      refine bl E<|bp D.length .n E E E (by omega) U23 bo aZ fun v16=>aj<|bk<|bn 0 E fun hcell_=>bn 1 E fun hcell_=>br 8 E (by kernel_rfl) (by kernel_rfl) (by kernel_rfl) (fun _ _ _ _ _ h=>h) .n (cu co E (bz E (bf (by assumption)) (bz E (bf (by assumption)) bH)) (.cons E (aU Li) (.cons E (aN Li) (.nil _))))<|az 9<|bl E<|a8 .n cK fun b17=>aj<|bk<|az 10<|bg E .n (aD (l:=(kPair kVal kVal)) (u:=(v16,v15)) 0 E E E bi E Lr)<|bc (by kernel_rfl)<|bD (bI [2,1,0,3,4] (by decide) E) ?_
      exact cr b17 v16 v15 trivial (Z E (Z E (Z E ai)))<|aW<|OS.keepLe (a9 (by rfl))<|OS.keep<|OS.keep<|OS.keepLe (cf (by rfl))<|OS.keep OS.nil
     ·
      refine bl E<|a8 .n cK fun b18=>aj<|bk<|az 3<|bl E<|bp D.length .n E E E (by omega) U23 bo aZ fun v19=>aj<|bk<|bn 0 E fun hcell_=>bn 2 E fun hcell_=>br 8 E (by kernel_rfl) (by kernel_rfl) (by kernel_rfl) (fun _ _ _ _ _ h=>h) .n (cu co E (bz E (bf (by assumption)) (bz E (bf (by assumption)) bH)) (.cons E (aU Li) (.cons E (aN Li) (.nil _))))<|az 10<|bg E .n (aD (l:=(kPair kVal kVal)) (u:=(v19,v15)) 1 E E E bi E Lr)<|bc (by kernel_rfl)<|bD (bI [2,0,1,3,4] (by decide) E) ?_
      exact cr b18 v19 v15 trivial (Z E (Z E (Z E ai)))<|aW<|OS.keepLe (a9 (by rfl))<|OS.keep<|OS.keep<|OS.keepLe (cf (by rfl))<|OS.keep OS.nil
    ·
     refine bl E<|a8 .n cK fun b20=>aj<|bk ?_
     refine bv 3 [7] ⟨?_,⟨?_,trivial⟩⟩
     ·
      refine bl E<|bp D.length .n E E E (by omega) U23 bo aZ fun v21=>aj<|bk<|az 7<|bl E<|bp Ls.length .n E E E (by omega) U22 cg cA fun v22=>aj<|bk<|bn 1 E fun hcell_=>bn 0 E fun hcell_=>br 8 E (by kernel_rfl) (by kernel_rfl) (by kernel_rfl) (fun _ _ _ _ _ h=>h) .n (cu co E (bz E (bf (by assumption)) (bz E (bf (by assumption)) bH)) (.cons E (aU Li) (.cons E (aN Li) (.nil _))))<|az 10<|bg E .n (aD (l:=(kPair kVal kVal)) (u:=(v21,v22)) 2 E E E bi E Lr)<|bc (by kernel_rfl)<|bD (bI [0,1,2,3,4] (by decide) E) ?_
      exact cr b20 v21 v22 trivial (Z E (Z E (Z E ai)))<|aW<|OS.keepLe (a9 (by rfl))<|OS.keep<|OS.keep<|OS.keepLe (cf (by rfl))<|OS.keep OS.nil
     ·
      refine bl E<|bp Ls.length .n E E E (by omega) U22 cg cA fun v23=>aj<|bk<|az 3<|bl E<|bp D.length .n E E E (by omega) U23 bo aZ fun v24=>aj<|bk<|bn 0 E fun hcell_=>bn 1 E fun hcell_=>br 8 E (by kernel_rfl) (by kernel_rfl) (by kernel_rfl) (fun _ _ _ _ _ h=>h) .n (cu co E (bz E (bf (by assumption)) (bz E (bf (by assumption)) bH)) (.cons E (aU Li) (.cons E (aN Li) (.nil _))))<|az 10<|bg E .n (aD (l:=(kPair kVal kVal)) (u:=(v24,v23)) 2 E E E bi E Lr)<|bc (by kernel_rfl)<|bD (bI [1,0,2,3,4] (by decide) E) ?_
      exact cr b20 v24 v23 trivial (Z E (Z E (Z E ai)))<|aW<|OS.keepLe (a9 (by rfl))<|OS.keep<|OS.keep<|OS.keepLe (cf (by rfl))<|OS.keep OS.nil
   ·
    refine bl E<|a8 .n cK fun b25=>aj<|bk ?_
    refine bv 3 [5] ⟨?_,⟨?_,trivial⟩⟩
    ·
     refine bl E<|bp D.length .n E E E (by omega) U23 bo aZ fun v26=>aj<|bk<|az 5<|aC E .n (ae (p:=kMC.is Ls) E (ac 3 E) (aN Li) bT E)<|br 6 E (by kernel_rfl) (by kernel_rfl) (by kernel_rfl) (fun _ _ _ _ _ h=>h) .n (dc E U22)<|az 7<|bl E<|bp Ls.length .n E E E (by omega) U22 cg cA fun v27=>aj<|bk<|bn 1 E fun hcell_=>bn 0 E fun hcell_=>br 8 E (by kernel_rfl) (by kernel_rfl) (by kernel_rfl) (fun _ _ _ _ _ h=>h) .n (cu co E (bz E (bf (by assumption)) (bz E (bf (by assumption)) bH)) (.cons E (aU Li) (.cons E (aN Li) (.nil _))))<|az 10<|bg E .n (aD (l:=(kPair kVal kVal)) (u:=(v26,v27)) 2 E E E bi E Lr)<|bc (by kernel_rfl)<|bD (bI [0,1,2,3,4] (by decide) E) ?_
     exact cr b25 v26 v27 trivial (Z E (Z E (Z E ai)))<|aW<|OS.keepLe (a9 (by rfl))<|OS.keep<|OS.keep<|OS.keepLe (cf (by rfl))<|OS.keep OS.nil
    ·
     refine aC E .n (ae (p:=kMC.is Ls) E (ac 2 E) (aN Li) bT E)<|br 6 E (by kernel_rfl) (by kernel_rfl) (by kernel_rfl) (fun _ _ _ _ _ h=>h) .n (dc E U22) ?_
     refine bv 3 [7] ⟨?_,⟨?_,trivial⟩⟩
     ·
      refine bl E<|bp D.length .n E E E (by omega) U23 bo aZ fun v28=>aj<|bk<|az 7<|bl E<|bp Ls.length .n E E E (by omega) U22 cg cA fun v29=>aj<|bk<|bn 1 E fun hcell_=>bn 0 E fun hcell_=>br 8 E (by kernel_rfl) (by kernel_rfl) (by kernel_rfl) (fun _ _ _ _ _ h=>h) .n (cu co E (bz E (bf (by assumption)) (bz E (bf (by assumption)) bH)) (.cons E (aU Li) (.cons E (aN Li) (.nil _))))<|az 10<|bg E .n (aD (l:=(kPair kVal kVal)) (u:=(v28,v29)) 2 E E E bi E Lr)<|bc (by kernel_rfl)<|bD (bI [0,1,2,3,4] (by decide) E) ?_
      exact cr b25 v28 v29 trivial (Z E (Z E (Z E ai)))<|aW<|OS.keepLe (a9 (by rfl))<|OS.keep<|OS.keep<|OS.keepLe (cf (by rfl))<|OS.keep OS.nil
     ·
      refine bl E<|bp Ls.length .n E E E (by omega) U22 cg cA fun v30=>aj<|bk<|az 3<|bl E<|bp D.length .n E E E (by omega) U23 bo aZ fun v31=>aj<|bk<|bn 0 E fun hcell_=>bn 1 E fun hcell_=>br 8 E (by kernel_rfl) (by kernel_rfl) (by kernel_rfl) (fun _ _ _ _ _ h=>h) .n (cu co E (bz E (bf (by assumption)) (bz E (bf (by assumption)) bH)) (.cons E (aU Li) (.cons E (aN Li) (.nil _))))<|az 10<|bg E .n (aD (l:=(kPair kVal kVal)) (u:=(v31,v30)) 2 E E E bi E Lr)<|bc (by kernel_rfl)<|bD (bI [1,0,2,3,4] (by decide) E) ?_
      exact cr b25 v31 v30 trivial (Z E (Z E (Z E ai)))<|aW<|OS.keepLe (a9 (by rfl))<|OS.keep<|OS.keep<|OS.keepLe (cf (by rfl))<|OS.keep OS.nil
  ·
   refine aC E .n (ae (p:=kMC.is Ls) E (ac 1 E) (aN Li) bT E)<|br 6 E (by kernel_rfl) (by kernel_rfl) (by kernel_rfl) (fun _ _ _ _ _ h=>h) .n (dc E U22) ?_
   refine bv 1 [7,9] ⟨?_,⟨?_,⟨?_,trivial⟩⟩⟩
   ·
    refine aC E .n (ae (p:=kVC.is D) E (ac 1 E) (aU Li) aE E)<|br 2 E (by kernel_rfl) (by kernel_rfl) (by kernel_rfl) (fun _ _ _ _ _ h=>h) .n (dc E U23) ?_
    refine bv 3 [7,9] ⟨?_,⟨?_,⟨?_,trivial⟩⟩⟩
    ·
     refine bl E<|bp D.length .n E E E (by omega) U23 bo aZ fun v32=>aj<|bk ?_
     refine bv 7 [9] ⟨?_,⟨?_,trivial⟩⟩
     ·
      refine bl E<|bp Ls.length .n E E E (by omega) U22 cg cA fun v33=>aj<|bk<|bn 1 E fun hcell_=>bn 0 E fun hcell_=>br 8 E (by kernel_rfl) (by kernel_rfl) (by kernel_rfl) (fun _ _ _ _ _ h=>h) .n (cu co E (bz E (bf (by assumption)) (bz E (bf (by assumption)) bH)) (.cons E (aU Li) (.cons E (aN Li) (.nil _))))<|az 9<|bl E<|a8 .n cK fun b34=>aj<|bk<|az 10<|bg E .n (aD (l:=(kPair kVal kVal)) (u:=(v32,v33)) 0 E E E bi E Lr)<|bc (by kernel_rfl)<|bD (bI [1,2,0,3,4] (by decide) E) ?_
      exact cr b34 v32 v33 trivial (Z E (Z E (Z E ai)))<|aW<|OS.keepLe (a9 (by rfl))<|OS.keep<|OS.keep<|OS.keepLe (cf (by rfl))<|OS.keep OS.nil
     ·
      refine bl E<|a8 .n cK fun b35=>aj<|bk<|az 7<|bl E<|bp Ls.length .n E E E (by omega) U22 cg cA fun v36=>aj<|bk<|bn 2 E fun hcell_=>bn 0 E fun hcell_=>br 8 E (by kernel_rfl) (by kernel_rfl) (by kernel_rfl) (fun _ _ _ _ _ h=>h) .n (cu co E (bz E (bf (by assumption)) (bz E (bf (by assumption)) bH)) (.cons E (aU Li) (.cons E (aN Li) (.nil _))))<|az 10<|bg E .n (aD (l:=(kPair kVal kVal)) (u:=(v32,v36)) 1 E E E bi E Lr)<|bc (by kernel_rfl)<|bD (bI [0,2,1,3,4] (by decide) E) ?_
      exact cr b35 v32 v36 trivial (Z E (Z E (Z E ai)))<|aW<|OS.keepLe (a9 (by rfl))<|OS.keep<|OS.keep<|OS.keepLe (cf (by rfl))<|OS.keep OS.nil
    ·
     refine bl E<|bp Ls.length .n E E E (by omega) U22 cg cA fun v37=>aj<|bk ?_
     refine bv 3 [9] ⟨?_,⟨?_,trivial⟩⟩
     ·
      refine bl E<|bp D.length .n E E E (by omega) U23 bo aZ fun v38=>aj<|bk<|bn 0 E fun hcell_=>bn 1 E fun hcell_=>br 8 E (by kernel_rfl) (by kernel_rfl) (by kernel_rfl) (fun _ _ _ _ _ h=>h) .n (cu co E (bz E (bf (by assumption)) (bz E (bf (by assumption)) bH)) (.cons E (aU Li) (.cons E (aN Li) (.nil _))))<|az 9<|bl E<|a8 .n cK fun b39=>aj<|bk<|az 10<|bg E .n (aD (l:=(kPair kVal kVal)) (u:=(v38,v37)) 0 E E E bi E Lr)<|bc (by kernel_rfl)<|bD (bI [2,1,0,3,4] (by decide) E) ?_
      exact cr b39 v38 v37 trivial (Z E (Z E (Z E ai)))<|aW<|OS.keepLe (a9 (by rfl))<|OS.keep<|OS.keep<|OS.keepLe (cf (by rfl))<|OS.keep OS.nil
     ·
      refine bl E<|a8 .n cK fun b40=>aj<|bk<|az 3<|bl E<|bp D.length .n E E E (by omega) U23 bo aZ fun v41=>aj<|bk<|bn 0 E fun hcell_=>bn 2 E fun hcell_=>br 8 E (by kernel_rfl) (by kernel_rfl) (by kernel_rfl) (fun _ _ _ _ _ h=>h) .n (cu co E (bz E (bf (by assumption)) (bz E (bf (by assumption)) bH)) (.cons E (aU Li) (.cons E (aN Li) (.nil _))))<|az 10<|bg E .n (aD (l:=(kPair kVal kVal)) (u:=(v41,v37)) 1 E E E bi E Lr)<|bc (by kernel_rfl)<|bD (bI [2,0,1,3,4] (by decide) E) ?_
      exact cr b40 v41 v37 trivial (Z E (Z E (Z E ai)))<|aW<|OS.keepLe (a9 (by rfl))<|OS.keep<|OS.keep<|OS.keepLe (cf (by rfl))<|OS.keep OS.nil
    ·
     refine bl E<|a8 .n cK fun b42=>aj<|bk ?_
     refine bv 3 [7] ⟨?_,⟨?_,trivial⟩⟩
     ·
      refine bl E<|bp D.length .n E E E (by omega) U23 bo aZ fun v43=>aj<|bk<|az 7<|bl E<|bp Ls.length .n E E E (by omega) U22 cg cA fun v44=>aj<|bk<|bn 1 E fun hcell_=>bn 0 E fun hcell_=>br 8 E (by kernel_rfl) (by kernel_rfl) (by kernel_rfl) (fun _ _ _ _ _ h=>h) .n (cu co E (bz E (bf (by assumption)) (bz E (bf (by assumption)) bH)) (.cons E (aU Li) (.cons E (aN Li) (.nil _))))<|az 10<|bg E .n (aD (l:=(kPair kVal kVal)) (u:=(v43,v44)) 2 E E E bi E Lr)<|bc (by kernel_rfl)<|bD (bI [0,1,2,3,4] (by decide) E) ?_
      exact cr b42 v43 v44 trivial (Z E (Z E (Z E ai)))<|aW<|OS.keepLe (a9 (by rfl))<|OS.keep<|OS.keep<|OS.keepLe (cf (by rfl))<|OS.keep OS.nil
     ·
      refine bl E<|bp Ls.length .n E E E (by omega) U22 cg cA fun v45=>aj<|bk<|az 3<|bl E<|bp D.length .n E E E (by omega) U23 bo aZ fun v46=>aj<|bk<|bn 0 E fun hcell_=>bn 1 E fun hcell_=>br 8 E (by kernel_rfl) (by kernel_rfl) (by kernel_rfl) (fun _ _ _ _ _ h=>h) .n (cu co E (bz E (bf (by assumption)) (bz E (bf (by assumption)) bH)) (.cons E (aU Li) (.cons E (aN Li) (.nil _))))<|az 10<|bg E .n (aD (l:=(kPair kVal kVal)) (u:=(v46,v45)) 2 E E E bi E Lr)<|bc (by kernel_rfl)<|bD (bI [1,0,2,3,4] (by decide) E) ?_
      exact cr b42 v46 v45 trivial (Z E (Z E (Z E ai)))<|aW<|OS.keepLe (a9 (by rfl))<|OS.keep<|OS.keep<|OS.keepLe (cf (by rfl))<|OS.keep OS.nil
   ·
    refine bl E<|bp Ls.length .n E E E (by omega) U22 cg cA fun v47=>aj<|bk ?_
    refine bv 1 [9] ⟨?_,⟨?_,trivial⟩⟩
    ·
     refine aC E .n (ae (p:=kVC.is D) E (ac 2 E) (aU Li) aE E)<|br 2 E (by kernel_rfl) (by kernel_rfl) (by kernel_rfl) (fun _ _ _ _ _ h=>h) .n (dc E U23) ?_
     refine bv 3 [9] ⟨?_,⟨?_,trivial⟩⟩
     ·
      refine bl E<|bp D.length .n E E E (by omega) U23 bo aZ fun v48=>aj<|bk<|bn 0 E fun hcell_=>bn 1 E fun hcell_=>br 8 E (by kernel_rfl) (by kernel_rfl) (by kernel_rfl) (fun _ _ _ _ _ h=>h) .n (cu co E (bz E (bf (by assumption)) (bz E (bf (by assumption)) bH)) (.cons E (aU Li) (.cons E (aN Li) (.nil _))))<|az 9<|bl E<|a8 .n cK fun b49=>aj<|bk<|az 10<|bg E .n (aD (l:=(kPair kVal kVal)) (u:=(v48,v47)) 0 E E E bi E Lr)<|bc (by kernel_rfl)<|bD (bI [2,1,0,3,4] (by decide) E) ?_
      exact cr b49 v48 v47 trivial (Z E (Z E (Z E ai)))<|aW<|OS.keepLe (a9 (by rfl))<|OS.keep<|OS.keep<|OS.keepLe (cf (by rfl))<|OS.keep OS.nil
     ·
      refine bl E<|a8 .n cK fun b50=>aj<|bk<|az 3<|bl E<|bp D.length .n E E E (by omega) U23 bo aZ fun v51=>aj<|bk<|bn 0 E fun hcell_=>bn 2 E fun hcell_=>br 8 E (by kernel_rfl) (by kernel_rfl) (by kernel_rfl) (fun _ _ _ _ _ h=>h) .n (cu co E (bz E (bf (by assumption)) (bz E (bf (by assumption)) bH)) (.cons E (aU Li) (.cons E (aN Li) (.nil _))))<|az 10<|bg E .n (aD (l:=(kPair kVal kVal)) (u:=(v51,v47)) 1 E E E bi E Lr)<|bc (by kernel_rfl)<|bD (bI [2,0,1,3,4] (by decide) E) ?_
      exact cr b50 v51 v47 trivial (Z E (Z E (Z E ai)))<|aW<|OS.keepLe (a9 (by rfl))<|OS.keep<|OS.keep<|OS.keepLe (cf (by rfl))<|OS.keep OS.nil
    ·
     refine bl E<|a8 .n cK fun b52=>aj<|bk<|az 1<|aC E .n (ae (p:=kVC.is D) E (ac 3 E) (aU Li) aE E)<|br 2 E (by kernel_rfl) (by kernel_rfl) (by kernel_rfl) (fun _ _ _ _ _ h=>h) .n (dc E U23)<|az 3<|bl E<|bp D.length .n E E E (by omega) U23 bo aZ fun v53=>aj<|bk<|bn 0 E fun hcell_=>bn 2 E fun hcell_=>br 8 E (by kernel_rfl) (by kernel_rfl) (by kernel_rfl) (fun _ _ _ _ _ h=>h) .n (cu co E (bz E (bf (by assumption)) (bz E (bf (by assumption)) bH)) (.cons E (aU Li) (.cons E (aN Li) (.nil _))))<|az 10<|bg E .n (aD (l:=(kPair kVal kVal)) (u:=(v53,v47)) 1 E E E bi E Lr)<|bc (by kernel_rfl)<|bD (bI [2,0,1,3,4] (by decide) E) ?_
     exact cr b52 v53 v47 trivial (Z E (Z E (Z E ai)))<|aW<|OS.keepLe (a9 (by rfl))<|OS.keep<|OS.keep<|OS.keepLe (cf (by rfl))<|OS.keep OS.nil
   ·
    refine bl E<|a8 .n cK fun b54=>aj<|bk ?_
    refine bv 1 [7] ⟨?_,⟨?_,trivial⟩⟩
    ·
     refine aC E .n (ae (p:=kVC.is D) E (ac 2 E) (aU Li) aE E)<|br 2 E (by kernel_rfl) (by kernel_rfl) (by kernel_rfl) (fun _ _ _ _ _ h=>h) .n (dc E U23) ?_
     refine bv 3 [7] ⟨?_,⟨?_,trivial⟩⟩
     ·
      refine bl E<|bp D.length .n E E E (by omega) U23 bo aZ fun v55=>aj<|bk<|az 7<|bl E<|bp Ls.length .n E E E (by omega) U22 cg cA fun v56=>aj<|bk<|bn 1 E fun hcell_=>bn 0 E fun hcell_=>br 8 E (by kernel_rfl) (by kernel_rfl) (by kernel_rfl) (fun _ _ _ _ _ h=>h) .n (cu co E (bz E (bf (by assumption)) (bz E (bf (by assumption)) bH)) (.cons E (aU Li) (.cons E (aN Li) (.nil _))))<|az 10<|bg E .n (aD (l:=(kPair kVal kVal)) (u:=(v55,v56)) 2 E E E bi E Lr)<|bc (by kernel_rfl)<|bD (bI [0,1,2,3,4] (by decide) E) ?_
      exact cr b54 v55 v56 trivial (Z E (Z E (Z E ai)))<|aW<|OS.keepLe (a9 (by rfl))<|OS.keep<|OS.keep<|OS.keepLe (cf (by rfl))<|OS.keep OS.nil
     ·
      refine bl E<|bp Ls.length .n E E E (by omega) U22 cg cA fun v57=>aj<|bk<|az 3<|bl E<|bp D.length .n E E E (by omega) U23 bo aZ fun v58=>aj<|bk<|bn 0 E fun hcell_=>bn 1 E fun hcell_=>br 8 E (by kernel_rfl) (by kernel_rfl) (by kernel_rfl) (fun _ _ _ _ _ h=>h) .n (cu co E (bz E (bf (by assumption)) (bz E (bf (by assumption)) bH)) (.cons E (aU Li) (.cons E (aN Li) (.nil _))))<|az 10<|bg E .n (aD (l:=(kPair kVal kVal)) (u:=(v58,v57)) 2 E E E bi E Lr)<|bc (by kernel_rfl)<|bD (bI [1,0,2,3,4] (by decide) E) ?_
      exact cr b54 v58 v57 trivial (Z E (Z E (Z E ai)))<|aW<|OS.keepLe (a9 (by rfl))<|OS.keep<|OS.keep<|OS.keepLe (cf (by rfl))<|OS.keep OS.nil
    ·
     refine bl E<|bp Ls.length .n E E E (by omega) U22 cg cA fun v59=>aj<|bk<|az 1<|aC E .n (ae (p:=kVC.is D) E (ac 3 E) (aU Li) aE E)<|br 2 E (by kernel_rfl) (by kernel_rfl) (by kernel_rfl) (fun _ _ _ _ _ h=>h) .n (dc E U23)<|az 3<|bl E<|bp D.length .n E E E (by omega) U23 bo aZ fun v60=>aj<|bk<|bn 0 E fun hcell_=>bn 1 E fun hcell_=>br 8 E (by kernel_rfl) (by kernel_rfl) (by kernel_rfl) (fun _ _ _ _ _ h=>h) .n (cu co E (bz E (bf (by assumption)) (bz E (bf (by assumption)) bH)) (.cons E (aU Li) (.cons E (aN Li) (.nil _))))<|az 10<|bg E .n (aD (l:=(kPair kVal kVal)) (u:=(v60,v59)) 2 E E E bi E Lr)<|bc (by kernel_rfl)<|bD (bI [1,0,2,3,4] (by decide) E) ?_
     exact cr b54 v60 v59 trivial (Z E (Z E (Z E ai)))<|aW<|OS.keepLe (a9 (by rfl))<|OS.keep<|OS.keep<|OS.keepLe (cf (by rfl))<|OS.keep OS.nil
  ·
   refine bl E<|a8 .n cK fun b61=>aj<|bk ?_
   refine bv 1 [5] ⟨?_,⟨?_,trivial⟩⟩
   ·
    refine aC E .n (ae (p:=kVC.is D) E (ac 2 E) (aU Li) aE E)<|br 2 E (by kernel_rfl) (by kernel_rfl) (by kernel_rfl) (fun _ _ _ _ _ h=>h) .n (dc E U23) ?_
    refine bv 3 [5] ⟨?_,⟨?_,trivial⟩⟩
    ·
     refine bl E<|bp D.length .n E E E (by omega) U23 bo aZ fun v62=>aj<|bk<|az 5<|aC E .n (ae (p:=kMC.is Ls) E (ac 3 E) (aN Li) bT E)<|br 6 E (by kernel_rfl) (by kernel_rfl) (by kernel_rfl) (fun _ _ _ _ _ h=>h) .n (dc E U22)<|az 7<|bl E<|bp Ls.length .n E E E (by omega) U22 cg cA fun v63=>aj<|bk<|bn 1 E fun hcell_=>bn 0 E fun hcell_=>br 8 E (by kernel_rfl) (by kernel_rfl) (by kernel_rfl) (fun _ _ _ _ _ h=>h) .n (cu co E (bz E (bf (by assumption)) (bz E (bf (by assumption)) bH)) (.cons E (aU Li) (.cons E (aN Li) (.nil _))))<|az 10<|bg E .n (aD (l:=(kPair kVal kVal)) (u:=(v62,v63)) 2 E E E bi E Lr)<|bc (by kernel_rfl)<|bD (bI [0,1,2,3,4] (by decide) E) ?_
     exact cr b61 v62 v63 trivial (Z E (Z E (Z E ai)))<|aW<|OS.keepLe (a9 (by rfl))<|OS.keep<|OS.keep<|OS.keepLe (cf (by rfl))<|OS.keep OS.nil
    ·
     refine aC E .n (ae (p:=kMC.is Ls) E (ac 2 E) (aN Li) bT E)<|br 6 E (by kernel_rfl) (by kernel_rfl) (by kernel_rfl) (fun _ _ _ _ _ h=>h) .n (dc E U22) ?_
     refine bv 3 [7] ⟨?_,⟨?_,trivial⟩⟩
     ·
      refine bl E<|bp D.length .n E E E (by omega) U23 bo aZ fun v64=>aj<|bk<|az 7<|bl E<|bp Ls.length .n E E E (by omega) U22 cg cA fun v65=>aj<|bk<|bn 1 E fun hcell_=>bn 0 E fun hcell_=>br 8 E (by kernel_rfl) (by kernel_rfl) (by kernel_rfl) (fun _ _ _ _ _ h=>h) .n (cu co E (bz E (bf (by assumption)) (bz E (bf (by assumption)) bH)) (.cons E (aU Li) (.cons E (aN Li) (.nil _))))<|az 10<|bg E .n (aD (l:=(kPair kVal kVal)) (u:=(v64,v65)) 2 E E E bi E Lr)<|bc (by kernel_rfl)<|bD (bI [0,1,2,3,4] (by decide) E) ?_
      exact cr b61 v64 v65 trivial (Z E (Z E (Z E ai)))<|aW<|OS.keepLe (a9 (by rfl))<|OS.keep<|OS.keep<|OS.keepLe (cf (by rfl))<|OS.keep OS.nil
     ·
      refine bl E<|bp Ls.length .n E E E (by omega) U22 cg cA fun v66=>aj<|bk<|az 3<|bl E<|bp D.length .n E E E (by omega) U23 bo aZ fun v67=>aj<|bk<|bn 0 E fun hcell_=>bn 1 E fun hcell_=>br 8 E (by kernel_rfl) (by kernel_rfl) (by kernel_rfl) (fun _ _ _ _ _ h=>h) .n (cu co E (bz E (bf (by assumption)) (bz E (bf (by assumption)) bH)) (.cons E (aU Li) (.cons E (aN Li) (.nil _))))<|az 10<|bg E .n (aD (l:=(kPair kVal kVal)) (u:=(v67,v66)) 2 E E E bi E Lr)<|bc (by kernel_rfl)<|bD (bI [1,0,2,3,4] (by decide) E) ?_
      exact cr b61 v67 v66 trivial (Z E (Z E (Z E ai)))<|aW<|OS.keepLe (a9 (by rfl))<|OS.keep<|OS.keep<|OS.keepLe (cf (by rfl))<|OS.keep OS.nil
   ·
    refine aC E .n (ae (p:=kMC.is Ls) E (ac 2 E) (aN Li) bT E)<|br 6 E (by kernel_rfl) (by kernel_rfl) (by kernel_rfl) (fun _ _ _ _ _ h=>h) .n (dc E U22) ?_
    refine bv 1 [7] ⟨?_,⟨?_,trivial⟩⟩
    ·
     refine aC E .n (ae (p:=kVC.is D) E (ac 2 E) (aU Li) aE E)<|br 2 E (by kernel_rfl) (by kernel_rfl) (by kernel_rfl) (fun _ _ _ _ _ h=>h) .n (dc E U23) ?_
     refine bv 3 [7] ⟨?_,⟨?_,trivial⟩⟩
     ·
      refine bl E<|bp D.length .n E E E (by omega) U23 bo aZ fun v68=>aj<|bk<|az 7<|bl E<|bp Ls.length .n E E E (by omega) U22 cg cA fun v69=>aj<|bk<|bn 1 E fun hcell_=>bn 0 E fun hcell_=>br 8 E (by kernel_rfl) (by kernel_rfl) (by kernel_rfl) (fun _ _ _ _ _ h=>h) .n (cu co E (bz E (bf (by assumption)) (bz E (bf (by assumption)) bH)) (.cons E (aU Li) (.cons E (aN Li) (.nil _))))<|az 10<|bg E .n (aD (l:=(kPair kVal kVal)) (u:=(v68,v69)) 2 E E E bi E Lr)<|bc (by kernel_rfl)<|bD (bI [0,1,2,3,4] (by decide) E) ?_
      exact cr b61 v68 v69 trivial (Z E (Z E (Z E ai)))<|aW<|OS.keepLe (a9 (by rfl))<|OS.keep<|OS.keep<|OS.keepLe (cf (by rfl))<|OS.keep OS.nil
     ·
      refine bl E<|bp Ls.length .n E E E (by omega) U22 cg cA fun v70=>aj<|bk<|az 3<|bl E<|bp D.length .n E E E (by omega) U23 bo aZ fun v71=>aj<|bk<|bn 0 E fun hcell_=>bn 1 E fun hcell_=>br 8 E (by kernel_rfl) (by kernel_rfl) (by kernel_rfl) (fun _ _ _ _ _ h=>h) .n (cu co E (bz E (bf (by assumption)) (bz E (bf (by assumption)) bH)) (.cons E (aU Li) (.cons E (aN Li) (.nil _))))<|az 10<|bg E .n (aD (l:=(kPair kVal kVal)) (u:=(v71,v70)) 2 E E E bi E Lr)<|bc (by kernel_rfl)<|bD (bI [1,0,2,3,4] (by decide) E) ?_
      exact cr b61 v71 v70 trivial (Z E (Z E (Z E ai)))<|aW<|OS.keepLe (a9 (by rfl))<|OS.keep<|OS.keep<|OS.keepLe (cf (by rfl))<|OS.keep OS.nil
    ·
     refine bl E<|bp Ls.length .n E E E (by omega) U22 cg cA fun v72=>aj<|bk<|az 1<|aC E .n (ae (p:=kVC.is D) E (ac 3 E) (aU Li) aE E)<|br 2 E (by kernel_rfl) (by kernel_rfl) (by kernel_rfl) (fun _ _ _ _ _ h=>h) .n (dc E U23)<|az 3<|bl E<|bp D.length .n E E E (by omega) U23 bo aZ fun v73=>aj<|bk<|bn 0 E fun hcell_=>bn 1 E fun hcell_=>br 8 E (by kernel_rfl) (by kernel_rfl) (by kernel_rfl) (fun _ _ _ _ _ h=>h) .n (cu co E (bz E (bf (by assumption)) (bz E (bf (by assumption)) bH)) (.cons E (aU Li) (.cons E (aN Li) (.nil _))))<|az 10<|bg E .n (aD (l:=(kPair kVal kVal)) (u:=(v73,v72)) 2 E E E bi E Lr)<|bc (by kernel_rfl)<|bD (bI [1,0,2,3,4] (by decide) E) ?_
     exact cr b61 v73 v72 trivial (Z E (Z E (Z E ai)))<|aW<|OS.keepLe (a9 (by rfl))<|OS.keep<|OS.keep<|OS.keepLe (cf (by rfl))<|OS.keep OS.nil
 intro pb vD vL hR
 refine aa ?_
 refine ba (Γ:=[.fr (VP.pt pb 0),.fr (VP.ex vD),.fr (VP.pt b1 0),.fr (kVC.is D),.fr (kMC.is [D]),.fr (kMC.is [D]),.fr (VP.pim kVC D),.fr (kVC.is D)]) (J E (fun N=>aM E cE E) (J E (fun N=>aV (ae (p:=kVal.is vD) E (mN N 2 E) (aU Li) aE E) (bm _)) (J E (fun N=>aM E cE E) (J E (fun N=>ae (p:=kVC.is D) E (mN N 4 E) (aU Li) aE E) (J E (fun N=>bC U22 c9 (b9 E bw) E (by decide)) (J E (fun N=>aF fn248 (aq E (dQ (by intro r hr;rcases List.mem_cons.1 hr with rfl | hr;exact hD;cases hr)) ax) (c_mat_Form [D] (by intro r hr;rcases List.mem_cons.1 hr with rfl | hr;exact hD;cases hr))) (J E (fun N=>aT 0 E E U22 aE E (v:=D) (by rfl)) (J E (fun N=>aO E aE) oz))))))))<|fun σ2=>?_
 refine Ws (O.cp 1 E E E Lr U23 bo)<|Wn<|aa<|dy (by kernel_rfl)<|br 0 E (by kernel_rfl) (by kernel_rfl) (by kernel_rfl) (fun _ _ _ _ _ h=>h) .n (OV.fa E cB E)<|br 2 E (by kernel_rfl) (by kernel_rfl) (by kernel_rfl) (fun _ _ _ _ _ h=>h) .n (OV.fa E cB E) ?_
 refine bv 1 [3] ⟨?_,⟨?_,trivial⟩⟩
 ·
  refine aC E .n (aV (ae (p:=kVal.is vL) E (ac 2 E) (aN Li) bT E) (bm _))<|az 3<|aC E .n (ae (p:=kMC.is Ls) E (ac 4 E) (aN Li) bT E)<|az 4<|bl E<|cF (Li:=[]) (L:=[OB.row vL 23 kVal (List.replicate Ls.length nilV),OB.row vD 29 kC (D.take (min D.length (List.replicate D.length 0).length)++(List.replicate D.length 0).drop (min D.length (List.replicate D.length 0).length)),OB.box pb 25 (kPair kVal kVal) (vD,vL),OB.box b2 25 (kPair kVal kVal) (nilV,nilV),OB.box b1 25 kGso (D,Ls)]) .n fn248 (aq E (dQ (hL)) ax) (c_mat_Formo Ls) fun p_ Lo_ hp_=>?_
  obtain ⟨v74,vs_t26,rfl,rfl,hx_t26⟩:=hp_
  refine aj<|bk<|bJ 0 E (kp 1 E (kp 2 E (kp 3 E (kp 13 E (kp 14 E (kp 15 E (kp 16 E (kp 17 E (kp 18 E (kp 19 E (kp 20 E (kp 21 E (kp 22 E (kp 23 E (kp 24 E (kp 25 E (.hit (i:=26) E .nil)))))))))))))))))<|az 5<|aC E .n (O.cp 1 E E E Lr U22 cg)<|bc (by kernel_rfl)<|bS<|Cr<|Ws (ae (p:=(kPair kVal kVal).is (vD,vL)) E (ac 3 E) Li bi E)<|aG .n (aD (l:=(kPair kVal kVal)) (u:=(vD,vL)) 4 E E E bi E Lr)<|Wn<|am<|tr 2 E (y:=D) (ek (by simp))<|tr 1 E (y:=vs_t26) (ek (by simp [hx_t26]))<|bD (bI [2,1,0,4] (by decide) E) ?_
  exact ct (.inl E) E (a5 E (ac 3 E) bi ak) (aW (OS.keep (OS.keep (OS.keep (OS.skip OS.nil))))) ⟨vD,vL,vs_t26,E,E,hx_t26⟩
 ·
  refine aC E .n (ae (p:=kMC.is Ls) E (ac 4 E) (aN Li) bT E) ?_
  refine bv 1 [4] ⟨?_,⟨?_,trivial⟩⟩
  ·
   refine aC E .n (aV (ae (p:=kVal.is vL) E (ac 2 E) (aN Li) bT E) (bm _))<|az 4<|bl E<|cF (Li:=[]) (L:=[OB.row vL 23 kVal (List.replicate Ls.length nilV),OB.row vD 29 kC (D.take (min D.length (List.replicate D.length 0).length)++(List.replicate D.length 0).drop (min D.length (List.replicate D.length 0).length)),OB.box pb 25 (kPair kVal kVal) (vD,vL),OB.box b2 25 (kPair kVal kVal) (nilV,nilV),OB.box b1 25 kGso (D,Ls)]) .n fn248 (aq E (dQ (hL)) ax) (c_mat_Formo Ls) fun p_ Lo_ hp_=>?_
   obtain ⟨v75,vs_t26,rfl,rfl,hx_t26⟩:=hp_
   refine aj<|bk<|bJ 0 E (kp 1 E (kp 2 E (kp 3 E (kp 13 E (kp 14 E (kp 15 E (kp 16 E (kp 17 E (kp 18 E (kp 19 E (kp 20 E (kp 21 E (kp 22 E (kp 23 E (kp 24 E (kp 25 E (.hit (i:=26) E .nil)))))))))))))))))<|az 5<|aC E .n (O.cp 1 E E E Lr U22 cg)<|bc (by kernel_rfl)<|bS<|Cr<|Ws (ae (p:=(kPair kVal kVal).is (vD,vL)) E (ac 3 E) Li bi E)<|aG .n (aD (l:=(kPair kVal kVal)) (u:=(vD,vL)) 4 E E E bi E Lr)<|Wn<|am<|tr 2 E (y:=D) (ek (by simp))<|tr 1 E (y:=vs_t26) (ek (by simp [hx_t26]))<|bD (bI [2,1,0,4] (by decide) E) ?_
   exact ct (.inl E) E (a5 E (ac 3 E) bi ak) (aW (OS.keep (OS.keep (OS.keep (OS.skip OS.nil))))) ⟨vD,vL,vs_t26,E,E,hx_t26⟩
  ·
   refine bl E<|cF (Li:=[]) (L:=[OB.row vL 23 kVal (List.replicate Ls.length nilV),OB.row vD 29 kC (D.take (min D.length (List.replicate D.length 0).length)++(List.replicate D.length 0).drop (min D.length (List.replicate D.length 0).length)),OB.box pb 25 (kPair kVal kVal) (vD,vL),OB.box b2 25 (kPair kVal kVal) (nilV,nilV),OB.box b1 25 kGso (D,Ls)]) .n fn248 (aq E (dQ (hL)) ax) (c_mat_Formo Ls) fun p_ Lo_ hp_=>?_
   obtain ⟨v76,vs_t26,rfl,rfl,hx_t26⟩:=hp_
   refine aj<|bk<|az 1<|aC E .n (aV (ae (p:=kVal.is vL) E (ac 4 E) (aN Li) bT E) (bm _))<|bJ 0 E (kp 1 E (kp 2 E (kp 3 E (kp 13 E (kp 14 E (kp 15 E (kp 16 E (kp 17 E (kp 18 E (kp 19 E (kp 20 E (kp 21 E (kp 22 E (kp 23 E (kp 24 E (kp 25 E (.hit (i:=26) E .nil)))))))))))))))))<|az 5<|aC E .n (O.cp 1 E E E Lr U22 cg)<|bc (by kernel_rfl)<|bS<|Cr<|Ws (ae (p:=(kPair kVal kVal).is (vD,vL)) E (ac 3 E) Li bi E)<|aG .n (aD (l:=(kPair kVal kVal)) (u:=(vD,vL)) 4 E E E bi E Lr)<|Wn<|am<|tr 2 E (y:=D) (ek (by simp))<|tr 1 E (y:=vs_t26) (ek (by simp [hx_t26]))<|bD (bI [2,1,0,4] (by decide) E) ?_
   exact ct (.inl E) E (a5 E (ac 3 E) bi ak) (aW (OS.keep (OS.keep (OS.keep (OS.skip OS.nil))))) ⟨vD,vL,vs_t26,E,E,hx_t26⟩
theorem c_gso_AddRow1 (vD vL:Value) (bh:Nat) (vs:List Value) (xss:List (List Int)) (i k:Nat) (q y:Int) (hi:i<vs.length) (hk:k<(xss.getD i []).length) (h1:Sm ((xss.getD i []).getD k 0)) (h2:Sm (q*y)):Con Tryz.prog 217 [kN6.is (k:Int),kZ.is y,VP.pt bh 0,VP.pim kN6 (i:Int),VP.pim kZ q] [OB.box bh 25 (kPair kVal kVal) (vD,vL),OB.row vL 23 kVal vs,OB.fam vs 29 kC xss] (fun p Lo=>p=VP.tup []∧Lo=[OB.box bh 25 (kPair kVal kVal) (vD,vL),OB.row vL 23 kVal vs,OB.fam vs 29 kC (xss.set i ((xss.getD i []).set k ((xss.getD i []).getD k 0+q*y)))]∧True):=by
 refine aK Tryz.func217 E E fun m w=>Cr<|a6 .n E fun b1=>Wn ?_
 refine ba (Γ:=[.fr (VP.pt bh 1),.fr (VP.ex vL),.fr (kN6.is (i:Int)),.fr (VP.pel vL (i*1)),.fr (VP.ex (vs.getD i nilV)),.fr (kN6.is (k:Int)),.fr (VP.pt bh 1),.fr (VP.ex vL),.fr (kN6.is (i:Int)),.fr (VP.pel vL (i*1)),.fr (VP.ex (vs.getD i nilV)),.fr (kN6.is (k:Int)),.fr (VP.pel (vs.getD i nilV) (k*2)),.fr (kC.is ((xss.getD i []).getD k 0)),.fr (kZ.is q),.fr (kZ.is y),.fr (kC.is (q*y)),.fr (kC.is (((xss.getD i []).getD k 0)+(q*y))),.fr (VP.pel (vs.getD i nilV) (k*2))]) (J E (fun N=>aM E cB E) (J E (fun N=>aV (ae (p:=kVal.is vL) E (mN N 1 E) (aN Li) bT E) (bm _)) (J E (fun N=>aO E ty3) (J E (fun N=>aY (k:=kVal) (xs:=vs) (n:=(i:Int)) i E E (mN N 2 E) U22 aE E (by omega)) (J E (fun N=>aV (bd i E (mN N 2 E) Li E (y:=(vs.getD i nilV)) (gd nilV (by omega)) aE E) (bm _)) (om E E (J E (fun N=>aM E cB E) (J E (fun N=>aV (ae (p:=kVal.is vL) E (mN N 1 E) (aN Li) bT E) (bm _)) (J E (fun N=>aO E ty3) (J E (fun N=>aY (k:=kVal) (xs:=vs) (n:=(i:Int)) i E E (mN N 2 E) U22 aE E (by omega)) (J E (fun N=>aV (bd i E (mN N 2 E) Li E (y:=(vs.getD i nilV)) (gd nilV (by omega)) aE E) (bm _)) (om E E (J E (fun N=>cm (e:=29) (k:=kC) (xss:=xss) (n:=(k:Int)) i k E E (mN N 3 E) E (by omega) U23 ab E (by omega)) (J E (fun N=>cO (k:=kC) (xss:=xss) i k E (mN N 3 E) E (by omega) Li E (y:=((xss.getD i []).getD k 0)) (gd 0 (by omega)) ab E) (J E (fun N=>aO E ab) (J E (fun N=>ae E (mN N 0 E) Li ab E) (J E (fun N=>f2 de E E (c8 q y)) (J E (fun N=>aF dU (aq E (aJ (by assumption)) (aq E (aJ (by assumption)) ax)) (dP ((xss.getD i []).getD k 0) (q*y))) (J E (fun N=>cm (e:=29) (k:=kC) (xss:=xss) (n:=(k:Int)) i k E E (mN N 3 E) E (by omega) U23 ab E (by omega)) oz)))))))))))))))))))<|fun σ1=>?_
 refine aG .n (dX 3 i k E E E (by omega) Li E (y0:=((xss.getD i []).getD k 0)) (gd 0 (by omega)) ab E Lr)<|aj ?_
 exact ct (.inr E) E ak (aW (OS.skip (OS.keep (OS.keep (OS.keepLe (d9 (by rfl) (by rfl)) OS.nil))))) ⟨E,E,trivial⟩
theorem c_gso_AddRow (G:Nat→Nat→Int) (n B:Nat) (h0:0<n) (h12:n≤12) (hP:PosU G n) (hD:∀k,k≤n→Sz B (uD G k)) (hB:B≤68719476736) (i j:Nat) (q:Int) (hj:j<i) (hi:i<n) (hs:SymG G) (hL:∀x k,x<n→k<x→Sz B (uE G k x k)) (hq:Sz B q):Fn Tryz.prog 146 [kGso.is (gDs G n,gLs G n),kN6.is (i:Int),kN6.is (j:Int),kZ.is q] (VP.tup [kGso.is (gDs (rowI G i j q) n,gLs (rowI G i j q) n),kN6.is 0]):=by
 refine aK Tryz.func146 E E fun m w=>?_
 have hLl:(gLs G n).length=n:=gLs_len G n
 have hDl:(gDs G n).length=n+1:=gDs_len G n
 refine Cr<|a6 .n E fun b1=>a6 .n E fun b2=>a6 .n E fun b3=>a8 .n er fun b4=>Wa E<|Wn<|aa<|Cr<|Ws (ae (p:=kGso.is (gDs G n,gLs G n)) E (ac 3 E) Li bi E)<|Ws (f1 fn133 E (fg G n B (by assumption) (by assumption) (by assumption) (by assumption) (by assumption)))<|Ws (di (a:=true) E)<|Wn<|df E<|Ck<|aa<|Cr<|Wm E ?_
 refine Ws (aS E E)<|Wm E ?_
 refine bV 19 E (fun h=>absurd h (by omega))<|fun h_t19=>?_
 refine Wg E E (bj E)<|Wg E E (ae E (ac 2 E) Li ty3 E)<|Wg E E (cR E E)<|Ws (cb E E)<|Wm E ?_
 refine bV 24 E (fun h=>absurd h (by omega))<|fun h_t24=>?_
 refine Wg E E (ae E (ac 2 E) Li ty3 E)<|Wg E E (aM E cB E)<|Wg E E (ae (p:=kMC.is (gLs G n)) E (ac 3 E) (aN Li) bT E)<|Wg E E (aA E U22)<|Wg E E (cR E E)<|Ws (cb E E)<|Wn ?_
 refine CN E (by rw [gLs_len];omega) fun h_t30=>?_
 refine Ck<|Cr<|Ws (ae (p:=kGso.is (gDs G n,gLs G n)) E (ac 3 E) Li bi E)<|cF (Li:=[]) (L:=[OB.box b4 25 kGso ([],[]),OB.box b3 29 kZ q,OB.box b2 3 kN6 (i:Int),OB.box b1 25 kGso (gDs G n,gLs G n)]) .n fn216 (aX E ax) (c_gso_fresh (gDs G n) (gLs G n) (gDs_Sm hD (by omega)) (gLs_Sm hL (by omega)) (by rw [gDs_len];omega) (by rw [gLs_len];omega)) fun p_ Lo_ hp_=>?_
 obtain ⟨vD,vL,us,rfl,rfl,hx_t33⟩:=hp_
 refine Ax (l:=(kPair kVal kVal)) (u:=(vD,vL)) cK E bi (fun _=>E) Lr fun b5=>Wn<|aa<|dZ 6 E (kp 0 E (kp 1 E (kp 2 E (kp 3 E (kp 4 E (.hit (i:=5) E (kp 7 E (kp 8 E (kp 9 E (kp 10 E (kp 13 E (kp 14 E (kp 15 E (kp 17 E (kp 18 E (kp 19 E (kp 20 E (kp 21 E (kp 22 E (kp 23 E (kp 24 E (kp 25 E (kp 26 E (kp 27 E (kp 28 E (kp 29 E (kp 30 E (kp 32 E (kp 33 E .nil)))))))))))))))))))))))))))))<|dZ 5 E (kp 0 E (kp 1 E (kp 2 E (kp 3 E (kp 4 E (kp 5 E (.hit (i:=7) E (kp 8 E (kp 9 E (kp 10 E (kp 13 E (kp 14 E (kp 15 E (kp 17 E (kp 18 E (kp 19 E (kp 20 E (kp 21 E (kp 22 E (kp 23 E (kp 24 E (kp 25 E (kp 26 E (kp 27 E (kp 28 E (kp 29 E (kp 30 E (kp 32 E (kp 33 E .nil))))))))))))))))))))))))))))) ?_
 have hvl:us.length=n:=by rw [hx_t33,gLs_len]
 refine tf 3 E (y:=(tri n (eF G))) (gLs_tri G n)<|ah<|Ws (O.mkf (aX E (aX E (aX E ax))))<|Wa E<|Wr<|Wm E<|Wm E<|Ws (aM E cE E)<|Ws (ae (p:=kVC.is (gDs G n)) E (ac 5 E) (aU Li) aE E)<|Wm E<|Ws (aI E E (c:=((j:Int)+1)) (ay (by omega)))<|Ws (aT ((((j:Int)+1)).toNat) E E U23 ab (by omega) (v:=(uD G (j+1))) (dd (by omega)))<|Ws (aO E ab)<|bD (bI [0,2,3,1,4,5] (by decide) E)<|WP.callc (Li:=[OB.box b5 25 (kPair kVal kVal) (vD,vL),OB.row vL 23 kVal us,OB.fam us 29 kC (tri n (eF G))]) (L:=[OB.row vD 29 kC (gDs G n),OB.box b4 25 kGso ([],[]),OB.box b1 25 kGso (gDs G n,gLs G n)]) .n E fn217 (aX E (aq E (aJ ((hD (j+1) (by omega)).sm (by omega))) ax)) (c_gso_AddRow1 vD vL b5 us (tri n (eF G)) i j q (uD G (j+1)) (by omega) (by rw [tri_rlen hi];omega) (by rw [tri_get hi hj];exact (hL i j hi hj).sm (by omega)) ((hq.mul (hD (j+1) (by omega))).sm (by omega))) fun p_ Lo_ hp_=>?_
 obtain ⟨rfl,rfl,hx_t43⟩:=hp_
 refine Wn<|aa<|aa<|tf 2 E (y:=(tri n (addF G i j q 0))) (by rw [tri_get hi hj,tri_set _ hi];show tri n (updI (eF G) i j (uE G j i j+q*uD G (j+1)))=_;rw [addF_0])<|ah<|Wm E<|Wm E<|Wn<|aw<|bN (fun (c:Nat)=>c≤j) (fun (c:Nat)=>[(2,kN6.is (j:Int)),(4,VP.pt b1 0),(8,VP.pt b4 0),(10,VP.pt b5 0),(11,VP.clo 217 [VP.pt b5 0,VP.pim kN6 (i:Int),VP.pim kZ q]),(44,kN6.is (j:Int)),(45,kN6.is (c:Int))]) (fun (c:Nat)=>[OB.box b5 25 (kPair kVal kVal) (vD,vL),OB.row vL 23 kVal us,OB.fam us 29 kC (tri n (addF G i j q c)),OB.row vD 29 kC (gDs G n),OB.box b4 25 kGso ([],[]),OB.box b1 25 kGso (gDs G n,gLs G n)]) (fun (c:Nat)=>j-c) 0 (by omega) (af E E E E (Z E (Z E (ao E (ag (y:=(0:Int)) (by rfl)) ai)))) (au _) ?_
 intro c hc
 refine Cr<|Ws (aS E E)<|Wn<|aa ?_
 refine aB E (fun h_t46=>?_)<|fun h_t46=>?_
 ·
  refine Ck<|aa<|aw<|Cr<|Wm E<|Wa E<|Wn<|ah<|Wm E<|Wm E<|Ws (aM E cB E)<|Ws (ae (p:=kMC.is (gLs G n)) E (ac 5 E) (aN Li) bT E)<|Wm E<|Ws (aT j E E U22 aE E (v:=((gLs G n).getD j [])) (gd [] (by omega)))<|Ws (aO E aE)<|Wm E<|Ws (aT c E E U23 ab E (v:=(uE G c j c)) (gLs_at (by omega) (by omega)))<|Ws (aO E ab)<|WP.callc (Li:=[OB.box b5 25 (kPair kVal kVal) (vD,vL),OB.row vL 23 kVal us,OB.fam us 29 kC (tri n (addF G i j q c))]) (L:=[OB.row vD 29 kC (gDs G n),OB.box b4 25 kGso ([],[]),OB.box b1 25 kGso (gDs G n,gLs G n)]) .n E fn217 (aX E (aq E (aJ ((hL j c (by omega) (by omega)).sm (by omega))) ax)) (c_gso_AddRow1 vD vL b5 us (tri n (addF G i j q c)) i c q (uE G c j c) (by omega) (by rw [tri_rlen hi];omega) (by rw [tri_get hi (by omega),addF_at (by omega)];exact (hL i c hi (by omega)).sm (by omega)) ((hq.mul (hL j c (by omega) (by omega))).sm (by omega))) fun p_ Lo_ hp_=>?_
  obtain ⟨rfl,rfl,hx_t58⟩:=hp_
  refine aj<|Qb<|ah<|Ws (aI E E (c:=((c:Int)+1)) (ay (by omega)))<|Wm E<|aj<|tf 2 E (y:=(tri n (addF G i j q (c+1)))) (by rw [tri_get hi (by omega),addF_at (by omega),tri_set _ hi,addF_s (by omega)]) ?_
  exact bG (c+1) (by omega) (by omega) (af E E E E (Z E (Z E (ao E (ag (y:=(((c+1):Nat):Int)) (by rfl)) ai))))<|au _
 ·
  refine Ex<|aa<|tf 2 E (y:=(gLs (rowI G i j q) n)) (by rw [show c=j by omega];exact addF_end hs hP hj hi)<|tr 3 E (y:=(gDs (rowI G i j q) n)) (gDs_row hs hP hj).symm<|ew (k2:=(kPair kVC kVal)) ((gDs (rowI G i j q) n),vL) 3 0 E E (fun m_ cs_ h_ c_=>fz_fst m_ cs_ h_ c_) (kp 2 E (kp 4 E (kp 8 E (kp 10 E (kp 11 E (kp 44 E (kp 45 E (kp 46 E .nil))))))))<|ST.freezeMIn (k2:=kGso) ((gDs (rowI G i j q) n),(gLs (rowI G i j q) n)) 2 1 0 E E E (fun m_ cs_ h_ c_=>fz_snd m_ cs_ h_ c_) (kp 2 E (kp 4 E (kp 8 E (kp 10 E (kp 11 E (kp 44 E (kp 45 E (kp 46 E .nil))))))))<|ah<|Ws (ae (p:=kGso.is ((gDs (rowI G i j q) n),(gLs (rowI G i j q) n))) E (ac 0 E) Li bi E)<|aG .n (aD (l:=kGso) (u:=((gDs (rowI G i j q) n),(gLs (rowI G i j q) n))) 1 E E E bi E Lr)<|Wa E<|Wn<|am ?_
  exact Qd E (dE E (ac 1 E) bi (ag (y:=(gDs (rowI G i j q) n,gLs (rowI G i j q) n)) (by rfl)) (ar E ak)) ⟨E,E⟩
theorem c_gso_Swap1 (B:Nat) (a b c x e:Int) (ha:Sz B a) (hb:Sz B b) (hc:Sz B c) (hx:Sz B x) (he:Sz B e) (h0:e≠0) (hB:B≤68719476736):Fn Tryz.prog 222 [kZ.is a,kZ.is b,kZ.is c,kZ.is x,VP.pim kC e] (kC.is ((a*b+c*x).fdiv e)):=by
 refine aK Tryz.func222 E E fun m w=>Cr<|a6 .n E fun b1=>a6 .n E fun b2=>a6 .n E fun b3=>a6 .n E fun b4=>a8 .n aZ fun b5=>Wn<|aa ?_
 refine ba (Γ:=[.fr (kZ.is a),.fr (kZ.is b),.fr (kC.is (a*b)),.fr (kZ.is c),.fr (kZ.is x),.fr (kC.is (c*x)),.fr (kC.is ((a*b)+(c*x))),.fr (kC.is e),.fr (VP.tup [kC.is (((a*b)+(c*x)).fdiv e),kC.is (if e=0 then 0 else ((a*b)+(c*x)).fmod e),kN6.is (if e=0 then 11 else 0)]),.fr (VP.tup [kC.is (((a*b)+(c*x)).fdiv e),kC.is (if e=0 then 0 else ((a*b)+(c*x)).fmod e),kN6.is (if e=0 then 11 else 0)]),.fr (kC.is (((a*b)+(c*x)).fdiv e)),.lt (kC.is (if e=0 then 0 else ((a*b)+(c*x)).fmod e)),.lt (kN6.is (if e=0 then 11 else 0)),.al (fun b=>OB.box b 29 kC 0),.al (fun b=>OB.box b 29 kC 0)]) (J E (fun N=>ae E (mN N 4 E) Li ab E) (J E (fun N=>ae E (mN N 3 E) Li ab E) (J E (fun N=>f2 de E E (c8 a b)) (J E (fun N=>ae E (mN N 2 E) Li ab E) (J E (fun N=>ae E (mN N 1 E) Li ab E) (J E (fun N=>f2 de E E (c8 c x)) (J E (fun N=>aF dU (aq E (aJ ((ha.mul hb).sm (by omega))) (aq E (aJ ((hc.mul hx).sm (by omega))) ax)) (dP (a*b) (c*x))) (J E (fun N=>aO E ab) (J E (fun N=>aF fn214 (aq E (aJ ((eY (ha.mul hb) (hc.mul hx)).sm (by omega))) (aq E (aJ (he.sm (by omega))) ax)) (et ((a*b)+(c*x)) e)) (om E E (J E (fun N=>aH E E) (oc (cV E .n (dv E E)) (oc (cV E .n (dv E E)) (oc (dA E aZ) (oc (dA E aZ) oz)))))))))))))))<|fun σ1=>?_
 refine aG .n (aD (l:=kC) (u:=((a*b)+(c*x)).fdiv e) 0 E E E ab E Lr)<|aG .n (aD (l:=kC) (u:=if e=0 then 0 else ((a*b)+(c*x)).fmod e) 1 E E E ab E Lr)<|Wa E<|Wr<|Ws (ae E (ac 0 E) Li ab E)<|aG .n (aD (l:=kC) (u:=((a*b)+(c*x)).fdiv e) 2 E E E ab E Lr)<|Wn<|am ?_
 exact Qd E (dE E (ac 2 E) ab (ag (y:=(a*b+c*x).fdiv e) (by rfl)) ak) ⟨E,E⟩
theorem c_gso_Swap (G:Nat→Nat→Int) (n B:Nat) (h0:0<n) (h12:n≤12) (hP:PosU G n) (hD:∀k,k≤n→Sz B (uD G k)) (hB:B≤68719476736) (p:Nat) (hp1:p+1<n) (hs:SymG G) (hL:∀x k,x<n→k<x→Sz B (uE G k x k)):Fn Tryz.prog 150 [kGso.is (gDs G n,gLs G n),kN6.is ((p:Int)+1)] (VP.tup [kGso.is (gDs (swpI G p) n,gLs (swpI G p) n),kN6.is 0]):=by
 refine aK Tryz.func150 E E fun m w=>?_
 have hLl:(gLs G n).length=n:=gLs_len G n
 have hDl:(gDs G n).length=n+1:=gDs_len G n
 have hP2:=swpI_pos hs hP hp1
 have hl0:=hL (p+1) p (by omega) (by omega)
 have he0:=uD_ne hP (show p+1≤n by omega)
 refine Cr<|a6 .n E fun b1=>a8 .n er fun b2=>Wa E<|Wn<|aa<|Cr<|Ws (ae (p:=kGso.is (gDs G n,gLs G n)) E (ac 1 E) Li bi E)<|Ws (f1 fn133 E (fg G n B (by assumption) (by assumption) (by assumption) (by assumption) (by assumption)))<|Ws (di (a:=true) E)<|Wn<|df E<|Ck<|aa<|Cr<|Wm E<|Ws (aS E E)<|Wm E ?_
 refine bV 22 E (fun h=>absurd h (by omega))<|fun h_t22=>?_
 refine Wg E E (bj E)<|Wg E E (aM E cB E)<|Wg E E (ae (p:=kMC.is (gLs G n)) E (ac 1 E) (aN Li) bT E)<|Wg E E (aA E U22)<|Wg E E (cR E E)<|Ws (cb E E)<|Wn ?_
 refine CN E (by rw [gLs_len];omega) fun h_t28=>?_
 refine Ck<|Cr<|Ws (ae (p:=kGso.is (gDs G n,gLs G n)) E (ac 1 E) Li bi E)<|cF (Li:=[]) (L:=[OB.box b2 25 kGso ([],[]),OB.box b1 25 kGso (gDs G n,gLs G n)]) .n fn216 (aX E ax) (c_gso_fresh (gDs G n) (gLs G n) (gDs_Sm hD (by omega)) (gLs_Sm hL (by omega)) (by rw [gDs_len];omega) (by rw [gLs_len];omega)) fun p_ Lo_ hp_=>?_
 obtain ⟨vD,vL,us,rfl,rfl,hx_t31⟩:=hp_
 refine Ax (l:=(kPair kVal kVal)) (u:=(vD,vL)) cK E bi (fun _=>E) Lr fun b3=>Wn<|aa ?_
 have hvl:us.length=n:=by rw [hx_t31,gLs_len]
 refine tf 3 E (y:=(tri n (eF G))) (gLs_tri G n) ?_
 refine CW.drawS (Γ:=[.fr (VP.pt b1 0),.fr (kVC.is (gDs G n)),.fr (kN6.is ((p:Int)+1)),.fr (kN6.is (((p:Int)+1)-1)),.fr (VP.pim kC (uD G p)),.fr (kC.is (uD G p)),.fr (VP.pt b1 0),.fr (kVC.is (gDs G n)),.fr (kN6.is ((p:Int)+1)),.fr (VP.pim kC (uD G (p+1))),.fr (kC.is (uD G (p+1))),.fr (VP.pt b1 0),.fr (kVC.is (gDs G n)),.fr (kN6.is ((p:Int)+1)),.fr (kN6.is (((p:Int)+1)+1)),.fr (VP.pim kC (uD G (p+2))),.fr (kC.is (uD G (p+2))),.fr (VP.pt b1 1),.fr (kMC.is (gLs G n)),.fr (kN6.is ((p:Int)+1)),.fr (VP.pim kVC ((gLs G n).getD (p+1) [])),.fr (kVC.is ((gLs G n).getD (p+1) [])),.fr (kN6.is ((p:Int)+1)),.fr (kN6.is (((p:Int)+1)-1)),.fr (VP.pim kC (uE G p (p+1) p)),.fr (kC.is (uE G p (p+1) p)),.al (fun b=>OB.box b 29 kC 0) (fun b=>OB.box b 29 kC (uD G p)) 30,.al (fun b=>OB.box b 29 kC 0) (fun b=>OB.box b 29 kC (uD G (p+1))) 31,.al (fun b=>OB.box b 29 kC 0) (fun b=>OB.box b 29 kC (uD G (p+2))) 32,.al (fun b=>OB.box b 29 kC 0) (fun b=>OB.box b 29 kC (uE G p (p+1) p)) 33,.st 26,.st 27,.st 28,.st 29]) (by kernel_rfl) (ChkS.of (sh:=[(0,0),(0,0),(0,0),(0,0),(0,0),(0,0),(0,0),(0,0),(0,0),(0,0),(0,0),(0,0),(0,0),(0,0),(0,0),(0,0),(0,0),(0,0),(0,0),(0,0),(0,0),(0,0),(0,0),(0,0),(0,0),(0,0),(1,30),(1,31),(1,32),(1,33),(2,26),(2,27),(2,28),(2,29)]) E (by kernel_rfl) E) (fun q_ x_ h_=>?_)<|fun σ1=>?_
 ·
  match q_,h_ with
  | 0,h_=>cases h_;exact ObS.f rfl (fun σ1=>.n) (fun σ1 N=>(O.fa rfl fld25_0 rfl))
  | 1,h_=>cases h_;exact ObS.f rfl (fun σ1=>.n) (fun σ1 N=>(O.ld (p:=kVC.is (gDs G n)) rfl (mN N 5 rfl) (Lens.fst Li) ty23 rfl))
  | 2,h_=>cases h_;exact ObS.f rfl (fun σ1=>.n) (fun σ1 N=>(O.mv rfl))
  | 3,h_=>cases h_;exact ObS.f rfl (fun σ1=>.n) (fun σ1 N=>(O.sub rfl rfl (c:=(((p:Int)+1)-1)) (w64 (by omega))))
  | 4,h_=>cases h_;exact ObS.f rfl (fun σ1=>.n) (fun σ1 N=>(O.ix p rfl rfl U23 ty29 (by omega) (v:=(uD G p)) (gDs_at (by omega))))
  | 5,h_=>cases h_;exact ObS.f rfl (fun σ1=>.n) (fun σ1 N=>(O.ldP rfl ty29))
  | 6,h_=>cases h_;exact ObS.f rfl (fun σ1=>.n) (fun σ1 N=>(O.fa rfl fld25_0 rfl))
  | 7,h_=>cases h_;exact ObS.f rfl (fun σ1=>.n) (fun σ1 N=>(O.ld (p:=kVC.is (gDs G n)) rfl (mN N 5 rfl) (Lens.fst Li) ty23 rfl))
  | 8,h_=>cases h_;exact ObS.f rfl (fun σ1=>.n) (fun σ1 N=>(O.mv rfl))
  | 9,h_=>cases h_;exact ObS.f rfl (fun σ1=>.n) (fun σ1 N=>(O.ix (p+1) rfl rfl U23 ty29 (by omega) (v:=(uD G (p+1))) (gDs_at (by omega))))
  | 10,h_=>cases h_;exact ObS.f rfl (fun σ1=>.n) (fun σ1 N=>(O.ldP rfl ty29))
  | 11,h_=>cases h_;exact ObS.f rfl (fun σ1=>.n) (fun σ1 N=>(O.fa rfl fld25_0 rfl))
  | 12,h_=>cases h_;exact ObS.f rfl (fun σ1=>.n) (fun σ1 N=>(O.ld (p:=kVC.is (gDs G n)) rfl (mN N 5 rfl) (Lens.fst Li) ty23 rfl))
  | 13,h_=>cases h_;exact ObS.f rfl (fun σ1=>.n) (fun σ1 N=>(O.mv rfl))
  | 14,h_=>cases h_;exact ObS.f rfl (fun σ1=>.n) (fun σ1 N=>(O.add rfl rfl (c:=(((p:Int)+1)+1)) (w64 (by omega))))
  | 15,h_=>cases h_;exact ObS.f rfl (fun σ1=>.n) (fun σ1 N=>(O.ix (p+2) rfl rfl U23 ty29 (by omega) (v:=(uD G (p+2))) (gDs_at (by omega))))
  | 16,h_=>cases h_;exact ObS.f rfl (fun σ1=>.n) (fun σ1 N=>(O.ldP rfl ty29))
  | 17,h_=>cases h_;exact ObS.f rfl (fun σ1=>.n) (fun σ1 N=>(O.fa rfl fld25_1 rfl))
  | 18,h_=>cases h_;exact ObS.f rfl (fun σ1=>.n) (fun σ1 N=>(O.ld (p:=kMC.is (gLs G n)) rfl (mN N 5 rfl) (Lens.snd Li) ty22 rfl))
  | 19,h_=>cases h_;exact ObS.f rfl (fun σ1=>.n) (fun σ1 N=>(O.mv rfl))
  | 20,h_=>cases h_;exact ObS.f rfl (fun σ1=>.n) (fun σ1 N=>(O.ix (p+1) rfl rfl U22 ty23 (by omega) (v:=((gLs G n).getD (p+1) [])) (gd [] (by omega))))
  | 21,h_=>cases h_;exact ObS.f rfl (fun σ1=>.n) (fun σ1 N=>(O.ldP rfl ty23))
  | 22,h_=>cases h_;exact ObS.f rfl (fun σ1=>.n) (fun σ1 N=>(O.mv rfl))
  | 23,h_=>cases h_;exact ObS.f rfl (fun σ1=>.n) (fun σ1 N=>(O.sub rfl rfl (c:=(((p:Int)+1)-1)) (w64 (by omega))))
  | 24,h_=>cases h_;exact ObS.f rfl (fun σ1=>.n) (fun σ1 N=>(O.ix p rfl rfl U23 ty29 (by omega) (v:=(uE G p (p+1) p)) (gLs_at (by omega) (by omega))))
  | 25,h_=>cases h_;exact ObS.f rfl (fun σ1=>.n) (fun σ1 N=>(O.ldP rfl ty29))
  | 26,h_=>cases h_;exact ObS.a rfl z29_C
  | 27,h_=>cases h_;exact ObS.a rfl z29_C
  | 28,h_=>cases h_;exact ObS.a rfl z29_C
  | 29,h_=>cases h_;exact ObS.a rfl z29_C
  | 30,h_=>cases h_;exact ObS.s rfl rfl (fun σ1=>.n) (fun σ1 N=>(O.stW (l:=kC) (u:=(uD G p)) 0 rfl rfl rfl ty29 rfl Lr))
  | 31,h_=>cases h_;exact ObS.s rfl rfl (fun σ1=>.n) (fun σ1 N=>(O.stW (l:=kC) (u:=(uD G (p+1))) 0 rfl rfl rfl ty29 rfl Lr))
  | 32,h_=>cases h_;exact ObS.s rfl rfl (fun σ1=>.n) (fun σ1 N=>(O.stW (l:=kC) (u:=(uD G (p+2))) 0 rfl rfl rfl ty29 rfl Lr))
  | 33,h_=>cases h_;exact ObS.s rfl rfl (fun σ1=>.n) (fun σ1 N=>(O.stW (l:=kC) (u:=(uE G p (p+1) p)) 0 rfl rfl rfl ty29 rfl Lr))
  | n_+34,h_=>simp at h_
 refine bS<|aa<|dZ 1 E (kp 0 E (kp 1 E (kp 2 E (kp 4 E (kp 5 E (kp 6 E (kp 7 E (.hit (i:=8) E (kp 9 E (kp 10 E (kp 16 E (kp 17 E (kp 18 E (kp 20 E (kp 21 E (kp 22 E (kp 23 E (kp 24 E (kp 25 E (kp 26 E (kp 27 E (kp 28 E (kp 30 E (kp 31 E (kp 32 E (kp 33 E (kp 34 E (kp 35 E (kp 36 E (kp 37 E (kp 38 E (kp 39 E (kp 40 E (kp 41 E (kp 42 E (kp 43 E (kp 44 E (kp 45 E (kp 46 E (kp 47 E (kp 48 E (kp 49 E (kp 50 E (kp 51 E (kp 52 E (kp 53 E (kp 54 E (kp 55 E (kp 56 E (kp 57 E .nil))))))))))))))))))))))))))))))))))))))))))))))))))<|ah<|Ws (O.mkf (aX E ax))<|Wa E<|Wn<|aa ?_
 refine ba (Γ:=[.fr (VP.pt b3 0),.fr (VP.ex vD),.fr (kN6.is ((p:Int)+1)),.fr (VP.clo 222 [VP.pim kC (uD G (p+1))]),.fr (kC.is (uD G p)),.fr (kC.is (uD G (p+2))),.fr (kC.is (uE G p (p+1) p)),.fr (kC.is (uE G p (p+1) p)),.fr (kC.is (((uD G p)*(uD G (p+2))+(uE G p (p+1) p)*(uE G p (p+1) p)).fdiv (uD G (p+1)))),.fr (VP.pel vD ((p+1)*2))]) (J E (fun N=>aM E cE E) (J E (fun N=>aV (ae (p:=kVal.is vD) E (mN N 3 E) (aU Li) aE E) (bm _)) (om E E (om E E (J E (fun N=>ae E (mN N 0 E) Li ab E) (J E (fun N=>ae E (mN N 1 E) Li ab E) (J E (fun N=>ae E (mN N 2 E) Li ab E) (J E (fun N=>ae E (mN N 2 E) Li ab E) (J E (fun N=>ee E fn222 (aq E (aJ ((hD p (by omega)).sm (by omega))) (aq E (aJ ((hD (p+2) (by omega)).sm (by omega))) (aq E (aJ (hl0.sm (by omega))) (aq E (aJ (hl0.sm (by omega))) ax)))) (c_gso_Swap1 B (uD G p) (uD G (p+2)) (uE G p (p+1) p) (uE G p (p+1) p) (uD G (p+1)) (hD _ (by omega)) (hD _ (by omega)) hl0 hl0 (hD _ (by omega)) he0 (by assumption))) (J E (fun N=>aY (k:=kC) (xs:=gDs G n) (n:=((p:Int)+1)) (p+1) E E (mN N 4 E) U23 ab (by omega) (by omega)) oz))))))))))<|fun σ2=>?_
 refine aG .n (cd 4 (p+1) E E Li E (y0:=((gDs G n).getD (p+1) 0)) (gd 0 (by omega)) ab E Lr)<|Wn<|aa<|aa<|tr 4 E (y:=(gDs (swpI G p) n)) (gDs_swp hs hP hp1) ?_
 have hD2:Sz (B+B+1) (uD (swpI G p) (p+1)):=by rw [←swD_eq hs hP hp1];exact Sz.fdiv (Sz.add1 ((hD p (by omega)).mul (hD (p+2) (by omega))) (hl0.mul hl0)) (hP.uD (by omega))
 refine ah<|Ws (aM E cE E)<|Ws (aV (ae (p:=kVal.is vD) E (ac 3 E) (aU Li) aE E) (bm _))<|Wm E<|Ws (aY (k:=kC) (xs:=(gDs (swpI G p) n)) (n:=((p:Int)+1)) (p+1) E E (ac 4 E) U23 ab (by omega) (by simp only [gRow_len,gDs_len,gLs_len,List.length_set];omega))<|Ws (bd (k:=kC) (xs:=(gDs (swpI G p) n)) (p+1) E (ac 4 E) Li (ho:=E) (y:=(uD (swpI G p) (p+1))) (dd (by omega)) ab E)<|Ws (aF dp (aq E (aJ (hD2.sm (by omega))) ax) (dk (uD (swpI G p) (p+1))))<|Ws (O.le E E)<|Wn ?_
 refine CN E (by have h1:=hP2.uD (show p+1≤n by omega);have:=Int.sign_eq_one_of_pos h1;omega) fun h_t75=>?_
 refine Ck<|aa<|Cr<|Wm E<|Ws (bq E E (c:=(p:Int)) (ay (by omega)))<|Wm E<|Wn<|aw<|tf 6 E (y:=(tri n (swF1 G p 0))) (by rw [swF1_0])<|bN (fun (c:Nat)=>c≤p) (fun (c:Nat)=>[(1,kN6.is ((p:Int)+1)),(2,VP.pt b1 0),(4,VP.pt b2 0),(6,VP.pt b3 0),(7,VP.pt (σ1 26) 0),(9,VP.pt (σ1 28) 0),(10,VP.pt (σ1 29) 0),(11,VP.clo 222 [VP.pim kC (uD G (p+1))]),(78,kN6.is (p:Int)),(79,kN6.is (c:Int))]) (fun (c:Nat)=>[OB.box (σ1 26) 29 kC (uD G p),OB.box (σ1 28) 29 kC (uD G (p+2)),OB.box (σ1 29) 29 kC (uE G p (p+1) p),OB.box b3 25 (kPair kVal kVal) (vD,vL),OB.row vD 29 kC (gDs (swpI G p) n),OB.row vL 23 kVal us,OB.fam us 29 kC (tri n (swF1 G p c)),OB.box b2 25 kGso ([],[]),OB.box b1 25 kGso (gDs G n,gLs G n)]) (fun (c:Nat)=>p-c) 0 (by omega) (af E E E E (af E E E E (Z E (ao E (ag (y:=(0:Int)) (by rfl)) ai)))) (au _) ?_
 intro c hc
 refine Cr<|Ws (aS E E)<|Wn<|aa ?_
 refine aB E (fun h_t80=>?_)<|fun h_t80=>?_
 ·
  refine Ck<|aa<|aw<|Cr<|Wm E<|Wa E<|Wn ?_
  refine ba (Γ:=[.fr (VP.pt b3 1),.fr (VP.ex vL),.fr (kN6.is ((p:Int)+1)),.fr (kN6.is (((p:Int)+1)-1)),.fr (VP.pel vL (p*1)),.fr (VP.ex (us.getD p nilV)),.fr (kN6.is (c:Int)),.fr (VP.pt b3 1),.fr (VP.ex vL),.fr (kN6.is ((p:Int)+1)),.fr (VP.pel vL ((p+1)*1)),.fr (VP.ex (us.getD (p+1) nilV)),.lt (kN6.is (c:Int)),.fr (VP.pt b3 1),.fr (VP.ex vL),.fr (kN6.is ((p:Int)+1)),.fr (VP.pel vL ((p+1)*1)),.fr (VP.ex (us.getD (p+1) nilV)),.fr (kN6.is (c:Int)),.fr (VP.pel (us.getD (p+1) nilV) (c*2)),.fr (kC.is (uE G c (p+1) c)),.fr (VP.pt b3 1),.fr (VP.ex vL),.fr (kN6.is ((p:Int)+1)),.fr (kN6.is (((p:Int)+1)-1)),.fr (VP.pel vL (p*1)),.fr (VP.ex (us.getD p nilV)),.fr (kN6.is (c:Int)),.fr (VP.pel (us.getD p nilV) (c*2)),.fr (kC.is (uE G c p c))]) (J E (fun N=>aM E cB E) (J E (fun N=>aV (ae (p:=kVal.is vL) E (mN N 3 E) (aN Li) bT E) (bm _)) (om E E (J E (fun N=>bq E E (c:=(((p:Int)+1)-1)) (ay (by omega))) (J E (fun N=>aY (k:=kVal) (xs:=us) (n:=(((p:Int)+1)-1)) p E E (mN N 5 E) U22 aE (by omega) (by omega)) (J E (fun N=>aV (bd p E (mN N 5 E) Li E (y:=(us.getD p nilV)) (gd nilV (by omega)) aE E) (bm _)) (om E E (J E (fun N=>aM E cB E) (J E (fun N=>aV (ae (p:=kVal.is vL) E (mN N 3 E) (aN Li) bT E) (bm _)) (om E E (J E (fun N=>aY (k:=kVal) (xs:=us) (n:=((p:Int)+1)) (p+1) E E (mN N 5 E) U22 aE (by omega) (by omega)) (J E (fun N=>aV (bd (p+1) E (mN N 5 E) Li E (y:=(us.getD (p+1) nilV)) (gd nilV (by omega)) aE E) (bm _)) (oc (cV E .n (cY E)) (J E (fun N=>aM E cB E) (J E (fun N=>aV (ae (p:=kVal.is vL) E (mN N 3 E) (aN Li) bT E) (bm _)) (om E E (J E (fun N=>aY (k:=kVal) (xs:=us) (n:=((p:Int)+1)) (p+1) E E (mN N 5 E) U22 aE (by omega) (by omega)) (J E (fun N=>aV (bd (p+1) E (mN N 5 E) Li E (y:=(us.getD (p+1) nilV)) (gd nilV (by omega)) aE E) (bm _)) (om E E (J E (fun N=>cm (e:=29) (k:=kC) (xss:=(tri n (swF1 G p c))) (n:=(c:Int)) (p+1) c E E (mN N 6 E) E (by omega) U23 ab E (by rw [tri_rlen (by omega)];omega)) (J E (fun N=>cO (k:=kC) (xss:=(tri n (swF1 G p c))) (p+1) c E (mN N 6 E) E (by omega) Li E (y:=(uE G c (p+1) c)) (tri_at2 (by omega) (by omega) swF1_a) ab E) (J E (fun N=>aM E cB E) (J E (fun N=>aV (ae (p:=kVal.is vL) E (mN N 3 E) (aN Li) bT E) (bm _)) (om E E (J E (fun N=>bq E E (c:=(((p:Int)+1)-1)) (ay (by omega))) (J E (fun N=>aY (k:=kVal) (xs:=us) (n:=(((p:Int)+1)-1)) p E E (mN N 5 E) U22 aE (by omega) (by omega)) (J E (fun N=>aV (bd p E (mN N 5 E) Li E (y:=(us.getD p nilV)) (gd nilV (by omega)) aE E) (bm _)) (om E E (J E (fun N=>cm (e:=29) (k:=kC) (xss:=(tri n (swF1 G p c))) (n:=(c:Int)) p c E E (mN N 6 E) E (by omega) U23 ab E (by rw [tri_rlen (by omega)];omega)) (J E (fun N=>cO (k:=kC) (xss:=(tri n (swF1 G p c))) p c E (mN N 6 E) E (by omega) Li E (y:=(uE G c p c)) (tri_at2 (by omega) (by omega) swF1_b) ab E) oz))))))))))))))))))))))))))))))<|fun σ3=>?_
  refine Ws (cm (e:=29) (k:=kC) (xss:=(tri n (swF1 G p c))) (n:=(c:Int)) p c E E (ac 6 E) E (by omega) U23 ab E (by rw [tri_rlen (by omega)];omega))<|aG .n (dX 6 p c E E E (by omega) Li E (y0:=(((tri n (swF1 G p c)).getD p []).getD c 0)) (gd 0 (by rw [tri_rlen (by omega)];omega)) ab E Lr)<|Ws (cm (e:=29) (k:=kC) (xss:=((tri n (swF1 G p c)).set p (((tri n (swF1 G p c)).getD p []).set c (uE G c (p+1) c)))) (n:=(c:Int)) (p+1) c E E (ac 6 E) E (by omega) U23 ab E (by rw [tri_set _ (by omega),tri_rlen (by omega)];omega))<|aG .n (dX 6 (p+1) c E E E (by omega) Li E (y0:=((((tri n (swF1 G p c)).set p (((tri n (swF1 G p c)).getD p []).set c (uE G c (p+1) c))).getD (p+1) []).getD c 0)) (gd 0 (by rw [tri_set _ (by omega),tri_rlen (by omega)];omega)) ab E Lr)<|aj<|Qb<|ah<|Ws (aI E E (c:=((c:Int)+1)) (ay (by omega)))<|Wm E<|aj<|tf 6 E (y:=(tri n (swF1 G p (c+1)))) (by rw [tri_set _ (by omega),tri_set _ (by omega),swF1_s]) ?_
  exact bG (c+1) (by omega) (by omega) (af E E E E (af E E E E (Z E (ao E (ag (y:=(((c+1):Nat):Int)) (by rfl)) ai))))<|au _
 ·
  refine Ex<|aa<|Cr<|Wm E<|Ws (aI E E (c:=((p+2:Nat):Int)) (ay (by omega)))<|Wa E<|Wn<|aw<|tf 6 E (y:=(tri n (swF2 G p (p+2)))) (by rw [show c=p by omega,swF2_0])<|bN (fun (c:Nat)=>p+2≤c∧c≤n) (fun (c:Nat)=>[(1,kN6.is ((p:Int)+1)),(2,VP.pt b1 0),(4,VP.pt b2 0),(6,VP.pt b3 0),(7,VP.pt (σ1 26) 0),(9,VP.pt (σ1 28) 0),(10,VP.pt (σ1 29) 0),(11,VP.clo 222 [VP.pim kC (uD G (p+1))]),(13,kN6.is (c:Int))]) (fun (c:Nat)=>[OB.box (σ1 26) 29 kC (uD G p),OB.box (σ1 28) 29 kC (uD G (p+2)),OB.box (σ1 29) 29 kC (uE G p (p+1) p),OB.box b3 25 (kPair kVal kVal) (vD,vL),OB.row vD 29 kC (gDs (swpI G p) n),OB.row vL 23 kVal us,OB.fam us 29 kC (tri n (swF2 G p c)),OB.box b2 25 kGso ([],[]),OB.box b1 25 kGso (gDs G n,gLs G n)]) (fun (c:Nat)=>n-c) (p+2) ⟨Nat.le_refl _,by omega⟩ (af E E E E (af E E E E (ao E (ag (y:=(((p+2):Nat):Int)) (by rfl)) ai))) (au _) ?_
  intro c ⟨hc0,hc⟩
  refine aa<|Cr<|Wm E<|Ws (aM E cB E)<|Ws (ae (p:=kMC.is (gLs G n)) E (ac 8 E) (aN Li) bT E)<|Ws (aA E U22)<|Ws (aS E E)<|Wn ?_
  refine aB E (fun h_t121=>?_)<|fun h_t121=>?_
  ·
   refine Ck<|aa<|aw<|aa ?_
   refine CW.drawS (Γ:=[.fr (VP.pt b1 1),.fr (kMC.is (gLs G n)),.fr (kN6.is (c:Int)),.fr (VP.pim kVC ((gLs G n).getD c [])),.fr (kVC.is ((gLs G n).getD c [])),.fr (kN6.is ((p:Int)+1)),.fr (kN6.is (((p:Int)+1)-1)),.fr (VP.pim kC (uE G p c p)),.fr (kC.is (uE G p c p)),.fr (VP.pt b1 1),.fr (kMC.is (gLs G n)),.fr (kN6.is (c:Int)),.fr (VP.pim kVC ((gLs G n).getD c [])),.fr (kVC.is ((gLs G n).getD c [])),.fr (kN6.is ((p:Int)+1)),.fr (VP.pim kC (uE G (p+1) c (p+1))),.fr (kC.is (uE G (p+1) c (p+1))),.al (fun b=>OB.box b 29 kC 0) (fun b=>OB.box b 29 kC (uE G p c p)) 19,.al (fun b=>OB.box b 29 kC 0) (fun b=>OB.box b 29 kC (uE G (p+1) c (p+1))) 20,.st 17,.st 18]) (by kernel_rfl) (ChkS.of (sh:=[(0,0),(0,0),(0,0),(0,0),(0,0),(0,0),(0,0),(0,0),(0,0),(0,0),(0,0),(0,0),(0,0),(0,0),(0,0),(0,0),(0,0),(1,19),(1,20),(2,17),(2,18)]) E (by kernel_rfl) E) (fun q_ x_ h_=>?_)<|fun σ4=>?_
   ·
    match q_,h_ with
    | 0,h_=>cases h_;exact ObS.f rfl (fun σ4=>.n) (fun σ4 N=>(O.fa rfl fld25_1 rfl))
    | 1,h_=>cases h_;exact ObS.f rfl (fun σ4=>.n) (fun σ4 N=>(O.ld (p:=kMC.is (gLs G n)) rfl (mN N 8 rfl) (Lens.snd Li) ty22 rfl))
    | 2,h_=>cases h_;exact ObS.f rfl (fun σ4=>.n) (fun σ4 N=>(O.mv rfl))
    | 3,h_=>cases h_;exact ObS.f rfl (fun σ4=>.n) (fun σ4 N=>(O.ix c rfl rfl U22 ty23 rfl (v:=((gLs G n).getD c [])) (gd [] (by omega))))
    | 4,h_=>cases h_;exact ObS.f rfl (fun σ4=>.n) (fun σ4 N=>(O.ldP rfl ty23))
    | 5,h_=>cases h_;exact ObS.f rfl (fun σ4=>.n) (fun σ4 N=>(O.mv rfl))
    | 6,h_=>cases h_;exact ObS.f rfl (fun σ4=>.n) (fun σ4 N=>(O.sub rfl rfl (c:=(((p:Int)+1)-1)) (w64 (by omega))))
    | 7,h_=>cases h_;exact ObS.f rfl (fun σ4=>.n) (fun σ4 N=>(O.ix p rfl rfl U23 ty29 (by omega) (v:=(uE G p c p)) (gLs_at (by omega) (by omega))))
    | 8,h_=>cases h_;exact ObS.f rfl (fun σ4=>.n) (fun σ4 N=>(O.ldP rfl ty29))
    | 9,h_=>cases h_;exact ObS.f rfl (fun σ4=>.n) (fun σ4 N=>(O.fa rfl fld25_1 rfl))
    | 10,h_=>cases h_;exact ObS.f rfl (fun σ4=>.n) (fun σ4 N=>(O.ld (p:=kMC.is (gLs G n)) rfl (mN N 8 rfl) (Lens.snd Li) ty22 rfl))
    | 11,h_=>cases h_;exact ObS.f rfl (fun σ4=>.n) (fun σ4 N=>(O.mv rfl))
    | 12,h_=>cases h_;exact ObS.f rfl (fun σ4=>.n) (fun σ4 N=>(O.ix c rfl rfl U22 ty23 rfl (v:=((gLs G n).getD c [])) (gd [] (by omega))))
    | 13,h_=>cases h_;exact ObS.f rfl (fun σ4=>.n) (fun σ4 N=>(O.ldP rfl ty23))
    | 14,h_=>cases h_;exact ObS.f rfl (fun σ4=>.n) (fun σ4 N=>(O.mv rfl))
    | 15,h_=>cases h_;exact ObS.f rfl (fun σ4=>.n) (fun σ4 N=>(O.ix (p+1) rfl rfl U23 ty29 (by omega) (v:=(uE G (p+1) c (p+1))) (gLs_at (by omega) (by omega))))
    | 16,h_=>cases h_;exact ObS.f rfl (fun σ4=>.n) (fun σ4 N=>(O.ldP rfl ty29))
    | 17,h_=>cases h_;exact ObS.a rfl z29_C
    | 18,h_=>cases h_;exact ObS.a rfl z29_C
    | 19,h_=>cases h_;exact ObS.s rfl rfl (fun σ4=>.n) (fun σ4 N=>(O.stW (l:=kC) (u:=(uE G p c p)) 0 rfl rfl rfl ty29 rfl Lr))
    | 20,h_=>cases h_;exact ObS.s rfl rfl (fun σ4=>.n) (fun σ4 N=>(O.stW (l:=kC) (u:=(uE G (p+1) c (p+1))) 0 rfl rfl rfl ty29 rfl Lr))
    | n_+21,h_=>simp at h_
   refine bS<|aa ?_
   refine ba (Γ:=[.fr (VP.pt b3 1),.fr (VP.ex vL),.fr (kN6.is (c:Int)),.fr (VP.pel vL (c*1)),.fr (VP.ex (us.getD c nilV)),.fr (kN6.is ((p:Int)+1)),.fr (kN6.is (((p:Int)+1)-1)),.fr (VP.clo 222 [VP.pim kC (uD G (p+1))]),.fr (kC.is (uD G p)),.fr (kC.is (uE G (p+1) c (p+1))),.fr (kC.is (uE G p (p+1) p)),.fr (kC.is (uE G p c p)),.fr (kC.is (((uD G p)*(uE G (p+1) c (p+1))+(uE G p (p+1) p)*(uE G p c p)).fdiv (uD G (p+1)))),.fr (VP.pel (us.getD c nilV) (p*2))]) (J E (fun N=>aM E cB E) (J E (fun N=>aV (ae (p:=kVal.is vL) E (mN N 5 E) (aN Li) bT E) (bm _)) (om E E (J E (fun N=>aY (k:=kVal) (xs:=us) (n:=(c:Int)) c E E (mN N 7 E) U22 aE E (by omega)) (J E (fun N=>aV (bd c E (mN N 7 E) Li E (y:=(us.getD c nilV)) (gd nilV (by omega)) aE E) (bm _)) (om E E (J E (fun N=>bq E E (c:=(((p:Int)+1)-1)) (ay (by omega))) (om E E (J E (fun N=>ae E (mN N 2 E) Li ab E) (J E (fun N=>ae E (mN N 1 E) Li ab E) (J E (fun N=>ae E (mN N 4 E) Li ab E) (J E (fun N=>ae E (mN N 0 E) Li ab E) (J E (fun N=>ee E fn222 (aq E (aJ ((hD p (by omega)).sm (by omega))) (aq E (aJ ((hL c (p+1) (by omega) (by omega)).sm (by omega))) (aq E (aJ (hl0.sm (by omega))) (aq E (aJ ((hL c p (by omega) (by omega)).sm (by omega))) ax)))) (c_gso_Swap1 B (uD G p) (uE G (p+1) c (p+1)) (uE G p (p+1) p) (uE G p c p) (uD G (p+1)) (hD _ (by omega)) (hL c (p+1) (by omega) (by omega)) hl0 (hL c p (by omega) (by omega)) (hD _ (by omega)) he0 (by assumption))) (J E (fun N=>cm (e:=29) (k:=kC) (xss:=(tri n (swF2 G p c))) (n:=(((p:Int)+1)-1)) c p E E (mN N 8 E) E (by omega) U23 ab (by omega) (by rw [tri_rlen (by omega)];omega)) oz))))))))))))))<|fun σ5=>?_
   refine aG .n (dX 8 c p E E E (by omega) Li E (y0:=(((tri n (swF2 G p c)).getD c []).getD p 0)) (gd 0 (by rw [tri_rlen (by omega)];omega)) ab E Lr)<|Wn ?_
   refine ba (Γ:=[.fr (VP.pt b3 1),.fr (VP.ex vL),.fr (kN6.is (c:Int)),.fr (VP.pel vL (c*1)),.fr (VP.ex (us.getD c nilV)),.fr (kN6.is ((p:Int)+1)),.fr (VP.clo 222 [VP.pim kC (uD G (p+1))]),.fr (kC.is (uD G (p+2))),.fr (kC.is (uE G p c p)),.fr (kC.is (uE G p (p+1) p)),.fr (kC.is (-(uE G p (p+1) p))),.fr (kC.is (uE G (p+1) c (p+1))),.fr (kC.is (((uD G (p+2))*(uE G p c p)+(-(uE G p (p+1) p))*(uE G (p+1) c (p+1))).fdiv (uD G (p+1)))),.fr (VP.pel (us.getD c nilV) ((p+1)*2))]) (J E (fun N=>aM E cB E) (J E (fun N=>aV (ae (p:=kVal.is vL) E (mN N 5 E) (aN Li) bT E) (bm _)) (om E E (J E (fun N=>aY (k:=kVal) (xs:=us) (n:=(c:Int)) c E E (mN N 7 E) U22 aE E (by omega)) (J E (fun N=>aV (bd c E (mN N 7 E) Li E (y:=(us.getD c nilV)) (gd nilV (by omega)) aE E) (bm _)) (om E E (om E E (J E (fun N=>ae E (mN N 3 E) Li ab E) (J E (fun N=>ae E (mN N 0 E) Li ab E) (J E (fun N=>ae E (mN N 4 E) Li ab E) (J E (fun N=>aF fn145 (aq E (aJ (hl0.sm (by omega))) ax) (ey (uE G p (p+1) p))) (J E (fun N=>ae E (mN N 1 E) Li ab E) (J E (fun N=>ee E fn222 (aq E (aJ ((hD (p+2) (by omega)).sm (by omega))) (aq E (aJ ((hL c p (by omega) (by omega)).sm (by omega))) (aq E (aJ (hl0.neg.sm (by omega))) (aq E (aJ ((hL c (p+1) (by omega) (by omega)).sm (by omega))) ax)))) (c_gso_Swap1 B (uD G (p+2)) (uE G p c p) (-(uE G p (p+1) p)) (uE G (p+1) c (p+1)) (uD G (p+1)) (hD _ (by omega)) (hL c p (by omega) (by omega)) hl0.neg (hL c (p+1) (by omega) (by omega)) (hD _ (by omega)) he0 (by assumption))) (J E (fun N=>cm (e:=29) (k:=kC) (xss:=((tri n (swF2 G p c)).set c (((tri n (swF2 G p c)).getD c []).set p (((uD G p)*(uE G (p+1) c (p+1))+(uE G p (p+1) p)*(uE G p c p)).fdiv (uD G (p+1)))))) (n:=((p:Int)+1)) c (p+1) E E (mN N 8 E) E (by omega) U23 ab (by omega) (by rw [tri_set _ (by omega),tri_rlen (by omega)];omega)) oz))))))))))))))<|fun σ6=>?_
   refine aG .n (dX 8 c (p+1) E E E (by omega) Li E (y0:=((((tri n (swF2 G p c)).set c (((tri n (swF2 G p c)).getD c []).set p (((uD G p)*(uE G (p+1) c (p+1))+(uE G p (p+1) p)*(uE G p c p)).fdiv (uD G (p+1))))).getD c []).getD (p+1) 0)) (gd 0 (by rw [tri_set _ (by omega),tri_rlen (by omega)];omega)) ab E Lr)<|aj<|Qb<|ah<|Wm E<|Ws (aI E E (c:=((c:Int)+1)) (ay (by omega)))<|Wa E<|aj<|tf 8 E (y:=(tri n (swF2 G p (c+1)))) (by rw [tri_set _ (by omega),tri_set _ (by omega)];exact congrArg (tri n) (swF2_s (by omega))) ?_
   exact bG (c+1) (by omega) ⟨by omega,by omega⟩ (af E E E E (af E E E E (ao E (ag (y:=(((c+1):Nat):Int)) (by rfl)) ai)))<|aW<|OS.skip<|OS.skip<|OS.keep<|OS.keep<|OS.keep<|OS.keep<|OS.keep<|OS.keep<|OS.keep<|OS.keep<|OS.keep OS.nil
  ·
   refine Ex<|aa<|tf 6 E (y:=(gLs (swpI G p) n)) (by rw [show c=n by omega];exact swF2_end hs hP hp1)<|ew (k2:=(kPair kVC kVal)) ((gDs (swpI G p) n),vL) 4 3 E E (fun m_ cs_ h_ c_=>fz_fst m_ cs_ h_ c_) (kp 1 E (kp 2 E (kp 4 E (kp 6 E (kp 7 E (kp 9 E (kp 10 E (kp 11 E (kp 13 E (kp 117 E (kp 118 E (kp 119 E (kp 120 E (kp 121 E .nil))))))))))))))<|ST.freezeMIn (k2:=kGso) ((gDs (swpI G p) n),(gLs (swpI G p) n)) 5 4 3 E E E (fun m_ cs_ h_ c_=>fz_snd m_ cs_ h_ c_) (kp 1 E (kp 2 E (kp 4 E (kp 6 E (kp 7 E (kp 9 E (kp 10 E (kp 11 E (kp 13 E (kp 117 E (kp 118 E (kp 119 E (kp 120 E (kp 121 E .nil))))))))))))))<|ah<|Ws (ae (p:=kGso.is ((gDs (swpI G p) n),(gLs (swpI G p) n))) E (ac 3 E) Li bi E)<|aG .n (aD (l:=kGso) (u:=((gDs (swpI G p) n),(gLs (swpI G p) n))) 4 E E E bi E Lr)<|Wa E<|Wn<|am ?_
   exact Qd E (dE E (ac 4 E) bi (ag (y:=(gDs (swpI G p) n,gLs (swpI G p) n)) (by rfl)) (ar E ak)) ⟨E,E⟩
end Fw
namespace Fw
open Go
def sumQ (f:Nat→Rat):Nat→Rat
  | 0=>0
  | n+1=>sumQ f n+f n
theorem sumQ_congr {f g:Nat→Rat}:∀{n},(∀i,i<n→f i=g i)→sumQ f n=sumQ g n
  | 0,_=>rfl
  | n+1,h=>by rw [sumQ,sumQ,sumQ_congr (fun i hi=>h i (by omega)),h n (by omega)]
theorem sumQ_add (f g:Nat→Rat):∀n,sumQ (fun i=>f i+g i) n=sumQ f n+sumQ g n
  | 0=>by simp only [sumQ];grind
  | n+1=>by simp only [sumQ];rw [sumQ_add f g n];grind
theorem sumQ_sub (f g:Nat→Rat):∀n,sumQ (fun i=>f i-g i) n=sumQ f n-sumQ g n
  | 0=>by simp [sumQ];grind
  | n+1=>by simp only [sumQ];rw [sumQ_sub f g n];grind
theorem sumQ_mul (f:Nat→Rat) (c:Rat):∀n,sumQ f n*c=sumQ (fun i=>f i*c) n
  | 0=>by simp [sumQ]
  | n+1=>by simp only [sumQ];rw [←sumQ_mul f c n];grind
theorem mul_sumQ (f:Nat→Rat) (c:Rat):∀n,c*sumQ f n=sumQ (fun i=>c*f i) n
  | 0=>by simp [sumQ]
  | n+1=>by simp only [sumQ];rw [←mul_sumQ f c n];grind
theorem sumQ_zero:∀n,sumQ (fun _=>0) n=0
  | 0=>rfl
  | n+1=>by rw [sumQ,sumQ_zero n];grind
theorem sumQ_comm (f:Nat→Nat→Rat) (m:Nat):∀n,sumQ (fun i=>sumQ (fun k=>f i k) m) n=sumQ (fun k=>sumQ (fun i=>f i k) n) m
  | 0=>(sumQ_zero m).symm
  | n+1=>by rw [sumQ,sumQ_comm f m n,←sumQ_add];rfl
theorem sumQ_nonneg {f:Nat→Rat}:∀{n},(∀i,i<n→0≤f i)→0≤sumQ f n
  | 0,_=>Rat.le_refl
  | n+1,h=>by
    have h1:=sumQ_nonneg (f:=f) (n:=n) (fun i hi=>h i (by omega))
    have h2:=h n (by omega)
    rw [sumQ];grind
theorem sumQ_le_of {f:Nat→Rat}:∀{n},(∀i,i<n→0≤f i)→∀{k},k<n→f k≤sumQ f n
  | 0,_,k,hk=>absurd hk (by omega)
  | n+1,h,k,hk=>by
    have h1:=sumQ_nonneg (f:=f) (n:=n) (fun i hi=>h i (by omega))
    have h2:=h n (by omega)
    rw [sumQ]
    by_cases e:k=n
    · subst e;grind
    · have:=sumQ_le_of (f:=f) (n:=n) (fun i hi=>h i (by omega)) (k:=k) (by omega)
      grind
theorem sumQ_le {f g:Nat→Rat}:∀{n},(∀i,i<n→f i≤g i)→sumQ f n≤sumQ g n
  | 0,_=>Rat.le_refl
  | n+1,h=>by
    have h1:=sumQ_le (f:=f) (g:=g) (n:=n) (fun i hi=>h i (by omega))
    have h2:=h n (by omega)
    rw [sumQ,sumQ];grind
theorem sumQ_const (c:Rat):∀n:Nat,sumQ (fun _=>c) n=(n:Rat)*c
  | 0=>by simp [sumQ]
  | n+1=>by rw [sumQ,sumQ_const c n];push_cast;grind
theorem sumQ_one {f:Nat→Rat} {k:Nat}:∀{n},k<n→(∀i,i<n→i≠k→f i=0)→sumQ f n=f k
  | 0,hk,_=>absurd hk (by omega)
  | n+1,hk,h=>by
    rw [sumQ]
    by_cases e:k=n
    · subst e
      rw [sumQ_congr (g:=fun _=>0) (fun i hi=>h i (by omega) (by omega)),sumQ_zero];grind
    · rw [sumQ_one (by omega) (fun i hi hne=>h i (by omega) hne),h n (by omega) (fun x=>e x.symm)];grind
theorem sq_nonneg (q:Rat):0≤q*q:=by
  rcases Rat.le_total (a:=0) (b:=q) with h | h
  · exact Rat.mul_nonneg h h
  · have:=Rat.mul_nonneg (a:=-q) (b:=-q) (by grind) (by grind)
    grind
def extG (G:Nat→Nat→Rat) (n:Nat) (c:Nat→Rat):Nat→Nat→Rat:=fun x y=>
  if x=n then (if y=n then sumQ (fun i=>sumQ (fun j=>c i*c j*G i j) n) n else sumQ (fun i=>c i*G i y) n)
  else if y=n then sumQ (fun j=>c j*G x j) n else G x y
section
variable {G:Nat→Nat→Rat} {n:Nat} {c:Nat→Rat}
theorem ext_lo:∀l,l≤n→∀x y,x≠n→y≠n→gsE (extG G n c) l x y=gsE G l x y
  | 0,_,x,y,hx,hy=>by show extG G n c x y=G x y;unfold extG;rw [if_neg hx,if_neg hy]
  | l+1,hl,x,y,hx,hy=>by
    have ih:=ext_lo l (by omega)
    rw [gsE_succ,ih x y hx hy,ih x l hx (by omega),ih l y (by omega) hy,ih l l (by omega) (by omega),gsE_succ]
theorem ext_row:∀l,l≤n→∀y,y≠n→gsE (extG G n c) l n y=sumQ (fun i=>c i*gsE G l i y) n
  | 0,_,y,hy=>by show extG G n c n y=_;unfold extG;rw [if_pos rfl,if_neg hy];rfl
  | l+1,hl,y,hy=>by
    have ih:=ext_row l (by omega)
    rw [gsE_succ,ih y hy,ih l (by omega),ext_lo l (by omega) l y (by omega) hy,ext_lo l (by omega) l l (by omega) (by omega)]
    rw [Rat.div_def,Rat.mul_assoc,sumQ_mul,←sumQ_sub]
    apply sumQ_congr
    intro i hi
    rw [gsE_succ];grind
theorem ext_col:∀l,l≤n→∀x,x≠n→gsE (extG G n c) l x n=sumQ (fun j=>c j*gsE G l x j) n
  | 0,_,x,hx=>by show extG G n c x n=_;unfold extG;rw [if_neg hx,if_pos rfl];rfl
  | l+1,hl,x,hx=>by
    have ih:=ext_col l (by omega)
    rw [gsE_succ,ih x hx,ih l (by omega),ext_lo l (by omega) x l hx (by omega),ext_lo l (by omega) l l (by omega) (by omega)]
    rw [Rat.div_def,mul_sumQ,sumQ_mul,←sumQ_sub]
    apply sumQ_congr
    intro j hj
    rw [gsE_succ];grind
theorem ext_dia:∀l,l≤n→gsE (extG G n c) l n n=sumQ (fun i=>sumQ (fun j=>c i*c j*gsE G l i j) n) n
  | 0,_=>by show extG G n c n n=_;unfold extG;rw [if_pos rfl,if_pos rfl];rfl
  | l+1,hl=>by
    have ih:=ext_dia l (by omega)
    rw [gsE_succ,ih,ext_row l (by omega) l (by omega),ext_col l (by omega) l (by omega),ext_lo l (by omega) l l (by omega) (by omega)]
    rw [sumQ_mul,Rat.div_def,sumQ_mul,←sumQ_sub]
    apply sumQ_congr
    intro i hi
    rw [mul_sumQ,sumQ_mul,←sumQ_sub]
    apply sumQ_congr
    intro j hj
    rw [gsE_succ];grind
theorem gsE_gone (hs:∀i j,G i j=G j i) (hn:∀l,l<n→gsE G l l l≠0):∀l,l≤n→∀i j,(i<l∨j<l)→gsE G l i j=0
  | 0,_,i,j,h=>absurd h (by omega)
  | l+1,hl,i,j,h=>by
    have ih:=gsE_gone hs hn l (by omega)
    have h0:=hn l (by omega)
    rw [gsE_succ]
    by_cases hi:i<l
    · rw [ih i j (.inl hi),ih i l (.inl hi)];grind
    · by_cases hj:j<l
      · rw [ih i j (.inr hj),ih l j (.inr hj)];grind
      · by_cases e:i=l
        · subst e;grind
        · have e2:j=l:=by omega
          subst e2;grind
theorem pyth (hs:∀i j,G i j=G j i) (x:Nat):∀l,gsE G 0 x x=gsE G l x x+sumQ (fun k=>gsE G k x k*gsE G k x k/gsE G k k k) l
  | 0=>by rw [sumQ];grind
  | l+1=>by
    rw [pyth hs x l,gsE_succ G l,sumQ,gsE_sym hs l l x];grind
theorem ext_sym (hs:∀i j,G i j=G j i):∀i j,extG G n c i j=extG G n c j i:=by
  intro i j
  unfold extG
  by_cases hi:i=n <;> by_cases hj:j=n <;> simp only [hi,hj,if_true,if_false]
  · apply sumQ_congr;intro k _;rw [hs]
  · apply sumQ_congr;intro k _;rw [hs]
  · exact hs i j
def qf (G:Nat→Nat→Rat) (n:Nat) (c:Nat→Rat):Rat:=sumQ (fun i=>sumQ (fun j=>c i*c j*G i j) n) n
def qy (G:Nat→Nat→Rat) (n:Nat) (c:Nat→Rat) (l:Nat):Rat:=sumQ (fun i=>c i*gsE G l i l) n
theorem qf_sum (hs:∀i j,G i j=G j i) (hn:∀l,l<n→gsE G l l l≠0):qf G n c=sumQ (fun l=>qy G n c l*qy G n c l/gsE G l l l) n:=by
  have h1:=pyth (ext_sym (n:=n) (c:=c) hs) n n
  have h2:gsE (extG G n c) 0 n n=qf G n c:=ext_dia 0 (Nat.zero_le _)
  have h3:gsE (extG G n c) n n n=0:=by
    rw [ext_dia n (Nat.le_refl _),sumQ_congr (g:=fun _=>0),sumQ_zero]
    intro i hi
    rw [sumQ_congr (g:=fun _=>0),sumQ_zero]
    intro j hj
    rw [gsE_gone hs hn n (Nat.le_refl _) i j (.inl hi)];grind
  rw [h2,h3] at h1
  rw [h1,sumQ_congr (g:=fun l=>qy G n c l*qy G n c l/gsE G l l l)]
  · grind
  · intro l hl
    rw [ext_row l (by omega) l (by omega),ext_lo l (by omega) l l (by omega) (by omega)];rfl
theorem qf_term (hs:∀i j,G i j=G j i) (hn:∀l,l<n→0<gsE G l l l):(∀l,l<n→0≤qy G n c l*qy G n c l/gsE G l l l):=fun l hl=>by
  rw [Rat.div_def]
  exact Rat.mul_nonneg (sq_nonneg _) (Rat.le_of_lt (Rat.inv_pos.2 (hn l hl)))
theorem pos_ne {q:Rat} (h:0<q):q≠0:=fun e=>by rw [e] at h;exact absurd h (by decide)
theorem qy_le (hs:∀i j,G i j=G j i) (hn:∀l,l<n→0<gsE G l l l) {l:Nat} (hl:l<n):qy G n c l*qy G n c l≤qf G n c*gsE G l l l:=by
  have h1:=sumQ_le_of (qf_term (c:=c) hs hn) hl
  rw [←qf_sum hs (fun l hl=>pos_ne (hn l hl))] at h1
  have h2:=Rat.mul_le_mul_of_nonneg_right h1 (Rat.le_of_lt (hn l hl))
  have h3:qy G n c l*qy G n c l/gsE G l l l*gsE G l l l=qy G n c l*qy G n c l:=by
    have:=pos_ne (hn l hl);grind
  rwa [h3] at h2
end
theorem qG_sy {G:Fi} (hs:SymG G):∀i j,qG G i j=qG G j i:=fun i j=>by unfold qG;rw [hs i j]
section
variable {G:Fi} {n:Nat}
theorem frS_p (hs:SymG G) (hp:PosU G n) {l} (hl:l<n):0<frS G l:=piv_pos hs hp hl
theorem frM_mul (hs:SymG G) (hp:PosU G n) {x l} (hl:l<n):frM G x l*frS G l=gsE (qG G) l x l:=by
  have:=piv_ne hs hp hl
  unfold frM frS;grind
theorem norm_sum (hs:SymG G) (hp:PosU G n) (x:Nat):∀l,l≤n→(G x x:Rat)=gsE (qG G) l x x+sumQ (fun k=>frM G x k*frM G x k*frS G k) l:=fun l hl=>by
  have h:=pyth (qG_sy hs) x l
  have e:gsE (qG G) 0 x x=(G x x:Rat):=rfl
  rw [e] at h
  rw [h]
  congr 1
  apply sumQ_congr
  intro k hk
  have h0:=piv_ne hs hp (show k<n by omega)
  unfold frM frS;grind
theorem term_nonneg (hs:SymG G) (hp:PosU G n) (x:Nat) {k} (hk:k<n):0≤frM G x k*frM G x k*frS G k:=Rat.mul_nonneg (sq_nonneg _) (Rat.le_of_lt (frS_p hs hp hk))
theorem frS_le (hs:SymG G) (hp:PosU G n) {x} (hx:x<n):frS G x≤(G x x:Rat):=by
  have h1:=norm_sum hs hp x x (by omega)
  have h2:=sumQ_nonneg (f:=fun k=>frM G x k*frM G x k*frS G k) (n:=x) (fun k hk=>term_nonneg hs hp x (by omega))
  unfold frS;grind
theorem dia_pos (hs:SymG G) (hp:PosU G n) {x} (hx:x<n):0<G x x:=by
  have h1:=frS_le hs hp hx
  have h2:=frS_p hs hp hx
  have h3:(0:Rat)<(G x x:Rat):=by grind
  exact_mod_cast h3
theorem term_le (hs:SymG G) (hp:PosU G n) {x l} (hl:l<x) (hx:x<n):frM G x l*frM G x l*frS G l≤(G x x:Rat):=by
  have h1:=norm_sum hs hp x x (by omega)
  have h2:=sumQ_le_of (f:=fun k=>frM G x k*frM G x k*frS G k) (n:=x) (fun k hk=>term_nonneg hs hp x (by omega)) hl
  have h3:=frS_p hs hp hx
  unfold frS at h3
  grind
theorem uD_succ (hs:SymG G) (hp:PosU G n) {l} (hl:l<n):(uD G (l+1):Rat)=(uD G l:Rat)*frS G l:=by
  rw [uD_q hs (hp.le (show l+1≤n by omega)),uD_q hs (hp.le (show l≤n by omega))];rfl
theorem uE_fr (hs:SymG G) (hp:PosU G n) {x l} (hl:l<x) (hx:x<n):(uE G l x l:Rat)=(uD G (l+1):Rat)*frM G x l:=by
  rw [uE_q hs (hp.le (show l≤n by omega)) (show l≤x by omega) (Nat.le_refl l),uD_succ hs hp (show l<n by omega),uD_q hs (hp.le (show l≤n by omega)),Rat.mul_assoc,Rat.mul_comm (frS G l),frM_mul hs hp (show l<n by omega)]
theorem uE_sq (hs:SymG G) (hp:PosU G n) {x l} (hl:l<x) (hx:x<n):uE G l x l*uE G l x l≤uD G l*uD G (l+1)*G x x:=by
  have h1:=term_le hs hp hl hx
  have d0:(0:Rat)≤(uD G l:Rat):=by have:=hp.uD (show l≤n by omega);exact_mod_cast Int.le_of_lt this
  have d1:(0:Rat)≤(uD G (l+1):Rat):=by have:=hp.uD (show l+1≤n by omega);exact_mod_cast Int.le_of_lt this
  have h2:=Rat.mul_le_mul_of_nonneg_left h1 (Rat.mul_nonneg d0 d1)
  have e1:=uE_fr hs hp hl hx
  have e2:=uD_succ hs hp (show l<n by omega)
  have h3:((uE G l x l*uE G l x l:Int):Rat)≤((uD G l*uD G (l+1)*G x x:Int):Rat):=by
    rw [Rat.intCast_mul,Rat.intCast_mul,Rat.intCast_mul,e1]
    have:(uD G (l+1):Rat)*frM G x l*((uD G (l+1):Rat)*frM G x l)=(uD G l:Rat)*(uD G (l+1):Rat)*(frM G x l*frM G x l*frS G l):=by
      rw [e2];grind
    rw [this];exact h2
  exact_mod_cast h3
theorem row_dia (hs:SymG G) (hp:PosU G n) {k j} (hj:j<k) (hk:k<n) (t:Int):0<G k k+t*G k j+t*G k j+t*t*G j j:=by
  have h:=dia_pos (rowI_sym (i:=k) (j:=j) (q:=t) hs) (rowI_pos hs hp hj) hk
  unfold rowI at h
  simp only [if_true] at h
  rw [hs j k] at h
  omega
end
theorem rowI_dia (G:Fi) (hs:SymG G) (k j:Nat) (q:Int):rowI G k j q k k=G k k+q*G k j+q*G k j+q*q*G j j:=by
  unfold rowI;simp only [if_true];rw [hs j k]
theorem rowI_dia_ne (G:Fi) (k j:Nat) (q:Int) {x} (hx:x≠k):rowI G k j q x x=G x x:=by
  unfold rowI;simp [hx]
theorem Sz.sq {n:Nat} {z w:Int} (h:Sz n w) (hz:z*z≤w):Sz n z:=by
  refine h.le ?_
  have h1:z.natAbs≤(z*z).natAbs:=by
    rw [Int.natAbs_mul]
    by_cases e:z.natAbs=0
    · omega
    · exact Nat.le_mul_of_pos_left _ (by omega)
  have h2:(z*z).natAbs≤w.natAbs:=by
    have h0:0≤z*z:=by
      rcases Int.le_total 0 z with h | h
      · exact Int.mul_nonneg h h
      · exact Int.mul_nonneg_of_nonpos_of_nonpos h h
    omega
  omega
theorem near_spec (q:Rat):(nearQ q:Rat)≤q+1/2∧q+1/2<(nearQ q:Rat)+1:=by
  have hd:=rq_den_pos q
  have hdq:(0:Rat)<((rq q).2:Rat):=by exact_mod_cast hd
  have hne:((rq q).2:Rat)≠0:=pos_ne hdq
  have e:=rq_val q
  have ea:((rq q).1:Rat)=q*((rq q).2:Rat):=by rw [←e];grind
  have hdef:=Int.fmod_def ((rq q).1+(rq q).1+(rq q).2) ((rq q).2+(rq q).2)
  have f1:=Int.fmod_nonneg_of_pos ((rq q).1+(rq q).1+(rq q).2) (show 0<(rq q).2+(rq q).2 by omega)
  have f2:=Int.fmod_lt_of_pos ((rq q).1+(rq q).1+(rq q).2) (show 0<(rq q).2+(rq q).2 by omega)
  have hz:((rq q).1+(rq q).1+(rq q).2).fdiv ((rq q).2+(rq q).2)=nearQ q:=rfl
  rw [hz] at hdef
  generalize nearQ q=z at *
  generalize (rq q).1=a at *
  generalize (rq q).2=d at *
  have g1:(d+d)*z≤a+a+d:=by omega
  have g2:a+a+d<(d+d)*z+(d+d):=by omega
  have q1:(((d+d)*z:Int):Rat)≤((a+a+d:Int):Rat):=by exact_mod_cast g1
  have q2:((a+a+d:Int):Rat)<(((d+d)*z+(d+d):Int):Rat):=by exact_mod_cast g2
  rw [Rat.intCast_mul,Rat.intCast_add,Rat.intCast_add,Rat.intCast_add,ea] at q1
  rw [Rat.intCast_add,Rat.intCast_add,Rat.intCast_add,Rat.intCast_mul,Rat.intCast_add,ea] at q2
  have hh:(0:Rat)<(d:Rat)+(d:Rat):=by grind
  constructor
  · rcases Rat.le_total (a:=(z:Rat)) (b:=q+1/2) with h | h
    · exact h
    · by_cases e2:(z:Rat)=q+1/2
      · rw [e2];exact Rat.le_refl
      · have h3:0<(z:Rat)-(q+1/2):=by grind
        have:=Rat.mul_pos hh h3
        grind
  · by_cases h:q+1/2<(z:Rat)+1
    · exact h
    · replace h:=Rat.not_lt.mp h
      have h3:0≤q+1/2-((z:Rat)+1):=by grind
      have:=Rat.mul_nonneg (Rat.le_of_lt hh) h3
      grind
def half (q:Rat):Prop:=-1≤q+q∧q+q≤1
theorem near_half (q:Rat):half (q-(nearQ q:Rat)):=by
  obtain ⟨h1,h2⟩:=near_spec q
  constructor <;> grind
theorem near_zero {q:Rat} (h:nearQ q=0):half q:=by
  have:=near_half q
  rw [h] at this
  have e:q-((0:Int):Rat)=q:=by simp;grind
  rwa [e] at this
theorem half_sq {q:Rat} (h:half q):q*q≤1/4:=by
  obtain ⟨h1,h2⟩:=h
  have:=Rat.mul_nonneg (a:=1-(q+q)) (b:=1+(q+q)) (by grind) (by grind)
  grind
theorem near_sq (q:Rat):(nearQ q:Rat)*(nearQ q:Rat)≤4*(q*q):=by
  by_cases h0:nearQ q=0
  · rw [h0]
    have:=sq_nonneg q
    simp;grind
  · obtain ⟨h1,h2⟩:=near_spec q
    rcases Int.lt_or_gt_of_ne h0 with h | h
    · have h3:(nearQ q:Rat)≤-1:=by
        have h3:(nearQ q:Rat)≤((-1:Int):Rat):=Rat.intCast_le_intCast.mpr (by omega)
        exact h3
      have:=Rat.mul_nonneg (a:=(nearQ q:Rat)-2*q) (b:=-(nearQ q:Rat)-2*q) (by grind) (by grind)
      grind
    · have h3:(1:Rat)≤(nearQ q:Rat):=by
        have:1≤nearQ q:=by omega
        exact_mod_cast this
      have:=Rat.mul_nonneg (a:=2*q-(nearQ q:Rat)) (b:=2*q+(nearQ q:Rat)) (by grind) (by grind)
      grind
section
variable {G:Fi} {n:Nat}
theorem near_uE (hs:SymG G) (hp:PosU G n) {k j} (hj:j<k) (hk:k<n):nearQ (frM G k j)*nearQ (frM G k j)≤4*(uD G j*G k k):=by
  have h1:=near_sq (frM G k j)
  have h2:=term_le hs hp hj hk
  have d0:(0:Rat)<(uD G j:Rat):=by have:=hp.uD (show j≤n by omega);exact_mod_cast this
  have e2:=uD_succ hs hp (show j<n by omega)
  have d1:(1:Rat)≤(uD G (j+1):Rat):=by have:=hp.uD (show j+1≤n by omega);exact_mod_cast (show (1:Int)≤uD G (j+1) by omega)
  have h3:=Rat.mul_le_mul_of_nonneg_left h2 (Rat.le_of_lt d0)
  have h4:frM G k j*frM G k j≤(uD G j:Rat)*(frM G k j*frM G k j*frS G j):=by
    have e:(uD G j:Rat)*(frM G k j*frM G k j*frS G j)=frM G k j*frM G k j*(uD G (j+1):Rat):=by rw [e2];grind
    rw [e]
    have:=Rat.mul_le_mul_of_nonneg_left d1 (sq_nonneg (frM G k j))
    grind
  have h5:((nearQ (frM G k j)*nearQ (frM G k j):Int):Rat)≤((4*(uD G j*G k k):Int):Rat):=by
    rw [Rat.intCast_mul,Rat.intCast_mul,Rat.intCast_mul]
    have:(4:Rat)*(frM G k j*frM G k j)≤4*((uD G j:Rat)*(G k k:Rat)):=by grind
    have e4:((4:Int):Rat)=4:=rfl
    rw [e4]
    exact Rat.le_trans h1 this
  exact_mod_cast h5
theorem grow_dia (hs:SymG G) (hp:PosU G n) {k j} (hj:j<k) (hk:k<n) (q:Int):rowI G k j q k k≤2*G k k+2*(q*q*G j j):=by
  have h:=row_dia hs hp hj hk (-q)
  rw [rowI_dia G hs]
  have e1 : -q*G k j = -(q*G k j):=Int.neg_mul _ _
  have e2 : -q * -q*G j j=q*q*G j j:=by rw [Int.neg_mul_neg]
  rw [e1,e2] at h
  omega
theorem short_row (hs:SymG G) (hp:PosU G n) {M:Rat} (hM:∀l,l<n→frS G l≤M) {x} (hx:x<n) (hn:n≤12) (hh:∀l,l<x→half (frM G x l)):(G x x:Rat)≤4*M:=by
  have h1:=norm_sum hs hp x x (by omega)
  have hM0:0≤M:=Rat.le_trans (Rat.le_of_lt (frS_p hs hp hx)) (hM x hx)
  have h2:sumQ (fun k=>frM G x k*frM G x k*frS G k) x≤sumQ (fun _=>1/4*M) x:=sumQ_le fun k hk=>by
    have a1:=half_sq (hh k hk)
    have a2:=Rat.mul_le_mul_of_nonneg_right a1 (Rat.le_of_lt (frS_p hs hp (show k<n by omega)))
    have a3:=Rat.mul_le_mul_of_nonneg_left (hM k (by omega)) (show (0:Rat)≤1/4 by grind)
    exact Rat.le_trans a2 a3
  rw [sumQ_const] at h2
  have h3:((x:Nat):Rat)≤12:=by exact_mod_cast (show x≤12 by omega)
  have h4:=Rat.mul_le_mul_of_nonneg_right h3 (show 0≤1/4*M by have:=Rat.mul_nonneg (show (0:Rat)≤1/4 by grind) hM0;exact this)
  have h5:gsE (qG G) x x x≤M:=hM x hx
  grind
end
def lov (G:Fi) (x:Nat):Prop:=(3/4:Rat)*frS G (x-1)≤frS G x+frM G x (x-1)*frM G x (x-1)*frS G (x-1)
section
variable {G:Fi} {n:Nat}
theorem frS_row (hs:SymG G) (hp:PosU G n) {k j:Nat} (hj:j<k) (t:Int) {l:Nat} (hl:l<n):frS (rowI G k j t) l=frS G l:=by
  unfold frS;rw [qG_row];exact gsE_row_piv hj l fun i hi=>piv_ne hs hp (by omega)
theorem frM_row_hi (hs:SymG G) (hp:PosU G n) {k j:Nat} (hj:j<k) (t:Int) {x l:Nat} (hjl:j<l) (hl:l<n):frM (rowI G k j t) x l=frM G x l:=by
  unfold frM;rw [qG_row,gsE_row_hi hj l hjl (fun i hi=>piv_ne hs hp (by omega)),gsE_row_hi hj l hjl (fun i hi=>piv_ne hs hp (by omega))]
theorem frM_row_ne (hs:SymG G) (hp:PosU G n) {k j:Nat} (hj:j<k) (t:Int) {x l:Nat} (hx:x≠k) (hl:l<n):frM (rowI G k j t) x l=frM G x l:=by
  by_cases h:j<l
  · exact frM_row_hi hs hp hj t h hl
  · unfold frM
    rw [qG_row,gsE_row_piv hj l fun i hi=>piv_ne hs hp (by omega),gsE_row hj l (by omega) (fun i hi=>piv_ne hs hp (by omega)),cI_ne hx,cI_ne (show l≠k by omega)]
    congr 1;grind
theorem frM_row_at (hs:SymG G) (hp:PosU G n) {k j:Nat} (hj:j<k) (t:Int) (hn:j<n):frM (rowI G k j t) k j=frM G k j+(t:Rat):=by
  have h0:=piv_ne hs hp hn
  unfold frM
  rw [qG_row,gsE_row_piv hj j fun i hi=>piv_ne hs hp (by omega),gsE_row hj j (by omega) (fun i hi=>piv_ne hs hp (by omega)),cI_eq,cI_ne (show j≠k by omega)]
  grind
end
structure LC (G0:Fi) (n:Nat) (M Dm:Int) (G:Fi):Prop where
  s:SymG G
  p:PosU G n
  d:∀l,l≤n→uD G l≤Dm
  t:uD G n=uD G0 n
  m:∀l,l<n→frS G l≤(M:Rat)
structure LL (G0:Fi) (n:Nat) (M Dm:Int) (G:Fi) (a b:Nat):Prop where
  c:LC G0 n M Dm G
  z:∀x,x<n→G x x≤4*M
  h:∀x,x<a→∀l,l<x→half (frM G x l)
  v:∀x,0<x→x<b→lov G x
structure LR (G0:Fi) (n:Nat) (M Dm:Int) (G:Fi) (k j:Nat):Prop where
  c:LC G0 n M Dm G
  z:∀x,x<n→x≠k→G x x≤4*M
  zk:G k k≤4*M*(2+32*Dm*M)^(k-j)
  h:∀x,x<k→∀l,l<x→half (frM G x l)
  v:∀x,0<x→x<k→lov G x
  hk:∀l,j≤l→l<k→half (frM G k l)
section
variable {G0 G:Fi} {n:Nat} {M Dm:Int}
theorem LC.d1 (h:LC G0 n M Dm G):1≤Dm:=h.d 0 (Nat.zero_le _)
theorem LC.m1 (h:LC G0 n M Dm G) (h0:0<n):0<M:=by
  have h1:=frS_p h.s h.p h0
  have h2:=h.m 0 h0
  have h3:((0:Int):Rat)<(M:Rat):=by have e:((0:Int):Rat)=0:=rfl;rw [e];grind
  exact Rat.intCast_lt_intCast.mp h3
theorem LC.k1 (h:LC G0 n M Dm G) (h0:0<n):1≤2+32*Dm*M:=by
  have:=Int.mul_pos (show 0<Dm by have:=h.d1;omega) (h.m1 h0)
  rw [Int.mul_assoc];omega
theorem LL.start {k:Nat} (h:LL G0 n M Dm G k k) (hk:k<n):LR G0 n M Dm G k k:=
  ⟨h.c,fun x hx _=>h.z x hx,by rw [Nat.sub_self,Int.pow_zero,Int.mul_one];exact h.z k hk,h.h,h.v,fun l h1 h2=>absurd h1 (by omega)⟩
theorem LR.grow {k j:Nat} (h:LR G0 n M Dm G k (j+1)) (hj:j<k) (hk:k<n):0<G k k∧G k k*(2+32*Dm*M)≤4*M*(2+32*Dm*M)^(k-j):=by
  refine ⟨dia_pos h.c.s h.c.p hk,?_⟩
  have h1:=h.c.k1 (by omega)
  have h2:=Int.mul_le_mul_of_nonneg_right h.zk (show 0≤2+32*Dm*M by omega)
  rw [show k-j=(k-(j+1))+1 by omega,Int.pow_succ,←Int.mul_assoc]
  exact h2
theorem LR.zero {k j:Nat} (h:LR G0 n M Dm G k (j+1)) (hj:j<k) (hk:k<n) (hz:nearQ (frM G k j)=0):LR G0 n M Dm G k j:=by
  obtain ⟨g0,g1⟩:=h.grow hj hk
  refine ⟨h.c,h.z,?_,h.h,h.v,fun l h1 h2=>?_⟩
  · have h1:=h.c.k1 (by omega)
    have h2:=Int.mul_le_mul_of_nonneg_left h1 (Int.le_of_lt g0)
    omega
  · by_cases e:l=j
    · subst e;exact near_zero hz
    · exact h.hk l (by omega) h2
theorem LR.step {k j:Nat} (h:LR G0 n M Dm G k (j+1)) (hj:j<k) (hk:k<n):LR G0 n M Dm (rowI G k j (-(nearQ (frM G k j)))) k j:=by
  obtain ⟨g0,g1⟩:=h.grow hj hk
  have hs:=h.c.s
  have hp:=h.c.p
  have hq:=near_uE hs hp hj hk
  refine ⟨⟨rowI_sym hs,rowI_pos hs hp hj,fun l hl=>by rw [rowI_uD hs hp hj hl];exact h.c.d l hl,by rw [rowI_uD hs hp hj (Nat.le_refl n)];exact h.c.t,fun l hl=>by rw [frS_row hs hp hj _ hl];exact h.c.m l hl⟩,fun x hx hxk=>by rw [rowI_dia_ne _ _ _ _ hxk];exact h.z x hx hxk,?_,fun x hx l hl=>by rw [frM_row_ne hs hp hj _ (by omega) (by omega)];exact h.h x hx l hl,fun x h1 h2=>by unfold lov;rw [frM_row_ne hs hp hj _ (by omega) (by omega),frS_row hs hp hj _ (by omega),frS_row hs hp hj _ (by omega)];exact h.v x h1 h2,fun l h1 h2=>?_⟩
  · have e:=grow_dia hs hp hj hk (-(nearQ (frM G k j)))
    rw [Int.neg_mul_neg] at e
    have d1:=h.c.d j (by omega)
    have d0:=h.c.p.uD (show j≤n by omega)
    have j1:=h.z j (by omega) (by omega)
    have j0:=dia_pos hs hp (show j<n by omega)
    have m0:=h.c.m1 (by omega)
    generalize nearQ (frM G k j)=q at *
    have a1:uD G j*G k k≤Dm*G k k:=Int.mul_le_mul_of_nonneg_right d1 (Int.le_of_lt g0)
    have a2:q*q≤4*(Dm*G k k):=by omega
    have a3:q*q*G j j≤4*(Dm*G k k)*(4*M):=Int.mul_le_mul a2 j1 (Int.le_of_lt j0) (by have:=Int.mul_pos (show 0<Dm by omega) g0;omega)
    have a4:G k k*(2+32*Dm*M)=2*G k k+2*(4*(Dm*G k k)*(4*M)):=by grind
    omega
  · by_cases e:l=j
    · subst e
      rw [frM_row_at hs hp hj _ (by omega),Rat.intCast_neg]
      have:=near_half (frM G k l)
      rwa [Rat.sub_eq_add_neg] at this
    · rw [frM_row_hi hs hp hj _ (by omega) (by omega)];exact h.hk l (by omega) h2
theorem LR.fin {k:Nat} (h:LR G0 n M Dm G k 0) (hk:k<n) (h12:n≤12):LL G0 n M Dm G (k+1) k:=by
  have hh:∀x,x<k+1→∀l,l<x→half (frM G x l):=fun x hx l hl=>by
    by_cases e:x=k
    · subst e;exact h.hk l (Nat.zero_le _) hl
    · exact h.h x (by omega) l hl
  refine ⟨h.c,fun x hx=>?_,hh,h.v⟩
  by_cases e:x=k
  · subst e
    have h1:=short_row h.c.s h.c.p h.c.m hx h12 (hh x (by omega))
    have h2:((G x x:Int):Rat)≤((4*M:Int):Rat):=by rw [Rat.intCast_mul];exact h1
    exact Rat.intCast_le_intCast.mp h2
  · exact h.z x hx e
theorem LL.yes {k:Nat} (h:LL G0 n M Dm G (k+1) k) (hl:lov G k):LL G0 n M Dm G (k+1) (k+1):=
  ⟨h.c,h.z,h.h,fun x h1 h2=>by
    by_cases e:x=k
    · subst e;exact hl
    · exact h.v x h1 (by omega)⟩
theorem LL.one (h:LL G0 n M Dm G 0 0):LL G0 n M Dm G 1 1:=⟨h.c,h.z,fun x hx l hl=>absurd hl (by omega),fun x h1 h2=>absurd h1 (by omega)⟩
theorem swp_frS (hs:SymG G) (hp:PosU G n) {p:Nat} (h:p+1<n):frS (swpI G p) p=frS G (p+1)+frM G (p+1) p*frM G (p+1) p*frS G p∧frS (swpI G p) (p+1)*frS (swpI G p) p=frS G p*frS G (p+1):=by
  have h0:=piv_ne hs hp (show p<n by omega)
  have e1:frS (swpI G p) p=gsE (qG G) p (p+1) (p+1):=by
    unfold frS;rw [qG_swp,gsE_swp_lo p (Nat.le_refl p),sg_p]
  have e2:gsE (qG G) (p+1) (p+1) (p+1)=gsE (qG G) p (p+1) (p+1)-gsE (qG G) p (p+1) p*gsE (qG G) p p (p+1)/gsE (qG G) p p p:=gsE_succ _ _ _ _
  have e3:gsE (qG G) p p (p+1)=gsE (qG G) p (p+1) p:=gsE_sym (qG_sy hs) p _ _
  have c0:=(swp_c hs hp h).1
  have e4:frS (swpI G p) (p+1)=gsE (qG G) p p p-gsE (qG G) p p (p+1)*gsE (qG G) p (p+1) p/gsE (qG G) p (p+1) (p+1):=by
    unfold frS;rw [qG_swp,gsE_swp_1,sg_q]
  have c1:gsE (qG G) p (p+1) (p+1)≠0:=pos_ne c0
  rw [e3] at e2 e4
  constructor
  · rw [e1];unfold frM frS;rw [e2];grind
  · rw [e1,e4];unfold frS;rw [e2];grind
theorem uD_swp_lt (hs:SymG G) (hp:PosU G n) {p:Nat} (h:p+1<n) (hl:¬lov G (p+1)):frS (swpI G p) p<frS G p∧uD (swpI G p) (p+1)<uD G (p+1):=by
  have e:=(swp_frS hs hp h).1
  have s0:=frS_p hs hp (show p<n by omega)
  have hn:frS (swpI G p) p<frS G p:=by
    have hl2:=hl
    unfold lov at hl2
    rw [show p+1-1=p by omega] at hl2
    have:=Rat.not_le.mp hl2
    grind
  refine ⟨hn,?_⟩
  have h2:=swpI_pos hs hp h
  have u1:=uD_succ (swpI_sym (p:=p) hs) h2 (show p<n by omega)
  have u2:=uD_succ hs hp (show p<n by omega)
  rw [swpI_uD hs hp h (show p≤n by omega) (by omega)] at u1
  have d0:(0:Rat)<(uD G p:Rat):=by have:=hp.uD (show p≤n by omega);exact_mod_cast this
  have h3:((uD (swpI G p) (p+1):Int):Rat)<((uD G (p+1):Int):Rat):=by
    rw [u1,u2]
    exact Rat.mul_lt_mul_of_pos_left hn d0
  exact Rat.intCast_lt_intCast.mp h3
theorem frS_swp_ne (hs:SymG G) (hp:PosU G n) {p:Nat} (h:p+1<n) {l:Nat} (hl:l<n) (h1:l≠p) (h2:l≠p+1):frS (swpI G p) l=frS G l:=by
  unfold frS
  rw [qG_swp]
  by_cases e:l≤p
  · rw [gsE_swp_lo l e,sg_ne h1 h2]
  · exact gsE_swp_hi (qG_sy hs) (piv_ne hs hp (show p<n by omega)) (pos_ne (swp_c hs hp h).1) (piv_ne hs hp h) l (by omega) l l (Nat.le_refl l) (Nat.le_refl l)
theorem frM_swp_lo (hs:SymG G) (hp:PosU G n) {p:Nat} (h:p+1<n) {x l:Nat} (hx:x<p) (hl:l<x):frM (swpI G p) x l=frM G x l:=by
  unfold frM
  rw [qG_swp,gsE_swp_lo l (by omega),gsE_swp_lo l (by omega),sg_ne (show x≠p by omega) (by omega),sg_ne (show l≠p by omega) (by omega)]
theorem LL.no {p:Nat} (h:LL G0 n M Dm G (p+2) (p+1)) (hp1:p+1<n) (hl:¬lov G (p+1)):LL G0 n M Dm (swpI G p) p p:=by
  have hs:=h.c.s
  have hp:=h.c.p
  obtain ⟨s1,s2⟩:=uD_swp_lt hs hp hp1 hl
  obtain ⟨e1,e2⟩:=swp_frS hs hp hp1
  have hp2:=swpI_pos hs hp hp1
  have f0:=frS_p hs hp (show p<n by omega)
  have f1:=frS_p hs hp hp1
  have g0:=frS_p (swpI_sym (p:=p) hs) hp2 (show p<n by omega)
  refine ⟨⟨swpI_sym hs,hp2,fun l hl2=>?_,?_,fun l hl2=>?_⟩,fun x hx=>?_,fun x hx l hl2=>?_,fun x h1 h2=>?_⟩
  · by_cases e:l=p+1
    · subst e;have:=h.c.d (p+1) hl2;omega
    · rw [swpI_uD hs hp hp1 hl2 e];exact h.c.d l hl2
  · by_cases e:n=p+1
    · omega
    · rw [swpI_uD hs hp hp1 (Nat.le_refl n) (by omega)];exact h.c.t
  · by_cases e:l=p
    · subst e;have:=h.c.m l hl2;grind
    · by_cases e3:l=p+1
      · subst e3
        have a1:=h.c.m p (by omega)
        have a2:frS G (p+1)≤frS (swpI G p) p:=by
          have:=Rat.mul_nonneg (sq_nonneg (frM G (p+1) p)) (Rat.le_of_lt f0)
          grind
        have a3:=Rat.mul_le_mul_of_nonneg_left a2 (Rat.le_of_lt f0)
        have a4:frS (swpI G p) (p+1)≤frS G p:=by
          by_cases c:frS (swpI G p) (p+1)≤frS G p
          · exact c
          · have c2:=Rat.mul_lt_mul_of_pos_right (Rat.not_le.mp c) g0
            grind
        exact Rat.le_trans a4 a1
      · rw [frS_swp_ne hs hp hp1 hl2 e e3];exact h.c.m l hl2
  · show G (sg p x) (sg p x)≤4*M
    refine h.z _ ?_
    unfold sg;split
    · omega
    · split <;> omega
  · rw [frM_swp_lo hs hp hp1 hx hl2];exact h.h x (by omega) l hl2
  · have:=h.v x h1 (by omega)
    unfold lov at this ⊢
    rw [frM_swp_lo hs hp hp1 h2 (by omega),frS_swp_ne hs hp hp1 (show x<n by omega) (by omega) (by omega),frS_swp_ne hs hp hp1 (show x-1<n by omega) (by omega) (by omega)]
    exact this
def sumD (G:Fi) (n:Nat):Nat:=(sumN (fun l=>uD G l) n).toNat
theorem sumN_le {f g:Nat→Int}:∀{n},(∀i,i<n→f i≤g i)→sumN f n≤sumN g n
  | 0,_=>Int.le_refl _
  | n+1,h=>by
    have h1:=sumN_le (n:=n) (fun i hi=>h i (by omega))
    have h2:=h n (by omega)
    show sumN f n+f n≤sumN g n+g n
    omega
theorem sumN_lt {f g:Nat→Int} {k:Nat}:∀{n},(∀i,i<n→f i≤g i)→k<n→f k<g k→sumN f n<sumN g n
  | 0,_,hk,_=>absurd hk (by omega)
  | n+1,h,hk,hl=>by
    show sumN f n+f n<sumN g n+g n
    by_cases e:k=n
    · subst e
      have h1:=sumN_le (n:=k) (fun i hi=>h i (by omega))
      omega
    · have h1:=sumN_lt (n:=n) (fun i hi=>h i (by omega)) (by omega) hl
      have h2:=h n (by omega)
      omega
theorem sumN_nonneg {f:Nat→Int}:∀{n},(∀i,i<n→0≤f i)→0≤sumN f n
  | 0,_=>Int.le_refl _
  | n+1,h=>by
    have h1:=sumN_nonneg (n:=n) (fun i hi=>h i (by omega))
    have h2:=h n (by omega)
    show 0≤sumN f n+f n
    omega
theorem sumD_row (hs:SymG G) (hp:PosU G n) {k j:Nat} (hj:j<k) (t:Int):sumD (rowI G k j t) n=sumD G n:=by
  unfold sumD;rw [sumN_congr fun l hl=>rowI_uD hs hp hj (Nat.le_of_lt hl)]
theorem sumD_swp (hs:SymG G) (hp:PosU G n) {p:Nat} (h:p+1<n) (hl:¬lov G (p+1)):sumD (swpI G p) n<sumD G n:=by
  have h2:=(uD_swp_lt hs hp h hl).2
  have hp2:=swpI_pos hs hp h
  have a:=sumN_lt (f:=fun l=>uD (swpI G p) l) (g:=fun l=>uD G l) (n:=n) (k:=p+1) (fun l hl2=>by
    by_cases e:l=p+1
    · subst e;omega
    · rw [swpI_uD hs hp h (Nat.le_of_lt hl2) e];exact Int.le_refl _) h h2
  have b:=sumN_nonneg (f:=fun l=>uD (swpI G p) l) (n:=n) (fun l hl2=>by have:=hp2.uD (show l≤n by omega);omega)
  unfold sumD
  omega
end
structure wi (q b:Rat):Prop where
  lo : -b≤q
  hi:q≤b
theorem wi_add {q b r c:Rat} (h:wi q b) (h2:wi r c):wi (q+r) (b+c):=by
  have h1:=h.lo;have h3:=h.hi;have h4:=h2.lo;have h5:=h2.hi;constructor <;> grind
theorem wi_sub {q b r c:Rat} (h:wi q b) (h2:wi r c):wi (q-r) (b+c):=by
  have h1:=h.lo;have h3:=h.hi;have h4:=h2.lo;have h5:=h2.hi;constructor <;> grind
theorem wi_le {q b c:Rat} (h:wi q b) (h2:b≤c):wi q c:=by
  have h1:=h.lo;have h3:=h.hi;constructor <;> grind
theorem wi_mul {q b r c:Rat} (h:wi q b) (h2:wi r c):wi (q*r) (b*c):=by
  have h1:=h.lo;have h3:=h.hi;have h4:=h2.lo;have h5:=h2.hi
  have a1:=Rat.mul_nonneg (a:=b-q) (b:=c+r) (by grind) (by grind)
  have a2:=Rat.mul_nonneg (a:=b+q) (b:=c-r) (by grind) (by grind)
  have a3:=Rat.mul_nonneg (a:=b-q) (b:=c-r) (by grind) (by grind)
  have a4:=Rat.mul_nonneg (a:=b+q) (b:=c+r) (by grind) (by grind)
  constructor <;> grind
theorem wi_sq {q b:Rat} (h:q*q≤b) (h1:1≤b):wi q b:=by
  constructor
  · by_cases c : -b≤q
    · exact c
    · have a:=Rat.not_le.mp c
      have:=Rat.mul_nonneg (a:=-q-1) (b:=-q) (by grind) (by grind)
      grind
  · by_cases c:q≤b
    · exact c
    · have a:=Rat.not_le.mp c
      have:=Rat.mul_nonneg (a:=q-1) (b:=q) (by grind) (by grind)
      grind
theorem wi_sum {f:Nat→Rat} {b:Rat}:∀{n},(∀i,i<n→wi (f i) b)→wi (sumQ f n) ((n:Rat)*b)
  | 0,_=>by
    have e:((0:Nat):Rat)*b=0:=by simp
    rw [e]
    constructor
    · show (-0:Rat)≤0;grind
    · show (0:Rat)≤0;grind
  | n+1,h=>by
    have h1:=wi_sum (n:=n) fun i hi=>h i (by omega)
    have h2:=wi_add h1 (h n (by omega))
    have e:((n+1:Nat):Rat)*b=(n:Rat)*b+b:=by push_cast;grind
    rw [e];exact h2
def bdC (T K:Int):Nat→Int
  | 0=>T
  | m+1=>bdC T K m*K
theorem bdC_pos {T K:Int} (hT:0<T) (hK:0<K):∀m,0<bdC T K m
  | 0=>hT
  | m+1=>Int.mul_pos (bdC_pos hT hK m) hK
theorem bdC_mono {T K:Int} (hT:0<T) (hK:0<K):∀m,bdC T K m≤bdC T K (m+1):=fun m=>by
  show bdC T K m≤bdC T K m*K
  have:=Int.mul_le_mul_of_nonneg_left (show 1≤K by omega) (Int.le_of_lt (bdC_pos hT hK m))
  omega
theorem bdC_ge {T K:Int} (hT:0<T) (hK:0<K):∀m,T≤bdC T K m
  | 0=>Int.le_refl _
  | m+1=>Int.le_trans (bdC_ge hT hK m) (bdC_mono hT hK m)
theorem bdC_pow {t k:Nat} {T K:Int} (hT:0<T) (hK:0<K) (h1:T≤((2^t:Nat):Int)) (h2:K≤((2^k:Nat):Int)):∀m,bdC T K m≤((2^(t+k*m):Nat):Int)
  | 0=>h1
  | m+1=>by
    show bdC T K m*K≤_
    have h3:=Int.mul_le_mul (bdC_pow hT hK h1 h2 m) h2 (Int.le_of_lt hK) (Int.natCast_nonneg _)
    rw [show t+k*(m+1)=t+k*m+k by rw [Nat.mul_add];omega,Nat.pow_add]
    push_cast at h3 ⊢
    exact h3
theorem wi_int {z b:Int} (h:wi (z:Rat) (b:Rat)) : -b≤z∧z≤b:=by
  have h1:=h.lo
  rw [←Rat.intCast_neg] at h1
  exact ⟨Rat.intCast_le_intCast.mp h1,Rat.intCast_le_intCast.mp h.hi⟩
section
variable {G:Fi} {n:Nat}
theorem qy_split (hs:SymG G) (hp:PosU G n) (c:Nat→Rat) {l:Nat} (hl:l<n):qy (qG G) n c l=(c l+sumQ (fun i=>if l<i then c i*frM G i l else 0) n)*frS G l:=by
  unfold qy
  have e:∀i,i<n→c i*gsE (qG G) l i l=(if i=l then c l*frS G l else 0)+(if l<i then c i*frM G i l else 0)*frS G l:=fun i hi=>by
    by_cases h1:i=l
    · subst h1;rw [if_pos rfl,if_neg (by omega)];unfold frS;grind
    · rw [if_neg h1]
      by_cases h2:l<i
      · rw [if_pos h2,←frM_mul hs hp (show l<n by omega)];grind
      · rw [if_neg h2,gsE_gone (qG_sy hs) (fun k hk=>piv_ne hs hp hk) l (by omega) i l (Or.inl (by omega))];grind
  rw [sumQ_congr e,sumQ_add,←sumQ_mul,sumQ_one hl (fun i hi h=>if_neg h),if_pos rfl]
  grind
theorem coef_le (hs:SymG G) (hp:PosU G n) (h12:n≤12) {M Dm Q:Int} (hM:∀x,x<n→G x x≤M) (hD:∀l,l≤n→uD G l≤Dm) (c:Nat→Rat) (hQ:qf (qG G) n c≤(Q:Rat)) (hQ1:1≤Q) (hM1:1≤M):∀m,∀l,l<n→n≤l+m→wi (c l) ((bdC (Q*Dm) (1+12*(M*Dm)) m:Int):Rat)
  | 0,l,hl,hm=>absurd hl (by omega)
  | m+1,l,hl,hm=>by
    have ih:=coef_le hs hp h12 hM hD c hQ hQ1 hM1 m
    have hD1:1≤Dm:=hD 0 (Nat.zero_le _)
    have hT:0<Q*Dm:=Int.mul_pos (by omega) (by omega)
    have hR:0<M*Dm:=Int.mul_pos (by omega) (by omega)
    have hK:0<1+12*(M*Dm):=by omega
    have hb:=bdC_pos hT hK m
    have f0:=frS_p hs hp hl
    have u1:=uD_succ hs hp hl
    have d0:(0:Rat)<(uD G l:Rat):=by have:=hp.uD (show l≤n by omega);exact_mod_cast this
    have d1:((1:Int):Rat)≤(uD G (l+1):Rat):=Rat.intCast_le_intCast.mpr (by have:=hp.uD (show l+1≤n by omega);omega)
    have d2:(uD G l:Rat)≤(Dm:Rat):=Rat.intCast_le_intCast.mpr (hD l (by omega))
    have o1:((1:Int):Rat)=1:=rfl
    rw [o1] at d1
    -- 1 ≤ Dm * frS
    have g0:(1:Rat)≤(Dm:Rat)*frS G l:=by
      have:=Rat.mul_le_mul_of_nonneg_right d2 (Rat.le_of_lt f0)
      grind
    -- from z z frS ≤ B follows z z ≤ B Dm
    have key:∀(z B:Rat),z*z*frS G l≤B→z*z≤B*(Dm:Rat):=fun z B h=>by
      have a1:=Rat.mul_le_mul_of_nonneg_left g0 (sq_nonneg z)
      have a2:(0:Rat)≤(Dm:Rat):=by grind
      have a3:=Rat.mul_le_mul_of_nonneg_right h a2
      grind
    have hy:=qy_le (c:=c) (qG_sy hs) (fun k hk=>piv_pos hs hp hk) hl
    rw [qy_split hs hp c hl] at hy
    generalize hsm:sumQ (fun i=>if l<i then c i*frM G i l else 0) n=S at hy
    have hy2:(c l+S)*(c l+S)*frS G l≤(Q:Rat):=by
      have a1:(c l+S)*frS G l*((c l+S)*frS G l)=(c l+S)*(c l+S)*frS G l*frS G l:=by grind
      rw [a1] at hy
      have a2:qf (qG G) n c*gsE (qG G) l l l≤(Q:Rat)*frS G l:=Rat.mul_le_mul_of_nonneg_right hQ (Rat.le_of_lt f0)
      by_cases h:(c l+S)*(c l+S)*frS G l≤(Q:Rat)
      · exact h
      · have a3:=Rat.mul_lt_mul_of_pos_right (Rat.not_le.mp h) f0
        grind
    have w1:=wi_sq (q:=c l+S) (b:=((Q*Dm:Int):Rat)) (by rw [Rat.intCast_mul];exact key _ _ hy2) (by rw [←o1];exact Rat.intCast_le_intCast.mpr (by omega))
    have w2:wi S ((n:Rat)*((bdC (Q*Dm) (1+12*(M*Dm)) m*(M*Dm):Int):Rat)):=by
      rw [←hsm]
      refine wi_sum fun i hi=>?_
      by_cases h:l<i
      · rw [if_pos h,Rat.intCast_mul]
        refine wi_mul (ih i hi (by omega)) ?_
        have t:=term_le hs hp h hi
        have t2:(G i i:Rat)≤(M:Rat):=Rat.intCast_le_intCast.mpr (hM i hi)
        exact wi_sq (by rw [Rat.intCast_mul];exact key _ _ (Rat.le_trans t t2)) (by rw [←o1];exact Rat.intCast_le_intCast.mpr (by omega))
      · rw [if_neg h]
        have:(0:Rat)≤((bdC (Q*Dm) (1+12*(M*Dm)) m*(M*Dm):Int):Rat):=by
          have o0:((0:Int):Rat)=0:=rfl
          rw [←o0];exact Rat.intCast_le_intCast.mpr (Int.le_of_lt (Int.mul_pos hb hR))
        constructor <;> grind
    have w3:=wi_sub w1 w2
    have e3:c l+S-S=c l:=by grind
    rw [e3] at w3
    refine wi_le w3 ?_
    have hTm:Q*Dm≤bdC (Q*Dm) (1+12*(M*Dm)) m:=bdC_ge hT hK m
    have en:(n:Rat)*((bdC (Q*Dm) (1+12*(M*Dm)) m*(M*Dm):Int):Rat)=(((n:Int)*(bdC (Q*Dm) (1+12*(M*Dm)) m*(M*Dm)):Int):Rat):=by
      rw [Rat.intCast_mul (n:Int),Rat.intCast_natCast]
    rw [en,←Rat.intCast_add]
    refine Rat.intCast_le_intCast.mpr ?_
    show _≤bdC (Q*Dm) (1+12*(M*Dm)) m*(1+12*(M*Dm))
    generalize bdC (Q*Dm) (1+12*(M*Dm)) m=b at *
    have a1:=Int.mul_pos hb hR
    have a2:=Int.mul_le_mul_of_nonneg_right (show (n:Int)≤12 by omega) (Int.le_of_lt a1)
    have a3:b*(1+12*(M*Dm))=b+12*(b*(M*Dm)):=by grind
    omega
end
def fU (A:Fi) (n:Nat) (u:Fi):Fi:=fun x y=>sumN (fun j=>sumN (fun i=>u x i*A i j) n*u y j) n
theorem fU_add (A:Fi) (n:Nat) (a b c:Nat→Int) (s:Int):sumN (fun j=>sumN (fun i=>(a i+s*b i)*A i j) n*c j) n=sumN (fun j=>sumN (fun i=>a i*A i j) n*c j) n+s*sumN (fun j=>sumN (fun i=>b i*A i j) n*c j) n:=by
  rw [mul_sumN,←sumN_add]
  refine sumN_congr fun j _=>?_
  have e:sumN (fun i=>(a i+s*b i)*A i j) n=sumN (fun i=>a i*A i j) n+s*sumN (fun i=>b i*A i j) n:=by
    rw [mul_sumN,←sumN_add]
    refine sumN_congr fun i _=>?_
    show (a i+s*b i)*A i j=a i*A i j+s*(b i*A i j)
    grind
  rw [e];show _=_+s*(_*c j);grind
theorem fU_add2 (A:Fi) (n:Nat) (c a b:Nat→Int) (s:Int):sumN (fun j=>sumN (fun i=>c i*A i j) n*(a j+s*b j)) n=sumN (fun j=>sumN (fun i=>c i*A i j) n*a j) n+s*sumN (fun j=>sumN (fun i=>c i*A i j) n*b j) n:=by
  rw [mul_sumN,←sumN_add]
  refine sumN_congr fun j _=>?_
  show _*(a j+s*b j)=_*a j+s*(_*b j)
  grind
def rU (u:Fi) (k j:Nat) (q:Int):Fi:=fun x i=>u x i+(if x=k then q else 0)*u j i
theorem fU_row (A:Fi) (n:Nat) (u:Fi) {k j:Nat} (q:Int):fU A n (rU u k j q)=rowI (fU A n u) k j q:=by
  funext x y
  show sumN (fun j=>sumN (fun i=>(u x i+(if x=k then q else 0)*u _ i)*A i j) n*(u y j+(if y=k then q else 0)*u _ j)) n=_
  rw [fU_add,fU_add2,fU_add2]
  unfold rowI fU
  grind
theorem fU_swp (A:Fi) (n:Nat) (u:Fi) (p:Nat):fU A n (fun x=>u (sg p x))=swpI (fU A n u) p:=rfl
theorem fU_congr {A:Fi} {n:Nat} {u w:Fi} (h:∀x i,i<n→u x i=w x i):fU A n u=fU A n w:=by
  funext x y
  unfold fU
  refine sumN_congr fun j hj=>?_
  rw [h y j hj,sumN_congr fun i hi=>by rw [h x i hi]]
theorem sumN_one {f:Nat→Int} {k:Nat}:∀{n},k<n→(∀i,i<n→i≠k→f i=0)→sumN f n=f k
  | 0,hk,_=>absurd hk (by omega)
  | n+1,hk,h=>by
    show sumN f n+f n=f k
    by_cases e:k=n
    · subst e
      rw [sumN_congr (g:=fun _=>0) fun i hi=>h i (by omega) (by omega),sumN_zero];omega
    · rw [sumN_one (n:=n) (by omega) fun i hi=>h i (by omega),h n (by omega) (by omega)];omega
theorem fU_unit {A:Fi} {n:Nat} {u:Fi} (h:∀x i,i<n→u x i=if x=i then 1 else 0) (h0:∀x y,¬(x<n∧y<n)→A x y=0):fU A n u=A:=by
  funext x y
  unfold fU
  have e1:∀j,j<n→sumN (fun i=>u x i*A i j) n=A x j:=fun j hj=>by
    by_cases hx:x<n
    · rw [sumN_one hx fun i hi hne=>by show u x i*A i j=0;rw [h x i hi,if_neg (by omega)];omega,h x x hx,if_pos rfl];omega
    · rw [sumN_congr (g:=fun _=>0) fun i hi=>by show u x i*A i j=0;rw [h x i hi,if_neg (by omega)];omega,sumN_zero,h0 x j (by omega)]
  rw [sumN_congr fun j hj=>by rw [e1 j hj]]
  by_cases hy:y<n
  · rw [sumN_one hy fun i hi hne=>by show A x i*u y i=0;rw [h y i hi,if_neg (by omega)];omega,h y y hy,if_pos rfl];omega
  · rw [sumN_congr (g:=fun _=>0) fun i hi=>by show A x i*u y i=0;rw [h y i hi,if_neg (by omega)];omega,sumN_zero,h0 x y (by omega)]
theorem sumN_q (f:Nat→Int):∀n,((sumN f n:Int):Rat)=sumQ (fun i=>(f i:Rat)) n
  | 0=>rfl
  | n+1=>by
    show ((sumN f n+f n:Int):Rat)=sumQ _ n+_
    rw [Rat.intCast_add,sumN_q f n]
theorem fU_qf (A:Fi) (n:Nat) (u:Fi) (x:Nat):((fU A n u x x:Int):Rat)=qf (qG A) n (fun i=>(u x i:Rat)):=by
  unfold fU qf
  rw [sumN_q,sumQ_comm]
  refine sumQ_congr fun j _=>?_
  rw [Rat.intCast_mul,sumN_q,sumQ_mul]
  refine sumQ_congr fun i _=>?_
  rw [Rat.intCast_mul];unfold qG;grind
section
variable {G:Fi} {n:Nat}
def p2:Nat→Rat
  | 0=>1
  | m+1=>2*p2 m
def h2:Nat→Rat
  | 0=>1
  | m+1=>p2 m*h2 m
end
theorem take_app2 {α:Type} {l:List α} {k:Nat} {x:α} (h:l[k]?=some x):l.take k++[x]=l.take (k+1):=by
  obtain ⟨h1,rfl⟩:=List.getElem?_eq_some_iff.1 h
  rw [List.take_succ_eq_append_getElem h1]
abbrev fj:=@take_app2
abbrev qM (b:List (List Int)):Fq:=fun x y=>(matF b x y:Rat)
def turnR (a:List (List Int)) (k:Nat):List Int:=(List.range a.length).map (fun i=>matF a i k)
def turnV (a:List (List Int)):List (List Int):=(List.range (a.getD 0 []).length).map (turnR a)
theorem turnR_len (a k):(turnR a k).length=a.length:=by simp [turnR]
theorem turnV_len (a):(turnV a).length=(a.getD 0 []).length:=by simp [turnV]
theorem range_app {α:Type} (F:Nat→α) (i:Nat):(List.range i).map F++[F i]=(List.range (i+1)).map F:=by simp [List.range_succ]
abbrev eB:=@range_app
theorem turn_sym {a:List (List Int)} (hq:∀i,i<a.length→(a.getD i []).length=a.length) (h0:0<a.length):a=turnV a↔symB a=true:=by
  rw [symB_iff]
  have hl:(turnV a).length=a.length:=by rw [turnV_len,hq 0 h0]
  have hrow:∀i,i<a.length→(turnV a).getD i []=turnR a i:=fun i hi=>by
    rw [gde _ [] (by omega)];simp [turnV]
  have hat:∀i k,i<a.length→k<a.length→(turnR a i).getD k 0=matF a k i:=fun i k hi hk=>by
    rw [gde _ 0 (by rw [turnR_len];omega)];simp [turnR]
  constructor
  · intro e i hi k hk
    have e1:matF a i k=((turnV a).getD i []).getD k 0:=by rw [←e];rfl
    rw [e1,hrow i hi,hat i k hi (by omega)]
  · intro h
    apply List.ext_getElem
    · omega
    · intro i h1 h2
      apply List.ext_getElem
      · have:=hq i h1
        rw [gde _ [] h1] at this
        have h3:=hrow i h1
        rw [gde _ [] h2] at h3
        rw [h3,turnR_len,this]
      · intro k h3 h4
        have e1:(a[i])[k]=matF a i k:=by unfold matF;rw [gde _ [] h1,gde _ 0 h3]
        have h5:=hrow i h1
        rw [gde _ [] h2] at h5
        have hk:k<a.length:=by rw [h5,turnR_len] at h4;exact h4
        have e2:((turnV a)[i])[k]=matF a k i:=by rw [←hat i k h1 hk,←h5,gde _ 0 h4]
        rw [e1,e2]
        rcases Nat.lt_trichotomy i k with h6 | h6 | h6
        · exact (h k hk i h6).symm
        · rw [h6]
        · exact h i h1 k h6
theorem turnV_Sz {n a} (h:SzM n a):SzM n (turnV a):=by
  intro i k
  by_cases hi:i<(a.getD 0 []).length
  · have e:(turnV a).getD i []=turnR a i:=by rw [gde _ [] (by rw [turnV_len];exact hi)];simp [turnV]
    rw [e]
    by_cases hk:k<a.length
    · have e2:(turnR a i).getD k 0=matF a k i:=by rw [gde _ 0 (by rw [turnR_len];exact hk)];simp [turnR]
      rw [e2];exact h k i
    · rw [List.getD_eq_getElem?_getD,List.getElem?_eq_none (by rw [turnR_len];omega)];exact Sz.zero _
  · have e:(turnV a).getD i []=[]:=by rw [List.getD_eq_getElem?_getD,List.getElem?_eq_none (by rw [turnV_len];omega)];rfl
    rw [e];exact Sz.zero _
def subM (a:List (List Int)) (k:Nat):List (List Int):=(a.take k).map (fun r=>r.take k)
theorem subM_app {a:List (List Int)} {k i:Nat} (h:i<a.length):(a.take i).map (fun r=>r.take k)++[(a.getD i []).take k]=(a.take (i+1)).map (fun r=>r.take k):=map_take_app (F:=fun r:List Int=>r.take k) h
theorem subM_len {a:List (List Int)} {k} (h:k≤a.length):(subM a k).length=k:=by simp [subM];omega
theorem subM_get {a:List (List Int)} {k i} (h:k≤a.length) (hi:i<k):(subM a k).getD i []=(a.getD i []).take k:=by
  unfold subM
  rw [getD_map _ _ [] [] (by simp;omega)]
  congr 1
  simp [List.getD_eq_getElem?_getD,List.getElem?_take_of_lt hi]
theorem subM_mat {a:List (List Int)} {k i j} (h:k≤a.length) (hi:i<k) (hj:j<k):matF (subM a k) i j=matF a i j:=by
  unfold matF
  rw [subM_get h hi]
  simp [List.getD_eq_getElem?_getD,List.getElem?_take_of_lt hj]
structure Sqd (a:List (List Int)):Prop where
  z:SzM 256 a
  n:a.length≤12
  n0:0<a.length
  q:∀i,i<a.length→(a.getD i []).length=a.length
  s:SymG (matF a)
theorem sqd_sub {a k} (h:Sqd a) (hk:k≤a.length) (h0:0<k):Sqd (subM a k):=by
  have hl:=subM_len hk
  have hq:∀i,i<(subM a k).length→((subM a k).getD i []).length=(subM a k).length:=fun i hi=>by
    rw [hl] at hi ⊢
    rw [subM_get hk hi,List.length_take,h.q i (by omega)];omega
  refine ⟨fun i j=>?_,by rw [hl];have:=h.n;omega,by omega,hq,matF_sym hq fun i hi j hj=>?_⟩
  · by_cases hij:i<k∧j<k
    · have:=subM_mat hk hij.1 hij.2
      unfold matF at this;rw [this];exact h.z i j
    · have:=matF_out hq (i:=i) (j:=j) (by rw [hl];exact hij)
      unfold matF at this;rw [this];exact Sz.zero _
  · rw [hl] at hi
    rw [subM_mat hk hi (by omega),subM_mat hk (by omega) hi];exact h.s i j
def DetP (a:List (List Int)) (d:Int):Prop:=Sz 4317512249 d∧(PosU (matF a) (a.length-1)→d=uD (matF a) a.length)
def DetsOk (a:List (List Int)) (mm:Nat) (ds:List Int):Prop:=ds.length=mm∧SzL 4317512249 ds∧∀i,i<mm→PosU (matF a) i→ds.getD i 0=uE (matF a) i i i
theorem dets_0 (a):DetsOk a 0 []:=⟨rfl,SzL.nil _,fun i hi=>absurd hi (by omega)⟩
theorem dets_snoc {a mm ds d} (hm:mm<a.length) (h:DetsOk a mm ds) (hd:DetP (subM a (mm+1)) d):DetsOk a (mm+1) (ds++[d]):=by
  obtain ⟨h1,h2,h3⟩:=h
  obtain ⟨d1,d2⟩:=hd
  have hl:=subM_len (a:=a) (k:=mm+1) (by omega)
  rw [hl] at d2
  have hc:∀i j,i<mm+1→j<mm+1→matF (subM a (mm+1)) i j=matF a i j:=fun i j hi hj=>subM_mat (by omega) hi hj
  refine ⟨by simp [h1],fun i=>?_,fun i hi hp=>?_⟩
  · rcases Nat.lt_trichotomy i mm with e | e | e
    · have:(ds++[d]).getD i 0=ds.getD i 0:=by simp [List.getD_eq_getElem?_getD,List.getElem?_append_left (show i<ds.length by omega)]
      rw [this];exact h2 i
    · have:(ds++[d]).getD i 0=d:=by rw [e,←h1];simp [List.getD_eq_getElem?_getD]
      rw [this];exact d1
    · rw [List.getD_eq_getElem?_getD,List.getElem?_eq_none (by simp;omega)];exact Sz.zero _
  · by_cases e:i<mm
    · have:(ds++[d]).getD i 0=ds.getD i 0:=by simp [List.getD_eq_getElem?_getD,List.getElem?_append_left (show i<ds.length by omega)]
      rw [this];exact h3 i e hp
    · have e2:i=mm:=by omega
      subst e2
      have:(ds++[d]).getD i 0=d:=by rw [←h1];simp [List.getD_eq_getElem?_getD]
      rw [this,d2 ?_]
      · exact uD_congr hc (Nat.le_refl _)
      · have hp2:PosU (matF (subM a (i+1))) i:=fun l hl2=>by
          rw [(uE_congr hc l l l (by omega) (by omega) (by omega)).1];exact hp l hl2
        exact hp2
theorem gOk_no {G n i} (hi:i<n) (h:(uE G i i i).sign≤0):gOk G n=false:=(gso_no hi h).1
theorem quadE_no {a i} (h:qshape a=0) (hi:i<a.length) (hs:(uE (matF a) i i i).sign≤0):quadE a=221:=quadE_2 (by omega) (gOk_no hi hs)
theorem quadE_yes {a} (h:qshape a=0) (hp:PosU (matF a) a.length):quadE a=0:=quadE_3 (by omega) (gOk_iff.2 hp)
theorem sqd_sqm {a} (h:Sqm a):Sqd a:=⟨h.z,h.n,h.n0,h.q,h.s⟩
theorem rec_rank {a:List (List Int)} (h:Sqd a):RectL a∧rect a=true:=by
  have:RectL a:=fun i hi=>by rw [h.q i hi,h.q 0 h.n0]
  exact ⟨this,rect_iff.2 this⟩
theorem sh_sqd {a} (h:Sqd a):shN a=(a.length:Int)∧shM a=(a.length:Int)∧shE a=0:=by
  have hr:=(rec_rank h).2
  unfold shN shM shE
  rw [if_pos hr,if_pos hr,if_pos hr,h.q 0 h.n0];exact ⟨rfl,rfl,rfl⟩
theorem det_end {a:List (List Int)} (h:Sqd a) {top:Nat} {f:Fq} {d:Rat} (hr:RedI (matF a) a.length 256 a.length top f d):DetP a (rq d).1:=by
  refine ⟨hr.zd.a.up (by have:=szE_le (c:=a.length) (s:=256) h.n (by omega);omega),fun hp=>?_⟩
  rw [red_end h.s hr h.n0 hp,rq_int]
theorem gRow_min {G:Nat→Nat→Int} {i j:Nat} (h:j≤i):gRow G i (min j i)=gRow G i j:=by rw [Nat.min_eq_left h]
theorem dI_le {i j} (h:j≤i):dI i j=i:=if_pos h
instance (G:Fi) (x:Nat):Decidable (lov G x):=inferInstanceAs (Decidable ((3/4:Rat)*frS G (x-1)≤frS G x+frM G x (x-1)*frM G x (x-1)*frS G (x-1)))
def pairV (F:Int→Int→Int) (u v:List Int):List Int:=(List.range u.length).map (fun l=>F (u.getD l 0) (v.getD l 0))
theorem pairV_len (F u v):(pairV F u v).length=u.length:=by simp [pairV]
theorem pairV_get {F u v i} (h:i<u.length):(pairV F u v).getD i 0=F (u.getD i 0) (v.getD i 0):=by
  rw [List.getD_eq_getElem?_getD];simp [pairV,h]
theorem getD_timesV (q:Int) (v:List Int) (i:Nat):(v.map (fun x=>q*x)).getD i 0=q*v.getD i 0:=by
  rw [List.getD_eq_getElem?_getD,List.getD_eq_getElem?_getD,List.getElem?_map]
  cases v[i]? <;> simp
def unitV (n:Nat):List (List Int):=(List.range n).map (fun x=>(List.replicate n 0).set x 1)
theorem unitV_len (n):(unitV n).length=n:=by simp [unitV]
theorem unitV_row {n x} (h:x<n):(unitV n).getD x []=(List.replicate n 0).set x 1:=by
  rw [List.getD_eq_getElem?_getD];simp [unitV,h]
theorem unitV_at (n:Nat) (x i:Nat) (hi:i<n):matF (unitV n) x i=if x=i then 1 else 0:=by
  unfold matF
  by_cases h:x<n
  · rw [unitV_row h,List.getD_eq_getElem?_getD,List.getElem?_set]
    by_cases e:x=i
    · subst e;simp [h]
    · simp [e,hi]
  · rw [if_neg (by omega),List.getD_eq_getElem?_getD (l:=unitV n),List.getElem?_eq_none (by rw [unitV_len];omega)];rfl
structure CU (n:Nat) (U:List (List Int)):Prop where
  len:U.length=n
  row:∀x,x<n→(U.getD x []).length=n
theorem CU_unit (n):CU n (unitV n):=⟨unitV_len n,fun x hx=>by rw [unitV_row hx];simp⟩
def rowU (U:List (List Int)) (k j:Nat) (q:Int):List (List Int):=U.set k (pairV (fun x y=>x+y) (U.getD k []) ((U.getD j []).map (fun x=>q*x)))
theorem getD_setL {α:Type} (l:List α) (i k:Nat) (x d:α) (h:i<l.length):(l.set i x).getD k d=if k=i then x else l.getD k d:=by
  rw [List.getD_eq_getElem?_getD,List.getElem?_set]
  by_cases e:i=k
  · subst e;simp [h]
  · rw [if_neg e,if_neg (fun h=>e h.symm),List.getD_eq_getElem?_getD]
section
variable {n:Nat} {U:List (List Int)}
theorem CU_row (h:CU n U) {k j:Nat} (q:Int) (hk:k<n):CU n (rowU U k j q):=⟨by simp [rowU,h.len],fun x hx=>by
  unfold rowU
  rw [getD_setL _ _ _ _ _ (by rw [h.len];exact hk)]
  split
  · rw [pairV_len];exact h.row k hk
  · exact h.row x hx⟩
theorem matF_rowU (h:CU n U) {k j:Nat} (q:Int) (hk:k<n) (x i:Nat) (hi:i<n):matF (rowU U k j q) x i=rU (matF U) k j q x i:=by
  unfold rowU rU
  show ((U.set k _).getD x []).getD i 0=_
  rw [getD_setL _ _ _ _ _ (by rw [h.len];exact hk)]
  by_cases e:x=k
  · subst e
    rw [if_pos rfl,if_pos rfl,pairV_get (by rw [h.row x hk];exact hi),getD_timesV];rfl
  · rw [if_neg e,if_neg e];show matF U x i=_;omega
def swpU (U:List (List Int)) (p:Nat):List (List Int):=(U.set (p+1) (U.getD p [])).set p (U.getD (p+1) [])
theorem swpU_get (h:CU n U) {p:Nat} (hp:p+1<n) (x:Nat):(swpU U p).getD x []=U.getD (sg p x) []:=by
  unfold swpU
  rw [getD_setL _ _ _ _ _ (by rw [List.length_set,h.len];omega),getD_setL _ _ _ _ _ (by rw [h.len];omega)]
  by_cases e:x=p
  · subst e;rw [if_pos rfl,sg_p]
  · rw [if_neg e]
    by_cases e2:x=p+1
    · subst e2;rw [if_pos rfl,sg_q]
    · rw [if_neg e2,sg_ne e e2]
theorem CU_swp (h:CU n U) {p:Nat} (hp:p+1<n):CU n (swpU U p):=⟨by simp [swpU,h.len],fun x hx=>by
  rw [swpU_get h hp];refine h.row _ ?_
  unfold sg;split
  · omega
  · split <;> omega⟩
def fL (a U:List (List Int)):Fi:=fU (matF a) a.length (matF U)
theorem fL_row {a:List (List Int)} (h:CU a.length U) {k j:Nat} (q:Int) (hk:k<a.length):fL a (rowU U k j q)=rowI (fL a U) k j q:=by
  unfold fL
  rw [fU_congr (matF_rowU h q hk),fU_row]
theorem fL_swp {a:List (List Int)} (h:CU a.length U) {p:Nat} (hp:p+1<a.length):fL a (swpU U p)=swpI (fL a U) p:=by
  unfold fL
  rw [←fU_swp]
  exact fU_congr fun x i _=>by unfold matF;rw [swpU_get h hp]
end
theorem fL_unit {a:List (List Int)} (hq:∀i,i<a.length→(a.getD i []).length=a.length):fL a (unitV a.length)=matF a:=fU_unit (unitV_at a.length) fun x y h=>matF_out hq h
def gB (M Dm:Int):Int:=4*M*(2+32*Dm*M)^12
structure LB (M Dm:Int) (N:Nat):Prop where
  m1:1≤M
  d1:1≤Dm
  d:Dm≤((2^N:Nat):Int)
  g:gB M Dm≤((2^N:Nat):Int)
  c:bdC (gB M Dm*Dm) (1+12*(gB M Dm*Dm)) 12≤((2^N:Nat):Int)
  n:N≤536870912
theorem Sz_pw {N:Nat} {z:Int} (h1 : -((2^N:Nat):Int)≤z) (h2:z≤((2^N:Nat):Int)):Sz (N+1) z:=by
  show z.natAbs<2^(N+1)
  have:=Nat.two_pow_pos N
  rw [Nat.pow_succ];omega
section
variable {G0 G A:Fi} {n N:Nat} {M Dm:Int}
theorem LB.k1 (h:LB M Dm N):1≤2+32*Dm*M:=by
  have:=Int.mul_pos (show 0<Dm by have:=h.d1;omega) (show 0<M by have:=h.m1;omega)
  rw [Int.mul_assoc];omega
theorem pow_mono {K:Int} (h:1≤K) {m k:Nat} (hm:m≤k):K^m≤K^k:=by
  obtain ⟨c,rfl⟩:=Nat.exists_eq_add_of_le hm
  clear hm
  induction c with
  | zero=>exact Int.le_refl _
  | succ c ih=>
    have h0:0<K^(m+c):=Int.pow_pos (by omega)
    have:=Int.mul_le_mul_of_nonneg_left h (Int.le_of_lt h0)
    rw [show m+(c+1)=(m+c)+1 by omega,Int.pow_succ]
    omega
theorem LB.g4 (h:LB M Dm N) {m:Nat} (hm:m≤12):4*M*(2+32*Dm*M)^m≤gB M Dm:=by
  have h1:=h.k1
  have h2:=h.m1
  unfold gB
  refine Int.mul_le_mul_of_nonneg_left ?_ (by omega)
  exact pow_mono h1 hm
theorem LB.g0 (h:LB M Dm N):4*M≤gB M Dm:=by
  have:=h.g4 (m:=0) (by omega)
  rwa [Int.pow_zero,Int.mul_one] at this
theorem LL.dia {a b:Nat} (h:LL G0 n M Dm G a b) (hB:LB M Dm N):∀x,x<n→G x x≤gB M Dm:=fun x hx=>Int.le_trans (h.z x hx) hB.g0
theorem LR.dia {k j:Nat} (h:LR G0 n M Dm G k j) (hB:LB M Dm N) (hk:k<n) (h12:n≤12):∀x,x<n→G x x≤gB M Dm:=fun x hx=>by
  by_cases e:x=k
  · subst e;exact Int.le_trans h.zk (hB.g4 (by omega))
  · exact Int.le_trans (h.z x hx e) hB.g0
theorem sz_D (h:LC G0 n M Dm G) (hB:LB M Dm N):∀k,k≤n→Sz (4*N+8) (uD G k):=fun k hk=>by
  have h1:=h.d k hk
  have h2:=h.p.uD hk
  have h3:=hB.d
  exact (Sz_pw (N:=N) (by omega) (by omega)).up (by omega)
theorem mul_pw {x y:Int} {a b:Nat} (hx:x≤((2^a:Nat):Int)) (hy:y≤((2^b:Nat):Int)) (h0:0≤x) (h1:0≤y):x*y≤((2^(a+b):Nat):Int):=by
  have:=Int.mul_le_mul hx hy h1 (Int.natCast_nonneg _)
  rw [Nat.pow_add];push_cast at this ⊢;exact this
theorem sz_L (h:LC G0 n M Dm G) (hB:LB M Dm N) (hd:∀x,x<n→G x x≤gB M Dm):∀x k,x<n→k<x→Sz (4*N+8) (uE G k x k):=fun x k hx hk=>by
  have h1:=uE_sq h.s h.p hk hx
  have a1:=h.d k (by omega)
  have a2:=h.d (k+1) (by omega)
  have b1:=h.p.uD (show k≤n by omega)
  have b2:=h.p.uD (show k+1≤n by omega)
  have c1:=hd x hx
  have c2:=dia_pos h.s h.p hx
  have e1:=mul_pw (Int.le_trans a1 hB.d) (Int.le_trans a2 hB.d) (Int.le_of_lt b1) (Int.le_of_lt b2)
  have e2:=mul_pw e1 (Int.le_trans c1 hB.g) (Int.le_of_lt (Int.mul_pos b1 b2)) (Int.le_of_lt c2)
  have e3:=Int.mul_pos (Int.mul_pos b1 b2) c2
  exact (Sz.sq (Sz_pw (N:=N+N+N) (by omega) e2) h1).up (by omega)
theorem sz_q (h:LC G0 n M Dm G) (hB:LB M Dm N) (hd:∀x,x<n→G x x≤gB M Dm) {k j:Nat} (hj:j<k) (hk:k<n):Sz (4*N+8) (nearQ (frM G k j)):=by
  have h1:=near_uE h.s h.p hj hk
  have a1:=h.d j (by omega)
  have b1:=h.p.uD (show j≤n by omega)
  have c1:=hd k hk
  have c2:=dia_pos h.s h.p hk
  have e1:=mul_pw (Int.le_trans a1 hB.d) (Int.le_trans c1 hB.g) (Int.le_of_lt b1) (Int.le_of_lt c2)
  have e2:=mul_pw (a:=2) (x:=4) (by decide) e1 (by omega) (Int.le_of_lt (Int.mul_pos b1 c2))
  have e3:=Int.mul_pos b1 c2
  exact (Sz.sq (Sz_pw (N:=2+(N+N)) (by omega) e2) h1).up (by omega)
theorem sz_U (hs:SymG A) (hp:PosU A n) (h12:n≤12) (hB:LB M Dm N) (hM:∀x,x<n→A x x≤M) (hD:∀l,l≤n→uD A l≤Dm) {u:Fi} (hd:∀x,x<n→fU A n u x x≤gB M Dm):∀x l,x<n→l<n→Sz (4*N+8) (u x l):=fun x l hx hl=>by
  have g0:=hB.g0
  have m1:=hB.m1
  have hQ:qf (qG A) n (fun i=>(u x i:Rat))≤((gB M Dm:Int):Rat):=by
    rw [←fU_qf];exact Rat.intCast_le_intCast.mpr (hd x hx)
  have w:=coef_le hs hp h12 (M:=gB M Dm) (fun x hx=>Int.le_trans (hM x hx) (by omega)) hD (fun i=>(u x i:Rat)) hQ (by omega) (by omega) 12 l hl (by omega)
  obtain ⟨w1,w2⟩:=wi_int w
  have c:=hB.c
  exact (Sz_pw (N:=N) (by omega) (by omega)).up (by omega)
theorem sz_Ul {U:List (List Int)} (hU:CU n U) (h:∀x l,x<n→l<n→Sz (4*N+8) (matF U x l)) (x:Nat):SzL (4*N+8) (U.getD x []):=fun i=>by
  by_cases hx:x<n
  · by_cases hi:i<n
    · exact h x i hx hi
    · rw [List.getD_eq_getElem?_getD,List.getElem?_eq_none (by rw [hU.row x hx];omega)];exact Sz.zero _
  · rw [List.getD_eq_getElem?_getD (l:=U),List.getElem?_eq_none (by rw [hU.len];omega)];exact Sz.zero _
end
theorem LB_pow (e d:Nat) (he:e≤1024) (hd:d≤2200000):∃N,LB ((2^e:Nat):Int) ((2^d:Nat):Int) N:=by
  have e1:(1:Int)≤((2^e:Nat):Int):=by have:=Nat.two_pow_pos e;omega
  have d1:(1:Int)≤((2^d:Nat):Int):=by have:=Nat.two_pow_pos d;omega
  generalize hM:((2^e:Nat):Int)=M at *
  generalize hDm:((2^d:Nat):Int)=Dm at *
  have hm:=mul_pw (Int.le_of_eq hDm.symm) (Int.le_of_eq hM.symm) (by omega) (by omega)
  have hm0:=Int.mul_pos (show 0<Dm by omega) (show 0<M by omega)
  have pm:∀{a b:Nat},a≤b→((2^a:Nat):Int)≤((2^b:Nat):Int):=fun h=>by have:=Nat.pow_le_pow_right (show 0<2 by omega) h;omega
  have hK:2+32*Dm*M≤((2^(d+e+6):Nat):Int):=by
    rw [Int.mul_assoc,show d+e+6=(d+e)+6 by omega,Nat.pow_add];push_cast at hm ⊢;omega
  have hK0:0≤2+32*Dm*M:=by rw [Int.mul_assoc];omega
  have hKp:∀m,0≤(2+32*Dm*M)^m∧(2+32*Dm*M)^m≤((2^((d+e+6)*m):Nat):Int):=fun m=>by
    induction m with
    | zero=>exact ⟨by rw [Int.pow_zero];omega,by rw [Int.pow_zero,Nat.mul_zero];decide⟩
    | succ m ih=>
      rw [Int.pow_succ,Nat.mul_succ]
      exact ⟨Int.mul_nonneg ih.1 hK0,mul_pw ih.2 hK ih.1 hK0⟩
  have h4:=mul_pw (a:=2) (x:=4) (by decide) (Int.le_of_eq hM.symm) (by omega) (by omega)
  have hg:=mul_pw h4 (hKp 12).2 (by omega) (hKp 12).1
  have hg0:0<gB M Dm:=by
    unfold gB
    exact Int.mul_pos (by omega) (Int.pow_pos (by rw [Int.mul_assoc];omega))
  have hg2:gB M Dm≤((2^(2+e+(d+e+6)*12):Nat):Int):=hg
  have ht:=mul_pw hg2 (Int.le_of_eq hDm.symm) (Int.le_of_lt hg0) (by omega)
  have ht0:=Int.mul_pos hg0 (show 0<Dm by omega)
  have hk:1+12*(gB M Dm*Dm)≤((2^(2+e+(d+e+6)*12+d+4):Nat):Int):=by
    rw [Nat.pow_add _ _ 4];push_cast at ht ⊢;omega
  have hb:=bdC_pow ht0 (show 0<1+12*(gB M Dm*Dm) by omega) ht hk 12
  refine ⟨2+e+(d+e+6)*12+d+(2+e+(d+e+6)*12+d+4)*12,e1,d1,?_,?_,?_,by omega⟩
  · rw [←hDm];exact pm (by omega)
  · exact Int.le_trans hg2 (pm (by omega))
  · exact hb
section
variable {G0 G A:Fi} {n N:Nat} {M Dm:Int}
theorem LL.init (hs:SymG A) (hp:PosU A n) (hM:∀x,x<n→A x x≤M) (hD:∀l,l≤n→uD A l≤Dm) (hB:LB M Dm N):LL A n M Dm A 1 1:=
  ⟨⟨hs,hp,hD,rfl,fun l hl=>Rat.le_trans (frS_le hs hp hl) (Rat.intCast_le_intCast.mpr (hM l hl))⟩,fun x hx=>by have:=hM x hx;have:=hB.m1;omega,fun x hx l hl=>absurd hl (by omega),fun x h1 h2=>absurd h1 (by omega)⟩
theorem LR.zero' {k c:Nat} (h:LR G0 n M Dm G k c) (h0:0<c) (hc:c≤k) (hk:k<n) (hz:nearQ (frM G k (c-1))=0):LR G0 n M Dm G k (c-1):=by
  obtain ⟨j,rfl⟩:∃j,c=j+1:=⟨c-1,by omega⟩
  exact LR.zero h (by omega) hk hz
theorem LR.step' {k c:Nat} (h:LR G0 n M Dm G k c) (h0:0<c) (hc:c≤k) (hk:k<n):LR G0 n M Dm (rowI G k (c-1) (-(nearQ (frM G k (c-1))))) k (c-1):=by
  obtain ⟨j,rfl⟩:∃j,c=j+1:=⟨c-1,by omega⟩
  exact LR.step h (by omega) hk
theorem LL.no' {k:Nat} (h:LL G0 n M Dm G (k+1) k) (h0:0<k) (hk:k<n) (hl:¬lov G (k-1+1)):LL G0 n M Dm (swpI G (k-1)) (max (k-1) 1) (max (k-1) 1):=by
  obtain ⟨p,rfl⟩:∃p,k=p+1:=⟨k-1,by omega⟩
  have h2:=LL.no h hk hl
  by_cases e:p=0
  · subst e;exact h2.one
  · rw [show max (p+1-1) 1=p by omega];exact h2
def muL (G:Fi) (n k:Nat):Nat:=sumD G n*(n+2)+(n-k)
theorem muL_yes {G H:Fi} {n k:Nat} (h:sumD H n=sumD G n) (hk:k<n):muL H n (k+1)<muL G n k:=by
  unfold muL;rw [h];omega
theorem muL_no {G H:Fi} {n k:Nat} (h:sumD H n<sumD G n) (k2:Nat):muL H n k2<muL G n k:=by
  unfold muL
  have:=Nat.mul_le_mul_right (n+2) h
  rw [Nat.succ_mul] at this
  omega
theorem fL_sum_no {a U V:List (List Int)} {k:Nat} (hV:CU a.length V) (h:LL G0 a.length M Dm (fL a V) (k+1) k) (h0:0<k) (hk:k<a.length) (hl:¬lov (fL a V) (k-1+1)) (hS:sumD (fL a V) a.length=sumD (fL a U) a.length):sumD (fL a (swpU V (k-1))) a.length<sumD (fL a U) a.length:=by
  rw [fL_swp hV (by omega),←hS]
  exact sumD_swp h.c.s h.c.p (by omega) hl
theorem timesV_Sz {m n:Nat} {q:Int} {v:List Int} (hv:SzL n v) (hq:Sz m q):SzL (m+n) (v.map (fun x=>q*x)):=fun i=>by
  rw [getD_timesV];exact hq.mul (hv i)
abbrev fi:=@timesV_Sz
end
end Fw
