/- Proved: QuadReduces, for every input of bulk at most 1048576; no other condition. -/
import Derived.Test.YtjbfmocbophmlaaGreatCQuadReducesE
set_option exponentiation.threshold 600
set_option linter.unusedVariables false
set_option linter.unusedSimpArgs false
set_option maxRecDepth 20000
set_option maxHeartbeats 1000000
namespace Fw
open Go Go.Proofs
theorem c_ref06_loses (n s i k:Nat) (f:Fq) (q:Rat) (vO:Value) (vs:List Value) (hv:vs.length=n) (hn12:n≤64) (hi:i<n) (hk:k<n) (hik:i≠k) (hs:s≤4362077072) (hf:∀b,RZ s (f i b)) (hfk:∀b,RZ (s+s) (f k b)) (hq:RZ s q):Con Tryz.prog 261 [VP.ex vO,kN6.is (i:Int),kN6.is (k:Int),kRC.is (rq q)] [OB.row vO 26 kVal vs,OB.fam vs 31 kRC (tabR n n f)] (fun p Lo=>p=VP.tup []∧Lo=[OB.row vO 26 kVal vs,OB.fam vs 31 kRC (tabR n n (loseF f i k q n))]∧True):=by
 refine aK Tryz.func261 E E fun m w=>Cr<|a6 .n E fun b1=>Wr<|Wa E<|Wn<|aw<|tf 2 E (y:=(tabR n n (loseF f i k q 0))) (by rw [loseF_0])<|bN (fun (c:Nat)=>c≤n) (fun (c:Nat)=>[(0,VP.ex vO),(1,kN6.is (i:Int)),(2,kN6.is (k:Int)),(7,VP.pt b1 0),(8,kN6.is (c:Int))]) (fun (c:Nat)=>[OB.box b1 31 kRC (rq q),OB.row vO 26 kVal vs,OB.fam vs 31 kRC (tabR n n (loseF f i k q c))]) (fun (c:Nat)=>n-c) 0 (by omega) (af E E E E (ao E (ag (y:=(0:Int)) (by rfl)) ai)) (au _) ?_
 intro c hc
 refine aa<|Cr<|Wm E<|Wm E<|Wm E<|Ws (aY (k:=kVal) (xs:=vs) (n:=(i:Int)) i E E (ac 1 E) U148 bB E (by omega))<|Ws (aV (bd i E (ac 1 E) Li E (y:=(vs.getD i nilV)) (gd nilV (by omega)) bB E) (bm _))<|Ws (O.lenF i E (ac 2 E) E (by omega) U26)<|tl 14 E (y:=(n:Int)) (by rw [tabR_rlen hi])<|Ws (aS E E)<|Wn ?_
 refine aB E (fun h_t15=>?_)<|fun h_t15=>?_
 ·
  refine Ck<|aa<|aw ?_
  refine ba (Γ:=[.fr (VP.ex vO),.fr (kN6.is (i:Int)),.fr (VP.pel vO (i*1)),.fr (VP.ex (vs.getD i nilV)),.fr (kN6.is (c:Int)),.fr (VP.ex vO),.fr (kN6.is (i:Int)),.fr (VP.pel vO (i*1)),.fr (VP.ex (vs.getD i nilV)),.fr (kN6.is (c:Int)),.fr (VP.pel (vs.getD i nilV) (c*4)),.fr (kRC.is (rq (f i c))),.fr (kRC.is (rq q)),.fr (VP.ex vO),.fr (kN6.is (k:Int)),.fr (VP.pel vO (k*1)),.fr (VP.ex (vs.getD k nilV)),.fr (kN6.is (c:Int)),.fr (VP.pel (vs.getD k nilV) (c*4)),.fr (kRC.is (rq (f k c))),.fr (kRC.is (rq (q*(f k c)))),.fr (kRC.is (rq ((f i c)-(q*f k c)))),.fr (VP.pel (vs.getD i nilV) (c*4))]) (om E E (om E E (J E (fun N=>aY (k:=kVal) (xs:=vs) (n:=(i:Int)) i E E (mN N 1 E) U148 bB E (by omega)) (J E (fun N=>aV (bd i E (mN N 1 E) Li E (y:=(vs.getD i nilV)) (gd nilV (by omega)) bB E) (bm _)) (om E E (om E E (om E E (J E (fun N=>aY (k:=kVal) (xs:=vs) (n:=(i:Int)) i E E (mN N 1 E) U148 bB E (by omega)) (J E (fun N=>aV (bd i E (mN N 1 E) Li E (y:=(vs.getD i nilV)) (gd nilV (by omega)) bB E) (bm _)) (om E E (J E (fun N=>cm (e:=31) (k:=kRC) (xss:=(tabR n n (loseF f i k q c))) (n:=(c:Int)) i c E E (mN N 2 E) E (by omega) U26 aL E (by rw [tabR_rlen (by omega)];omega)) (J E (fun N=>cO (k:=kRC) (xss:=(tabR n n (loseF f i k q c))) i c E (mN N 2 E) E (by omega) Li E (y:=(rq (f i c))) (dD (f i c) (by omega) (by omega) loseF_at) aL E) (J E (fun N=>ae E (mN N 0 E) Li aL E) (om E E (om E E (J E (fun N=>aY (k:=kVal) (xs:=vs) (n:=(k:Int)) k E E (mN N 1 E) U148 bB E (by omega)) (J E (fun N=>aV (bd k E (mN N 1 E) Li E (y:=(vs.getD k nilV)) (gd nilV (by omega)) bB E) (bm _)) (om E E (J E (fun N=>cm (e:=31) (k:=kRC) (xss:=(tabR n n (loseF f i k q c))) (n:=(c:Int)) k c E E (mN N 2 E) E (by omega) U26 aL E (by rw [tabR_rlen (by omega)];omega)) (J E (fun N=>cO (k:=kRC) (xss:=(tabR n n (loseF f i k q c))) k c E (mN N 2 E) E (by omega) Li E (y:=(rq (f k c))) (dD (f k c) (by omega) (by omega) (loseF_k hik)) aL E) (J E (fun N=>f2 fn104 E E (ei (s+s) q (f k c) (hq.up (by omega)) (hfk c) (by omega))) (J E (fun N=>aF fn103 (aX E (aq E (ag (y:=rq (q*f k c)) (by rfl)) ax)) (c_ref03_Sub (s+s+s) (f i c) (q*f k c) ((hf c).up (by omega)) ((hq.mul (hfk c)).up (by omega)) (by omega))) (J E (fun N=>cm (e:=31) (k:=kRC) (xss:=(tabR n n (loseF f i k q c))) (n:=(c:Int)) i c E E (mN N 2 E) E (by omega) U26 aL E (by rw [tabR_rlen (by omega)];omega)) oz)))))))))))))))))))))))<|fun σ1=>?_
  refine aG .n (dX 2 i c E E E (by omega) Li E (y0:=(((tabR n n (loseF f i k q c)).getD i []).getD c (0,0))) (gd (0,0) (by rw [tabR_rlen (by omega)];omega)) aL E Lr)<|aj<|Qb<|ah<|Wm E<|Ws (aI E E (c:=((c:Int)+1)) (ay (by omega)))<|Wa E<|aj<|tf 2 E (y:=(tabR n n (loseF f i k q (c+1)))) (by rw [tabR_set (f i c-q*f k c) (by omega) (by omega),loseF_upd]) ?_
  exact bG (c+1) (by omega) (by omega) (af E E E E (ao E (ag (y:=(((c+1):Nat):Int)) (by rfl)) ai))<|au _
 ·
  refine du<|cS<|cS<|dr<|tf 2 E (y:=(tabR n n (loseF f i k q n))) (by rw [show c=n by omega]) ?_
  exact ct (.inr E) E ak (aW (OS.skip (OS.keep (OS.keep OS.nil)))) ⟨E,E,trivial⟩
theorem c_ref06_ratss (n:Nat) (f:Fi) (hn:n≤64):Con Tryz.prog 230 [kMZ.is (tabZ n f)] [] (fun p Lo=>∃(vO:Value) (vs:List Value),p=VP.ex vO∧Lo=[OB.row vO 26 kVal vs,OB.fam vs 31 kRC (tabR n n (fun i k=>((f i k:Int):Rat)))]∧vs.length=n):=by
 refine aK Tryz.func230 E E fun m w=>Cr<|Wa E<|Wr<|Wa E<|Wn<|aa<|Cr<|Wa E<|Wn<|aw<|ca 26 kVal<|fl 31 kRC<|da (fun (i:Nat) (v:Value) (us:List Value)=>i≤n∧us.length=i) (fun (i:Nat) (v:Value) (us:List Value)=>[(0,kMZ.is (tabZ n f)),(3,VP.ex v),(4,kN6.is (i:Int))]) (fun (i:Nat) (v:Value) (us:List Value)=>[OB.fam us 31 kRC ((tabR n n (fun i k=>((f i k:Int):Rat))).take i),OB.row v 26 kVal us]) (fun (i:Nat) (v:Value) (us:List Value)=>n-i) 0 (.slice none 0 0) [] ⟨Nat.zero_le _,E⟩ (Z E (Z E (ao E (ag (y:=(0:Int)) (by rfl)) ai))) (aW (OS.keepLe (d9 (by rfl) (by rfl)) (OS.keep OS.nil))) ?_
 intro i v us ⟨hi,hvs⟩
 refine aa<|Cr<|Wm E<|Wm E<|Ws (aA E U22)<|tl 9 E (y:=(n:Int)) (by rw [tabZ_len])<|Ws (aS E E)<|Wn ?_
 refine aB E (fun h_t10=>?_)<|fun h_t10=>?_
 ·
  refine Ck<|aa<|aw<|Cr<|Wa E<|Wn<|aa<|Cr<|Wa E<|Wn<|aw<|ca 31 kRC<|bX (fun (k:Nat) (u:Value)=>k≤n) (fun (k:Nat) (u:Value)=>[(0,kMZ.is (tabZ n f)),(3,VP.ex v),(4,kN6.is (i:Int)),(5,VP.ex u),(6,kN6.is (k:Int))]) (fun (k:Nat) (u:Value)=>[OB.row u 31 kRC (((tabR n n (fun i k=>((f i k:Int):Rat))).getD i []).take k),OB.fam us 31 kRC ((tabR n n (fun i k=>((f i k:Int):Rat))).take i),OB.row v 26 kVal us]) (fun (k:Nat) (u:Value)=>n-k) 0 (.slice none 0 0) (by omega) (af E E E E (ao E (ag (y:=(0:Int)) (by rfl)) ai)) (aW (OS.keepLe (a9 (by rfl)) (OS.keepLe (d9 (by rfl) (by rfl)) (OS.keep OS.nil)))) ?_
  intro k u hk
  refine aa<|Cr<|Wm E<|Wm E<|Wm E<|Ws (aT i E E U22 aE E (v:=((List.range n).map (f i))) (tabZ_get (by omega)))<|Ws (aO E aE)<|Ws (aA E U23)<|tl 18 E (y:=(n:Int)) (by rw [rgZ_len])<|Ws (aS E E)<|Wn ?_
  refine aB E (fun h_t19=>?_)<|fun h_t19=>?_
  ·
   refine Ck<|aa<|aw<|ah<|Wm E<|Wm E<|Wm E<|Ws (aT i E E U22 aE E (v:=((List.range n).map (f i))) (tabZ_get (by omega)))<|Ws (aO E aE)<|Wm E<|Ws (aT k E E U23 ab E (v:=(f i k)) (rgZ_at (by omega)))<|Ws (aO E ab)<|Ws (f1 fn52 E (ez (f i k)))<|Ws (bC U26 ef (b9 E bw) E (by decide))<|bL 0 .n E E E Lr U26 ef (by simp only [List.length_cons,List.length_nil,List.length_take];omega) fun v1=>Wa E<|aj<|Qb<|ah<|Wm E<|Ws (aI E E (c:=((k:Int)+1)) (ay (by omega)))<|Wa E ?_
   refine aj<|tr 0 E (y:=(((tabR n n (fun i k=>((f i k:Int):Rat))).getD i []).take (k+1))) (fj (tabR_at (by omega) (by omega))) ?_
   exact bP (k+1) v1 (by omega) (by omega) (af E E E E (ao E (ag (y:=(((k+1):Nat):Int)) (by rfl)) ai))<|aW<|OS.keepLe (a9 (by rfl))<|OS.keepLe (d9 (by rfl) (by rfl))<|OS.keep OS.nil
  ·
   refine Ex<|ah<|Wm E<|Wm E<|bn 0 E fun hcell_=>Ws (bC U148 el26_val (bZ E (bf (by assumption)) bw) E (by decide))<|bL 2 .n E E E Lr U148 el26_val (by simp only [List.length_cons,List.length_nil,List.length_take];omega) fun v2=>Wa E<|aj<|Qb<|ah<|Wm E<|Ws (aI E E (c:=((i:Int)+1)) (ay (by omega)))<|Wa E<|aj<|tr 0 E (y:=((tabR n n (fun i k=>((f i k:Int):Rat))).getD i [])) (List.take_of_length_le (by rw [tabR_rlen (by omega)];omega))<|bD (fam_push 0 E)<|tf 0 E (y:=((tabR n n (fun i k=>((f i k:Int):Rat))).take (i+1))) (eV (by rw [tabR_len];omega)) ?_
   exact cM (i+1) v2 (us++[u]) (by omega) ⟨by omega,by simp [hvs]⟩ (Z E (Z E (ao E (ag (y:=(((i+1):Nat):Int)) (by rfl)) ai)))<|aW<|OS.keepLe (d9 (by rfl) (by rfl))<|OS.keep OS.nil
 ·
  refine Ex<|Cr<|Wm E<|Wa E<|Wn<|am ?_
  have hvl:us.length=n:=by omega
  refine tf 0 E (y:=(tabR n n (fun i k=>((f i k:Int):Rat)))) (List.take_of_length_le (by rw [tabR_len];omega))<|bD (bI [1,0] (by decide) E) ?_
  exact ct (.inl E) E (ar E ak) (au _) ⟨v,us,E,E,hvl⟩
set_option maxHeartbeats 4000000 in
theorem c_ref06_reduceds (B:Fi) (n:Nat) (hn:n≤64) (hz:∀i j,Sz 33554432 (B i j)) (vO:Value) (vs0:List Value) (hv0:vs0.length=n):Con Tryz.prog 229 [VP.ex vO,kN6.is (n:Int)] [OB.row vO 26 kVal vs0,OB.fam vs0 31 kRC (tabR n n (fun i k=>((B i k:Int):Rat)))] (fun p Lo=>∃(d:Rat),p=VP.tup [VP.tt,VP.tt,kRC.is (rq d)]∧Lo=[]∧FDet B n n d):=by
 refine aK Tryz.func229 E E fun m w=>?_
 have hn126:n≤126:=by omega
 have hmB:mB 33554432 n≤2181038536:=Nat.le_trans (mB_le (s:=33554432) hn) (by decide)
 refine Cr<|Wa E<|Wa E<|a8 .n bU fun b1=>Wr<|Ws (aF dj (aq E (cD (by omega)) ax) (dh 1))<|Ws (aF fn52 (aq E (aJ (by exact Sm_lit (by decide))) ax) (ez 1))<|Ax (l:=kRC) (u:=rq (1:Rat)) bU E aL (fun _=>E) Lr fun b2=>Wr<|Wa E<|Wr<|Wa E<|aj ?_
 refine bS<|aa<|Cr<|Wa E<|Wn<|aw<|ca 3 kI64<|tb 1 E (y:=(rq 1)) E<|CW.loop7 (fun (c:Nat) (top:Nat) (f:Fq) (d:Rat) (vs:List Value) (vh:Value) (hs:List Int)=>c≤n∧top=(elA B n c).t∧ElF B n (elA B n c) f∧FDet B n c d∧vs.length=n∧hs.length≤c) (fun (c:Nat) (top:Nat) (f:Fq) (d:Rat) (vs:List Value) (vh:Value) (hs:List Int)=>[(0,VP.ex vO),(1,kN6.is (n:Int)),(6,VP.pt b1 0),(7,VP.pt b2 0),(8,VP.ex vh),(9,kN6.is (top:Int)),(10,kN6.is (c:Int))]) (fun (c:Nat) (top:Nat) (f:Fq) (d:Rat) (vs:List Value) (vh:Value) (hs:List Int)=>[OB.row vh 3 kI64 hs,OB.box b2 31 kRC (rq d),OB.box b1 31 kRC (0,0),OB.row vO 26 kVal vs,OB.fam vs 31 kRC (tabR n n f)]) (fun (c:Nat) (top:Nat) (f:Fq) (d:Rat) (vs:List Value) (vh:Value) (hs:List Int)=>n-c) 0 0 (fun i k=>((B i k:Int):Rat)) 1 vs0 (.slice none 0 0) [] ⟨Nat.zero_le _,E,elF_0 B n,fdet_0 B n,hv0,Nat.le_refl _⟩ (af E E E E (Z E (ao E (ag (y:=(0:Int)) (by rfl)) (ao E (ag (y:=(0:Int)) (by rfl)) ai)))) (au _) ?_
 intro c top f d vs vh hs ⟨hcn,htq,hF,hD,hvs,hhs⟩
 have hP:=elA_P B n c
 have htn:=hP.tn
 have hzf:∀i k,RZ 2181038536 (f i k):=fun i k=>(hF.z hP hz (by decide) hn126 i k).up hmB
 have hzd:RZ 2181038536 d:=(hD.z hz hn126).up hmB
 refine aa<|Cr<|Wm E<|Wm E<|Ws (aS E E)<|Wn ?_
 refine aB E (fun h_t19=>?_)<|fun h_t19=>?_
 ·
  refine Ck<|aa<|aw<|Cr<|Wm E<|Wa E<|Wn<|aa<|aw<|bN (fun (p:Nat)=>top≤p∧p≤n∧∀q,top≤q→q<p→f q c=0) (fun (p:Nat)=>[(0,VP.ex vO),(1,kN6.is (n:Int)),(6,VP.pt b1 0),(7,VP.pt b2 0),(8,VP.ex vh),(9,kN6.is (top:Int)),(10,kN6.is (c:Int)),(11,kN6.is (p:Int))]) (fun (p:Nat)=>[OB.row vh 3 kI64 hs,OB.box b2 31 kRC (rq d),OB.box b1 31 kRC (0,0),OB.row vO 26 kVal vs,OB.fam vs 31 kRC (tabR n n f)]) (fun (p:Nat)=>n-p) top ⟨Nat.le_refl _,by omega,fun q h1 h2=>absurd h2 (by omega)⟩ (af E E E E (Z E (Z E (Z E (Z E ai))))) (au _) ?_
  intro p ⟨hp,hpn,h0⟩
  refine aa<|Cr<|Wm E<|Wm E<|Ws (cZ E (ac 3 E) U148)<|Ws (aS E E)<|Wm E ?_
  refine bV 27 E (fun h_t27=>?_)<|fun h_t27=>?_
  ·
   refine Wg E E (bj E)<|Wg E E (bj E)<|Wg E E (aY (k:=kVal) (xs:=vs) (n:=(p:Int)) p E E (ac 3 E) U148 bB E (by omega))<|Wg E E (aV (bd p E (ac 3 E) Li E (y:=(vs.getD p nilV)) (gd nilV (by omega)) bB E) (bm _))<|Wg E E (bj E)<|Wg E E (cm (e:=31) (k:=kRC) (xss:=(tabR n n f)) (n:=(c:Int)) p c E E (ac 4 E) E (by omega) U26 aL E (by rw [tabR_rlen (by omega)];omega))<|Wg E E (cO (k:=kRC) (xss:=(tabR n n f)) p c E (ac 4 E) E (by omega) Li E (y:=(rq (f p c))) (tabR_at (by omega) (by omega)) aL E)<|Wg E E (f1 fn260 E (e7 2181038536 (f p c) (hzf p c) (by decide)))<|Ws (ch E E)<|Wn ?_
   refine aB E (fun h_t36=>?_)<|fun h_t36=>?_
   ·
    refine Ck<|aw<|ah<|Wm E<|Ws (aI E E (c:=((p:Int)+1)) (ay (by omega)))<|Wa E<|aj<|dq ?_
    exact bG (p+1) (by omega) ⟨by omega,by omega,fun q h1 h2=>if e:q=p then by rw [e];exact h_t36 else h0 q h1 (by omega)⟩ (af E E E E (Z E (Z E (Z E (ao E (ag (y:=(((p+1):Nat):Int)) (by rfl)) ai)))))<|au _
   ·
    refine Ex<|aa<|Cr<|Wm E<|Wm E<|Ws (cZ E (ac 3 E) U148)<|Ws (bR E E)<|Wn ?_
    refine CN E (by omega) fun h_t42=>?_
    refine Ck ?_
    refine CW.cut (fun (us:List Value)=>us.length=n) (fun (us:List Value)=>[(0,VP.ex vO),(1,kN6.is (n:Int)),(6,VP.pt b1 0),(7,VP.pt b2 0),(8,VP.ex vh),(9,kN6.is (top:Int)),(10,kN6.is (c:Int)),(11,kN6.is (p:Int))]) (fun (us:List Value)=>[OB.row vh 3 kI64 hs,OB.box b2 31 kRC (rq (sgD d p top)),OB.box b1 31 kRC (0,0),OB.row vO 26 kVal us,OB.fam us 31 kRC (tabR n n (swapF f p top))]) ?_ ?_
    ·
     refine Cr<|Wm E<|Wm E<|Ws (bt E E)<|Wn ?_
     refine aB E (fun h_t47=>?_)<|fun h_t47=>?_
     ·
      refine aa ?_
      refine ba (Γ:=[.fr (VP.ex vO),.fr (kN6.is (p:Int)),.lt (VP.ex vO),.lt (kN6.is (top:Int)),.fr (VP.ex vO),.fr (kN6.is (top:Int)),.fr (VP.pel vO (top*1)),.fr (VP.ex (vs.getD top nilV)),.fr (VP.ex vO),.fr (kN6.is (p:Int)),.fr (VP.pel vO (p*1)),.fr (VP.ex (vs.getD p nilV))]) (om E E (om E E (oc (cV E .n (cY E)) (oc (cV E .n (cY E)) (om E E (om E E (J E (fun N=>aY (k:=kVal) (xs:=vs) (n:=(top:Int)) top E E (mN N 3 E) U148 bB E (by omega)) (J E (fun N=>aV (bd top E (mN N 3 E) Li E (y:=(vs.getD top nilV)) (gd nilV (by omega)) bB E) (bm _)) (om E E (om E E (J E (fun N=>aY (k:=kVal) (xs:=vs) (n:=(p:Int)) p E E (mN N 3 E) U148 bB E (by omega)) (J E (fun N=>aV (bd p E (mN N 3 E) Li E (y:=(vs.getD p nilV)) (gd nilV (by omega)) bB E) (bm _)) oz))))))))))))<|fun σ1=>?_
      refine Ws (aY (k:=kVal) (xs:=vs) (n:=(p:Int)) p E E (ac 3 E) U148 bB E (by omega))<|eA 4 top E (by omega) fun hcell_=>aG .n (cd 3 p E E Li E (y0:=(vs.getD p nilV)) (gd nilV (by omega)) bB E (bf (by assumption)))<|Ws (aY (k:=kVal) (xs:=(vs.set p (vs.getD top nilV))) (n:=(top:Int)) top E E (ac 3 E) U148 bB E (by rw [List.length_set];omega))<|eA 4 p E (by omega) fun hcell_=>aG .n (cd 3 top E E Li E (y0:=((vs.set p (vs.getD top nilV)).getD top nilV)) (gd nilV (by rw [List.length_set];omega)) bB E (bf (by assumption)))<|Wn<|bD (fam_swap 4 p top E (by omega) (by omega) (by omega))<|tf 4 E (y:=(tabR n n (swapF f p top))) (tabR_swap (by omega) (by omega) (by omega))<|ah<|Ws (ae E (ac 1 E) Li aL E)<|Ws (f1 fn174 E (c_ref03_Neg 2181038536 d hzd (by decide)))<|aG .n (aD (l:=kRC) (u:=rq (-d)) 1 E E E aL E Lr)<|aj<|tb 1 E (y:=(rq (sgD d p top))) (by unfold sgD;rw [if_neg (by omega)]) ?_
      exact ed ((vs.set p (vs.getD top nilV)).set top (vs.getD p nilV)) (by simp [hvs]) (af E E E E (Z E (Z E (Z E (Z E ai)))))<|au _
     ·
      refine cc<|tb 1 E (y:=(rq (sgD d p top))) (by unfold sgD;rw [if_pos (by omega)])<|tf 4 E (y:=(tabR n n (swapF f p top))) (by rw [show p=top by omega,swapF_self]) ?_
      exact ed vs (by simp [hvs]) (af E E E E (Z E (Z E (Z E (Z E ai)))))<|au _
    intro us hus
    have hne:f p c≠0:=h_t36
    have hfe:f p c=(elA B n c).e p c:=hF.a p c (by omega) (by omega)
    have hneS:(elA B n c).e p c≠0:=by rw [←hfe];exact hne
    have hN:elA B n (c+1)=(elA B n c).to c p:=nx_to hP (by omega) (by omega) (fun x h1 h2=>by rw [←hF.a x c h1 (by omega)];exact h0 x (by omega) h2) hneS
    have hsg:RZ 2181038536 (sgD d p top):=by unfold sgD;split;exact hzd;exact hzd.neg
    refine Cr<|Wm E<|Wm E<|Ws (aY (k:=kVal) (xs:=us) (n:=(top:Int)) top E E (ac 3 E) U148 bB E (by omega))<|Ws (aV (bd top E (ac 3 E) Li E (y:=(us.getD top nilV)) (gd nilV (by omega)) bB E) (bm _))<|Wm E<|Ws (cm (e:=31) (k:=kRC) (xss:=(tabR n n (swapF f p top))) (n:=(c:Int)) top c E E (ac 4 E) E (by omega) U26 aL E (by rw [tabR_rlen (by omega)];omega))<|Ws (cO (k:=kRC) (xss:=(tabR n n (swapF f p top))) top c E (ac 4 E) E (by omega) Li E (y:=(rq (f p c))) (dD (f p c) (by omega) (by omega) swapF_top) aL E)<|Ax (l:=kRC) (u:=(rq (f p c))) bU E aL (fun _=>E) Lr fun b3=>Wr<|Ws (ae E (ac 2 E) Li aL E)<|Ws (ae E (ac 0 E) Li aL E)<|Ws (f2 fn104 E E (ei 2181038536 (sgD d p top) (f p c) hsg (hzf p c) (by decide)))<|aG .n (aD (l:=kRC) (u:=rq ((sgD d p top)*(f p c))) 2 E E E aL E Lr)<|Wn<|aa<|Cr ?_
    refine Wa E<|Wn<|aw<|tf 5 E (y:=(tabR n n (divF (swapF f p top) top (f p c) 0))) (by rw [divF_0])<|bN (fun (k:Nat)=>k≤n) (fun (k:Nat)=>[(0,VP.ex vO),(1,kN6.is (n:Int)),(6,VP.pt b1 0),(7,VP.pt b2 0),(8,VP.ex vh),(9,kN6.is (top:Int)),(10,kN6.is (c:Int)),(12,VP.pt b3 0),(13,kN6.is (k:Int))]) (fun (k:Nat)=>[OB.box b3 31 kRC (rq (f p c)),OB.row vh 3 kI64 hs,OB.box b2 31 kRC (rq (sgD d p top*f p c)),OB.box b1 31 kRC (0,0),OB.row vO 26 kVal us,OB.fam us 31 kRC (tabR n n (divF (swapF f p top) top (f p c) k))]) (fun (k:Nat)=>n-k) 0 (by omega) (af E E E E (af E E E E (ao E (ag (y:=(0:Int)) (by rfl)) ai))) (aW (OS.keep (OS.keep (OS.keepLe (cf (by rfl)) (OS.keep (OS.keep (OS.keep OS.nil))))))) ?_
    intro k hk
    refine aa<|Cr<|Wm E<|Wm E<|Ws (aS E E)<|Wn ?_
    refine aB E (fun h_t76=>?_)<|fun h_t76=>?_
    ·
     refine Ck<|aa<|aw ?_
     refine ba (Γ:=[.fr (VP.ex vO),.fr (kN6.is (top:Int)),.fr (VP.pel vO (top*1)),.fr (VP.ex (us.getD top nilV)),.fr (kN6.is (k:Int)),.fr (VP.ex vO),.fr (kN6.is (top:Int)),.fr (VP.pel vO (top*1)),.fr (VP.ex (us.getD top nilV)),.fr (kN6.is (k:Int)),.fr (VP.pel (us.getD top nilV) (k*4)),.fr (kRC.is (rq (swapF f p top top k))),.fr (kRC.is (rq (f p c))),.fr (kRC.is (rq ((swapF f p top top k)/(f p c)))),.fr (VP.pel (us.getD top nilV) (k*4))]) (om E E (om E E (J E (fun N=>aY (k:=kVal) (xs:=us) (n:=(top:Int)) top E E (mN N 4 E) U148 bB E (by omega)) (J E (fun N=>aV (bd top E (mN N 4 E) Li E (y:=(us.getD top nilV)) (gd nilV (by omega)) bB E) (bm _)) (om E E (om E E (om E E (J E (fun N=>aY (k:=kVal) (xs:=us) (n:=(top:Int)) top E E (mN N 4 E) U148 bB E (by omega)) (J E (fun N=>aV (bd top E (mN N 4 E) Li E (y:=(us.getD top nilV)) (gd nilV (by omega)) bB E) (bm _)) (om E E (J E (fun N=>cm (e:=31) (k:=kRC) (xss:=(tabR n n (divF (swapF f p top) top (f p c) k))) (n:=(k:Int)) top k E E (mN N 5 E) E (by omega) U26 aL E (by rw [tabR_rlen (by omega)];omega)) (J E (fun N=>cO (k:=kRC) (xss:=(tabR n n (divF (swapF f p top) top (f p c) k))) top k E (mN N 5 E) E (by omega) Li E (y:=(rq (swapF f p top top k))) (dD (swapF f p top top k) (by omega) (by omega) divF_at) aL E) (J E (fun N=>ae E (mN N 0 E) Li aL E) (J E (fun N=>f2 fn76 E E (c_ref03_Div 2181038536 (swapF f p top top k) (f p c) (swapF_RZ hzf p top top k) (hzf p c) (by decide) hne)) (J E (fun N=>cm (e:=31) (k:=kRC) (xss:=(tabR n n (divF (swapF f p top) top (f p c) k))) (n:=(k:Int)) top k E E (mN N 5 E) E (by omega) U26 aL E (by rw [tabR_rlen (by omega)];omega)) oz)))))))))))))))<|fun σ2=>?_
     refine aG .n (dX 5 top k E E E (by omega) Li E (y0:=(((tabR n n (divF (swapF f p top) top (f p c) k)).getD top []).getD k (0,0))) (gd (0,0) (by rw [tabR_rlen (by omega)];omega)) aL E Lr)<|aj<|Qb<|ah<|Wm E<|Ws (aI E E (c:=((k:Int)+1)) (ay (by omega)))<|Wa E<|aj<|tf 5 E (y:=(tabR n n (divF (swapF f p top) top (f p c) (k+1)))) (by rw [tabR_set (swapF f p top top k/f p c) (by omega) (by omega),divF_upd]) ?_
     exact bG (k+1) (by omega) (by omega) (af E E E E (af E E E E (ao E (ag (y:=(((k+1):Nat):Int)) (by rfl)) ai)))<|au _
    ·
     refine Ex<|aa<|Cr<|Wa E<|Wn<|aw<|tf 5 E (y:=(tabR n n (elimF (dvF f p top c) top c 0))) (by rw [elimF_0,show k=n by omega];exact tabR_div)<|bN (fun (i:Nat)=>i≤n) (fun (i:Nat)=>[(0,VP.ex vO),(1,kN6.is (n:Int)),(6,VP.pt b1 0),(7,VP.pt b2 0),(8,VP.ex vh),(9,kN6.is (top:Int)),(10,kN6.is (c:Int)),(14,kN6.is (i:Int))]) (fun (i:Nat)=>[OB.row vh 3 kI64 hs,OB.box b2 31 kRC (rq (sgD d p top*f p c)),OB.box b1 31 kRC (0,0),OB.row vO 26 kVal us,OB.fam us 31 kRC (tabR n n (elimF (dvF f p top c) top c i))]) (fun (i:Nat)=>n-i) 0 (by omega) (af E E E E (Z E (Z E (Z E (ao E (ag (y:=(0:Int)) (by rfl)) ai))))) (aW (OS.skip (OS.keep (OS.keep (OS.keep (OS.keep (OS.keep OS.nil))))))) ?_
     intro i hi
     refine aa<|Cr<|Wm E<|Wm E<|Ws (cZ E (ac 3 E) U148)<|Ws (aS E E)<|Wn ?_
     refine aB E (fun h_t97=>?_)<|fun h_t97=>?_
     ·
      refine Ck<|aa<|aw<|Cr<|Wm E<|Wm E<|Ws (bt E E)<|Wm E ?_
      refine bV 103 E (fun h_t103=>?_)<|fun h_t103=>?_
      ·
       refine Wg E E (bj E)<|Wg E E (bj E)<|Wg E E (aY (k:=kVal) (xs:=us) (n:=(i:Int)) i E E (ac 3 E) U148 bB E (by omega))<|Wg E E (aV (bd i E (ac 3 E) Li E (y:=(us.getD i nilV)) (gd nilV (by omega)) bB E) (bm _))<|Wg E E (bj E)<|Wg E E (cm (e:=31) (k:=kRC) (xss:=(tabR n n (elimF (dvF f p top c) top c i))) (n:=(c:Int)) i c E E (ac 4 E) E (by omega) U26 aL E (by rw [tabR_rlen (by omega)];omega))<|Wg E E (cO (k:=kRC) (xss:=(tabR n n (elimF (dvF f p top c) top c i))) i c E (ac 4 E) E (by omega) Li E (y:=(rq (dvF f p top c i c))) (dD (dvF f p top c i c) (by omega) (by omega) elimF_i) aL E)<|Wg E E (f1 fn260 E (e7 2181038536 (dvF f p top c i c) (dvF_RZ1 hzf (by omega) c) (by decide)))<|Wg E E (di E)<|Ws (ch E E)<|Wn ?_
       refine dx E (fun h_t113=>?_)<|fun h_t113=>?_
       ·
        refine ah<|Wm E<|Wm E<|Wm E<|Wm E<|Wm E<|Ws (aY (k:=kVal) (xs:=us) (n:=(i:Int)) i E E (ac 3 E) U148 bB E (by omega))<|Ws (aV (bd i E (ac 3 E) Li E (y:=(us.getD i nilV)) (gd nilV (by omega)) bB E) (bm _))<|Wm E<|Ws (cm (e:=31) (k:=kRC) (xss:=(tabR n n (elimF (dvF f p top c) top c i))) (n:=(c:Int)) i c E E (ac 4 E) E (by omega) U26 aL E (by rw [tabR_rlen (by omega)];omega))<|Ws (cO (k:=kRC) (xss:=(tabR n n (elimF (dvF f p top c) top c i))) i c E (ac 4 E) E (by omega) Li E (y:=(rq (dvF f p top c i c))) (dD (dvF f p top c i c) (by omega) (by omega) elimF_i) aL E)<|bD (bI [3,4,0,1,2] (by decide) E)<|cF (Li:=[OB.row vO 26 kVal us,OB.fam us 31 kRC (tabR n n (elimF (dvF f p top c) top c i))]) (L:=[OB.row vh 3 kI64 hs,OB.box b2 31 kRC (rq (sgD d p top*f p c)),OB.box b1 31 kRC (0,0)]) .n fn261 (aX E (aX E (aX E (aX E ax)))) (c_ref06_loses n 2181038536 i top (elimF (dvF f p top c) top c i) (dvF f p top c i c) vO us (by omega) hn (by omega) (by omega) (by omega) (by decide) (fun x=>by rw [elimF_i];exact dvF_RZ1 hzf (by omega) x) (fun x=>by rw [elimF_top];exact dvF_RZ hzf hne top x) (dvF_RZ1 hzf (by omega) c)) fun p_ Lo_ hp_=>?_
        obtain ⟨rfl,rfl,hx_t124⟩:=hp_
        refine aj<|Qb<|ah<|Wm E<|Ws (aI E E (c:=((i:Int)+1)) (ay (by omega)))<|Wa E<|aj<|bD (bI [2,3,4,0,1] (by decide) E)<|tf 4 E (y:=(tabR n n (elimF (dvF f p top c) top c (i+1)))) (elimF_lose2 (by omega)) ?_
        exact bG (i+1) (by omega) (by omega) (af E E E E (Z E (Z E (Z E (ao E (ag (y:=(((i+1):Nat):Int)) (by rfl)) ai)))))<|au _
       ·
        refine cc<|Qb<|ah<|Wm E<|Ws (aI E E (c:=((i:Int)+1)) (ay (by omega)))<|Wa E<|aj<|tf 4 E (y:=(tabR n n (elimF (dvF f p top c) top c (i+1)))) (by rw [elimF_skip (.inr (by simpa using h_t113))]) ?_
        exact bG (i+1) (by omega) (by omega) (af E E E E (Z E (Z E (Z E (ao E (ag (y:=(((i+1):Nat):Int)) (by rfl)) ai)))))<|au _
      ·
       refine Kf E E<|Kf E E<|Kf E E<|Kf E E<|Kf E E<|Kf E E<|Kf E E<|Kf E E<|Kf E E<|Ws (cb E E)<|Wn<|df E<|cc<|Qb<|ah<|Wm E<|Ws (aI E E (c:=((i:Int)+1)) (ay (by omega)))<|Wa E<|aj<|tf 4 E (y:=(tabR n n (elimF (dvF f p top c) top c (i+1)))) (by rw [elimF_skip (.inl (by omega))]) ?_
       exact bG (i+1) (by omega) (by omega) (af E E E E (Z E (Z E (Z E (ao E (ag (y:=(((i+1):Nat):Int)) (by rfl)) ai)))))<|au _
     ·
      refine Ex<|Cr<|Wm E<|Wm E<|Ws (bC U155 eJ (bZ E (cD (by omega)) bw) E (by decide))<|bL 0 .n E E E Lr U155 eJ (by simp;omega) fun v4=>Wa E<|Wn<|ah<|Wm E<|Ws (aI E E (c:=((top:Int)+1)) (ay (by omega)))<|Wa E<|aj<|Qb<|ah<|Wm E<|Ws (aI E E (c:=((c:Int)+1)) (ay (by omega))) ?_
      refine Wa E<|aj<|tf 4 E (y:=(tabR n n (rdcF f p top c n))) (by rw [show i=n by omega];rfl) ?_
      exact eC (c+1) (top+1) (rdcF f p top c n) (sgD d p top*f p c) us v4 (hs++[(c:Int)]) (by omega) ⟨by omega,(by rw [hN];show top+1=(elA B n c).t+1;omega),(by rw [hN,htq];exact hF.to hP (by omega) (by omega) hneS),(by rw [htq,hfe];exact hD.to (by omega) hN),hus,by simp;omega⟩ (af E E E E (Z E (ao E (ag (y:=(((top+1):Nat):Int)) (by rfl)) (ao E (ag (y:=(((c+1):Nat):Int)) (by rfl)) ai))))<|au _
  ·
   refine Kf E E<|Kf E E<|Kf E E<|Kf E E<|Kf E E<|Kf E E<|Kf E E<|Kf E E<|Ws (cb E E)<|Wn<|df E<|Ex<|aa<|Cr<|Wm E<|Wm E<|Ws (cZ E (ac 3 E) U148)<|Ws (bR E E) ?_
   refine Wn ?_
   refine CY E (by omega) fun h_t42=>?_
   refine Cr<|Ws (aF dj (aq E (cD (by omega)) ax) (dh 0))<|Ws (aF fn52 (aq E (aJ (by exact Sm_lit (by decide))) ax) (ez 0))<|aG .n (aD (l:=kRC) (u:=rq (0:Rat)) 1 E E E aL E Lr)<|Wn<|du<|cS<|dr<|bS<|ah<|Wm E<|Ws (aI E E (c:=((c:Int)+1)) (ay (by omega)))<|Wa E<|aj ?_
   have hN:elA B n (c+1)=(elA B n c):=nx_no hP (fun x h1 h2=>by rw [←hF.a x c h1 h2];exact h0 x (by omega) (by omega))
   refine tb 1 E (y:=(rq 0)) E ?_
   exact eC (c+1) top f 0 vs vh hs (by omega) ⟨by omega,by rw [hN];exact htq,by rw [hN];exact hF,hD.skip hN,hvs,by omega⟩ (af E E E E (Z E (Z E (ao E (ag (y:=(((c+1):Nat):Int)) (by rfl)) ai))))<|au _
 ·
  refine Ex<|aa ?_
  have hEnd:FDet B n n d:=by have hD2:=hD;rw [show c=n by omega] at hD2;exact hD2
  refine eb [(0,VP.ex vO),(1,kN6.is (n:Int)),(4,VP.tt),(5,VP.ex vh),(6,VP.pt b1 0),(7,VP.pt b2 0),(8,VP.ex vh),(9,kN6.is (top:Int)),(10,kN6.is (c:Int)),(17,kN6.is (c:Int)),(18,kN6.is (n:Int)),(19,kBool.is (decide ((c:Int)<(n:Int)))),(131,VP.ex vO),(132,kN6.is (top:Int)),(133,VP.tt),(134,VP.ex vh),(135,kRC.is (rq d))] [OB.row vh 3 kI64 hs,OB.box b2 31 kRC (rq d),OB.box b1 31 kRC (rq d),OB.row vO 26 kVal vs,OB.fam vs 31 kRC (tabR n n f)] ?_ ?_
  ·
   refine dy (by kernel_rfl)<|br 0 E (by kernel_rfl) (by kernel_rfl) (by kernel_rfl) (fun _ _ _ _ _ h=>h) .n (cY E)<|br 1 E (by kernel_rfl) (by kernel_rfl) (by kernel_rfl) (fun _ _ _ _ _ h=>h) .n (cY E)<|br 3 E (by kernel_rfl) (by kernel_rfl) (by kernel_rfl) (fun _ _ _ _ _ h=>h) .n (cY E) ?_
   refine bv 2 [4] ⟨?_,⟨?_,trivial⟩⟩
   ·
    refine aC E .n (O.slT top (ac 3 E) E E U148 bB E (by omega)) ?_
    refine bv 4 [5] ⟨?_,⟨?_,trivial⟩⟩
    ·
     refine aC E .n (ae E (ac 1 E) Li aL E)<|az 5<|aC E .n (a7 E)<|az 6<|aC E .n (a7 E)<|az 7<|bg E .n (aD (l:=kRC) (u:=(rq d)) 2 E E E aL E Lr)<|bc (by kernel_rfl) ?_
     exact bY (af E E E E (af E E E E (af E E E E (af E E E E (Z E ai)))))<|au _
    ·
     refine aC E .n (a7 E) ?_
     refine bv 4 [6] ⟨?_,⟨?_,trivial⟩⟩
     ·
      refine aC E .n (ae E (ac 1 E) Li aL E)<|az 6<|aC E .n (a7 E)<|az 7<|bg E .n (aD (l:=kRC) (u:=(rq d)) 2 E E E aL E Lr)<|bc (by kernel_rfl) ?_
      exact bY (af E E E E (af E E E E (af E E E E (af E E E E (Z E ai)))))<|au _
     ·
      refine aC E .n (a7 E)<|az 4<|aC E .n (ae E (ac 1 E) Li aL E)<|az 7<|bg E .n (aD (l:=kRC) (u:=(rq d)) 2 E E E aL E Lr)<|bc (by kernel_rfl) ?_
      exact bY (af E E E E (af E E E E (af E E E E (af E E E E (Z E ai)))))<|au _
   ·
    refine aC E .n (ae E (ac 1 E) Li aL E)<|az 2<|aC E .n (O.slT top (ac 3 E) E E U148 bB E (by omega))<|az 5<|aC E .n (a7 E)<|az 6<|aC E .n (a7 E)<|az 7<|bg E .n (aD (l:=kRC) (u:=(rq d)) 2 E E E aL E Lr)<|bc (by kernel_rfl) ?_
    exact bY (af E E E E (af E E E E (af E E E E (af E E E E (Z E ai)))))<|au _
  refine bS<|am ?_
  exact ct (.inl E) E (ar E (cz E (fun _ _ _=>trivial) (a5 E (ac 2 E) aL ak))) (el (List.nil_sublist _)) ⟨d,E,E,hEnd⟩
theorem c_ref05_Muq (G:Nat→Nat→Int) (n nB i j:Nat) (hs:SymG G) (hP:PosU G n) (hj:j<i) (hi:i<n) (h12:n≤12) (hD:∀k,k≤n→Sz nB (uD G k)) (hL:∀x k,x<n→k<x→Sz nB (uE G k x k)) (hB:nB≤68719476736):Fn Tryz.prog 91 [kGso.is (gDs (G) n,gLs (G) n),kN6.is (i:Int),kN6.is (j:Int)] (kRC.is (rq (frM G i j))):=by
 refine aK Tryz.func91 E E fun m w=>Cr<|a6 .n E fun b1=>a8 .n bU fun b2=>Wn<|aa<|Cr<|Wm E<|Wm E<|Ws (bR E E)<|Wn ?_
 refine CN E (by omega) fun h_t9=>?_
 refine Ck<|aa ?_
 refine ba (Γ:=[.fr (VP.pt b1 1),.fr (kMC.is (gLs (G) n)),.fr (kN6.is (i:Int)),.fr (VP.pim kVC ((gLs (G) n).getD i [])),.fr (kVC.is ((gLs (G) n).getD i [])),.fr (kN6.is (j:Int)),.fr (VP.pim kC (uE G j i j)),.fr (kC.is (uE G j i j)),.fr (VP.pt b1 0),.fr (kVC.is (gDs (G) n)),.fr (kN6.is (j:Int)),.fr (kN6.is ((j:Int)+1)),.fr (VP.pim kC (uD G (j+1))),.fr (kC.is (uD G (j+1))),.fr (kRC.is (rmk (uE G j i j) (uD G (j+1))))]) (J E (fun N=>aM E cB E) (J E (fun N=>ae (p:=kMC.is (gLs (G) n)) E (mN N 1 E) (aN Li) bT E) (om E E (J E (fun N=>aT i E E U22 aE E (v:=((gLs (G) n).getD i [])) (gd [] (by rw [gLs_len];omega))) (J E (fun N=>aO E aE) (om E E (J E (fun N=>aT j E E U23 ab E (v:=(uE G j i j)) (gLs_at (by omega) (by omega))) (J E (fun N=>aO E ab) (J E (fun N=>aM E cE E) (J E (fun N=>ae (p:=kVC.is (gDs (G) n)) E (mN N 1 E) (aU Li) aE E) (om E E (J E (fun N=>aI E E (c:=((j:Int)+1)) (ay (by omega))) (J E (fun N=>aT (j+1) E E U23 ab (by omega) (v:=(uD G (j+1))) (dd (by omega))) (J E (fun N=>aO E ab) (J E (fun N=>aF fn138 (aq E (aJ ((hL i j (by omega) (by omega)).sm (by omega))) (aq E (aJ ((hD (j+1) (by omega)).sm (by omega))) ax)) (eg (uE G j i j) (uD G (j+1)) (uD_ne hP (by omega)))) oz)))))))))))))))<|fun σ1=>?_
 refine aG .n (aD (l:=kRC) (u:=rmk (uE G j i j) (uD G (j+1))) 0 E E E aL E Lr)<|Wn<|am<|tb 0 E (y:=(rq (frM G i j))) (frM_rmk hs hP hj hi) ?_
 exact Qd E (a5 E (ac 0 E) aL ak) ⟨E,E⟩
theorem c_ref06_Checka (b:List (List Int)):Fn Tryz.prog 227 [kMZ.is b] (kN6.is (chk6 b)):=by
 refine aK Tryz.func227 E E fun m w=>Cr<|Wa E<|Wr<|Wm E<|Ws (f1 fn126 E (es b))<|Wm E<|Ws (aH E E)<|Ws (aH E E)<|Ws (aH E E)<|Wa E<|Wa E<|Wa E<|Wn<|aa<|Cr<|Wm E<|Ws (bt E E) ?_
 refine Wn ?_
 refine aB E (fun h_t13=>?_)<|fun h_t13=>?_
 ·
  refine Cr<|Wa E<|Wn<|am<|aQ<|tl 2 E (y:=(chk6 b)) (chk_1 (by omega)).symm ?_
  exact Qd E (ar E ak) ⟨E,E⟩
 ·
  refine Ck<|aa<|Cr<|Wm E<|Ws (cq E E)<|Wm E ?_
  refine bV 16 E (fun h_t16=>?_)<|fun h_t16=>?_
  ·
   refine Kt E E<|Kt E E<|Ws (ch E E)<|Wn<|em E<|Cr<|Wa E<|Wn<|am<|aQ<|tl 2 E (y:=(chk6 b)) (chk_2 (by omega) (by omega)).symm ?_
   exact Qd E (ar E ak) ⟨E,E⟩
  ·
   refine Wg E E (bj E)<|Wg E E (cq E E)<|Ws (cb E E)<|Wn ?_
   refine aB E (fun h_t19=>?_)<|fun h_t19=>?_
   ·
    refine Cr<|Wa E<|Wn<|am<|aQ<|tl 2 E (y:=(chk6 b)) (chk_2 (by omega) (by omega)).symm ?_
    exact Qd E (ar E ak) ⟨E,E⟩
   ·
    refine Ck<|Cr<|Wa E<|Wn<|am<|tl 2 E (y:=(chk6 b)) (chk_3 (by omega) (by omega)).symm ?_
    exact Qd E (ar E ak) ⟨E,E⟩
theorem c_ref06_colsa (b:List (List Int)):Fn Tryz.prog 228 [kMZ.is b] (kN6.is (shM b)):=by
 refine aK Tryz.func228 E E fun m w=>Cr<|Wa E<|Wr<|Wm E<|Ws (f1 fn126 E (es b))<|Wm E<|Ws (aH E E)<|Ws (aH E E)<|Ws (aH E E)<|Wa E<|Wa E<|Wa E<|Wr<|Wm E<|Wa E<|aj ?_
 refine bS<|am ?_
 exact Qd E (ar E ak) ⟨E,E⟩
theorem c_ref06_Deta (b:List (List Int)) (hz:SzM 33554432 b):Fn Tryz.prog 157 [kMZ.is b] (VP.tup [kC.is (d6 b),kN6.is (e6 b)]):=by
 refine aK Tryz.func157 E E fun m w=>aR (i:=0) E bu fun hB0=>Cr<|a8 .n aZ fun b1=>Wa E<|Wr<|Wm E<|Ws (f1 fn227 E (c_ref06_Checka b))<|Wa E<|Wn<|aa<|Cr<|Wm E<|Ws (bt E E)<|Wn ?_
 refine aB E (fun h_t11=>?_)<|fun h_t11=>?_
 ·
  refine Cr<|Ws (cH dR E bH (.nil _))<|Wm E<|aG .n (aD (l:=kC) (u:=0) 0 E E E ab E Lr)<|Wa E<|Wn<|am<|aQ ?_
  have he:=e6_1 (u:=b) (by omega)
  refine tb 0 E (y:=(d6 b)) (d6_no (by omega))<|tl 3 E (y:=(e6 b)) (by omega) ?_
  exact Qd E (a5 E (ac 0 E) ab (ar E ak)) ⟨E,E⟩
 ·
  refine Ck<|aa<|Cr<|Wm E<|Ws (aA E U22)<|Wm E<|Ws (f1 fn228 E (c_ref06_colsa b))<|Ws (bt E E)<|Wn ?_
  refine aB E (fun h_t18=>?_)<|fun h_t18=>?_
  ·
   refine Cr<|Ws (cH dR E bH (.nil _))<|aG .n (aD (l:=kC) (u:=0) 0 E E E ab E Lr)<|Wa E<|Wn<|am<|aQ ?_
   have he:=e6_3 (u:=b) (by omega) (by omega)
   refine tb 0 E (y:=(d6 b)) (d6_no (by omega))<|tl 3 E (y:=(e6 b)) (by omega) ?_
   exact Qd E (a5 E (ac 0 E) ab (ar E ak)) ⟨E,E⟩
  ·
   refine Ck<|aa ?_
   have he6:e6 b=0:=e6_ok (by omega) (by omega)
   have hCU:=(e6_CU he6).1
   have h64:=(e6_CU he6).2
   refine tl 0 E (y:=(tabZ b.length (matF b))) (tabZ_mat hCU).symm ?_
   have htl:=tabZ_len b.length (matF b)
   refine ah<|Wm E<|cF (Li:=[]) (L:=[OB.box b1 29 kC 0]) .n fn230 (aX E ax) (c_ref06_ratss b.length (matF b) h64) fun p_ Lo_ hp_=>?_
   obtain ⟨vO,vs,rfl,rfl,hvs⟩:=hp_
   refine Wm E<|Ws (aA E U22)<|cF (Li:=[OB.row vO 26 kVal vs,OB.fam vs 31 kRC (tabR b.length b.length (fun i k=>(((matF b) i k:Int):Rat)))]) (L:=[OB.box b1 29 kC 0]) .n fn229 (aX E (aq E (ag (y:=((b.length:Nat):Int)) (by omega)) ax)) (c_ref06_reduceds (matF b) b.length h64 (fun i j=>matF_Sz hz i j) vO vs hvs) fun p_ Lo_ hp_=>?_
   obtain ⟨d,rfl,rfl,hd⟩:=hp_
   refine Wm E<|Ws (aH E E)<|Ws (aH E E)<|Ws (aH E E)<|a8 .n bU fun b2=>Wa E<|Wa E<|aG .n (aD (l:=kRC) (u:=rq d) 0 E E E aL E Lr)<|Wr<|Ws (aM E db E)<|Ws (ae E (ac 0 E) (aU Li) ab E)<|aG .n (aD (l:=kC) (u:=(rq d).1) 1 E E E ab E Lr)<|Wa E<|Wn<|am<|tb 1 E (y:=(d6 b)) (by rw [fdet_end hd,d6_yes he6])<|tl 3 E (y:=(e6 b)) he6.symm ?_
   exact Qd E (a5 E (ac 1 E) ab (ar E ak)) ⟨E,E⟩
theorem c_ref06_Unimodular (b:List (List Int)) (hz:SzM 33554432 b):Fn Tryz.prog 97 [kMZ.is b] (VP.tup [kBool.is (decide (e6 b=0∧(detI (matF b) b.length).natAbs=1)),kN6.is (e6 b)]):=by
 refine aK Tryz.func97 E E fun m w=>Cr<|Wa E<|Wa E<|Wr<|Wm E<|Ws (f1 fn157 E (c_ref06_Deta b (by assumption)))<|Wm E<|Ws (aH E E)<|Ws (aH E E)<|Ax (l:=kC) (u:=d6 b) aZ E ab (fun _=>E) Lr fun b1=>Wa E<|Wn<|aa<|Cr<|Wm E<|Ws (bt E E) ?_
 refine Wn ?_
 refine aB E (fun h_t12=>?_)<|fun h_t12=>?_
 ·
  refine Cr<|Wm E<|Wa E<|Wa E<|Wn<|am<|aQ<|tl 2 E (y:=(decide (e6 b=0∧(detI (matF b) b.length).natAbs=1))) (by rw [eq_comm,decide_eq_false_iff_not];intro h;exact h_t12 h.1) ?_
  exact Qd E (ar E (ar E ak)) ⟨E,E⟩
 ·
  refine Ck<|Cr<|Ws (ae E (ac 0 E) Li ab E)<|Ws (aF fn165 (aq E (aJ (d6_Sm hz)) ax) (c_ref02_Abs (d6 b)))<|Ws (aF dj (aq E (cD (by omega)) ax) (dh 1))<|Ws (aF fn129 (aq E (aJ (d6_Sm hz)) (aq E (aJ (Sm_lit (by decide))) ax)) (c_ref02_Cmp ((d6 b).natAbs:Int) 1 (d6_Sm3 hz)))<|Ws (bR E E)<|Wa E<|Wa E<|Wn<|am<|tl 2 E (y:=(decide (e6 b=0∧(detI (matF b) b.length).natAbs=1))) (d6_one (by omega))<|tl 3 E (y:=(e6 b)) (by omega) ?_
  exact Qd E (ar E (ar E ak)) ⟨E,E⟩
theorem c_ref22_made (B:Nat) (a u:List (List Int)) (ha:CU a.length a) (hu:CU a.length u) (h12:a.length≤12) (za:SzM 256 a) (zu:∀x,SzL B (u.getD x [])) (hB:B≤4294967296):Fn Tryz.prog 93 [kMZ.is a,kMZ.is u] (kMC.is (tabZ a.length (fL a u))):=by
 refine aK Tryz.func93 E E fun m w=>?_
 have hul:=hu.len
 refine Cr<|Wa E<|Wr<|Wa E<|Wn<|aa<|Cr<|Wa E<|Wn<|aw<|ca 23 kVC<|bX (fun (i:Nat) (v:Value)=>i≤a.length) (fun (i:Nat) (v:Value)=>[(0,kMZ.is a),(1,kMZ.is u),(5,VP.ex v),(6,kN6.is (i:Int))]) (fun (i:Nat) (v:Value)=>[OB.row v 23 kVC ((List.range i).map (fun x=>(List.range a.length).map (fL a u x)))]) (fun (i:Nat) (v:Value)=>a.length-i) 0 (.slice none 0 0) (Nat.zero_le _) (Z E (Z E (Z E (ao E (ag (y:=(0:Int)) (by rfl)) ai)))) (aW (OS.keepLe (a9 (by rfl)) OS.nil)) ?_
 intro i v hi
 refine aa<|Cr<|Wm E<|Wm E<|Ws (aA E U22)<|Ws (aS E E)<|Wn ?_
 refine aB E (fun h_t12=>?_)<|fun h_t12=>?_
 ·
  refine Ck<|aa<|aw<|Cr<|Wa E<|Wn<|aa<|Cr<|Wa E<|Wn<|aw<|ca 29 kC<|bX (fun (k:Nat) (r:Value)=>k≤a.length) (fun (k:Nat) (r:Value)=>[(0,kMZ.is a),(1,kMZ.is u),(5,VP.ex v),(6,kN6.is (i:Int)),(7,VP.ex r),(8,kN6.is (k:Int))]) (fun (k:Nat) (r:Value)=>[OB.row r 29 kC ((List.range k).map (fL a u i)),OB.row v 23 kVC ((List.range i).map (fun x=>(List.range a.length).map (fL a u x)))]) (fun (k:Nat) (r:Value)=>a.length-k) 0 (.slice none 0 0) (Nat.zero_le _) (af E E E E (Z E (ao E (ag (y:=(0:Int)) (by rfl)) ai))) (aW (OS.keepLe (a9 (by rfl)) (OS.keep OS.nil))) ?_
  intro k r hk
  refine aa<|Cr<|Wm E<|Wm E<|Ws (aA E U22)<|Ws (aS E E)<|Wn ?_
  refine aB E (fun h_t18=>?_)<|fun h_t18=>?_
  ·
   refine Ck<|aa<|aw ?_
   refine ba (Γ:=[.fr (VP.ex r),.fr (kMZ.is a),.fr (kMZ.is u),.fr (kN6.is (i:Int)),.fr (VP.pim kVZ (u.getD i [])),.fr (kVZ.is (u.getD i [])),.fr (kMZ.is u),.fr (kN6.is (k:Int)),.fr (VP.pim kVZ (u.getD k [])),.fr (kVZ.is (u.getD k [])),.fr (kC.is (dotV (combV (u.getD i []) a) (u.getD k []))),.fr (kVC.is [dotV (combV (u.getD i []) a) (u.getD k [])])]) (om E E (om E E (om E E (om E E (J E (fun N=>aT i E E U22 aE E (v:=(u.getD i [])) (gd [] (by omega))) (J E (fun N=>aO E aE) (om E E (om E E (J E (fun N=>aT k E E U22 aE E (v:=(u.getD k [])) (gd [] (by omega))) (J E (fun N=>aO E aE) (J E (fun N=>aF fn163 (aX E (aX E (aX E ax))) (c_ref22_product B a (u.getD i []) (u.getD k []) za (zu _) (zu _) (⟨ha.rr.2,by rw [hu.row i (by omega)]⟩) h12 (by rw [hu.row k (by omega),ha.row 0 (by omega)]) (by rw [hu.row k (by omega)];omega) hB)) (J E (fun N=>bC U23 bo (b9 E bw) E (by decide)) oz))))))))))))<|fun σ1=>?_
   refine bL 0 .n E E E Lr U23 bo (by simp;omega) fun v1=>Wa E<|aj<|Qb<|ah<|Wm E<|Ws (aI E E (c:=((k:Int)+1)) (ay (by omega)))<|Wa E<|aj<|tr 0 E (y:=((List.range (k+1)).map (fL a u i))) (made_app ha hu (by omega) (by omega))<|bD (bI [0,1] (by decide) E) ?_
   exact bP (k+1) v1 (by omega) (by omega) (af E E E E (Z E (ao E (ag (y:=(((k+1):Nat):Int)) (by rfl)) ai)))<|au _
  ·
   refine Ex<|tr 0 E (y:=((List.range a.length).map (fL a u i))) (by rw [show k=a.length by omega])<|bJ 0 E (kp 0 E (kp 1 E (kp 5 E (kp 6 E (.hit (i:=7) E (kp 8 E (kp 15 E (kp 16 E (kp 17 E (kp 18 E .nil))))))))))<|ah<|Wm E<|Wm E<|Ws (bC U22 c9 (b9 E bw) E (by decide))<|bL 0 .n E E E Lr U22 c9 (by simp;omega) fun v2=>Wa E<|aj<|Qb<|ah<|Wm E<|Ws (aI E E (c:=((i:Int)+1)) (ay (by omega)))<|Wa E<|aj<|tr 0 E (y:=((List.range (i+1)).map (fun x=>(List.range a.length).map (fL a u x)))) (tab_app (fL a u) a.length i)<|bD (bI [0] (by decide) E) ?_
   exact bP (i+1) v2 (by omega) (by omega) (Z E (Z E (Z E (ao E (ag (y:=(((i+1):Nat):Int)) (by rfl)) ai))))<|au _
 ·
  refine Ex<|aa<|tr 0 E (y:=(tabZ a.length (fL a u))) (by rw [show i=a.length by omega];rfl)<|bJ 0 E (kp 0 E (kp 1 E (.hit (i:=5) E (kp 6 E (kp 9 E (kp 10 E (kp 11 E (kp 12 E .nil))))))))<|ah<|Wm E<|Wa E<|Wn<|am ?_
  exact Qd E (ar E ak) ⟨E,E⟩
theorem c_ref22_madeo (vs:Value) (B:Nat) (a u:List (List Int)) (ha:CU a.length a) (hu:CU a.length u) (h12:a.length≤12) (za:SzM 256 a) (zu:∀x,SzL B (u.getD x [])) (hB:B≤4294967296):Con Tryz.prog 93 [kMZ.is a,VP.ex vs] [OB.row vs 23 kVC u] (fun p Lo=>p=kMC.is (tabZ a.length (fL a u))∧Lo=[OB.row vs 23 kVC u]∧True):=by
 refine aK Tryz.func93 E E fun m w=>?_
 have hul:=hu.len
 refine Cr<|Wa E<|Wr<|Wa E<|Wn<|aa<|Cr<|Wa E<|Wn<|aw<|ca 23 kVC<|bX (fun (i:Nat) (v:Value)=>i≤a.length) (fun (i:Nat) (v:Value)=>[(0,kMZ.is a),(1,VP.ex vs),(5,VP.ex v),(6,kN6.is (i:Int))]) (fun (i:Nat) (v:Value)=>[OB.row v 23 kVC ((List.range i).map (fun x=>(List.range a.length).map (fL a u x))),OB.row vs 23 kVC u]) (fun (i:Nat) (v:Value)=>a.length-i) 0 (.slice none 0 0) (Nat.zero_le _) (Z E (Z E (Z E (ao E (ag (y:=(0:Int)) (by rfl)) ai)))) (aW (OS.keepLe (a9 (by rfl)) (OS.keep OS.nil))) ?_
 intro i v hi
 refine aa<|Cr<|Wm E<|Wm E<|Ws (cZ E (ac 1 E) U22)<|Ws (aS E E)<|Wn ?_
 refine aB E (fun h_t12=>?_)<|fun h_t12=>?_
 ·
  refine Ck<|aa<|aw<|Cr<|Wa E<|Wn<|aa<|Cr<|Wa E<|Wn<|aw<|ca 29 kC<|bX (fun (k:Nat) (r:Value)=>k≤a.length) (fun (k:Nat) (r:Value)=>[(0,kMZ.is a),(1,VP.ex vs),(5,VP.ex v),(6,kN6.is (i:Int)),(7,VP.ex r),(8,kN6.is (k:Int))]) (fun (k:Nat) (r:Value)=>[OB.row r 29 kC ((List.range k).map (fL a u i)),OB.row v 23 kVC ((List.range i).map (fun x=>(List.range a.length).map (fL a u x))),OB.row vs 23 kVC u]) (fun (k:Nat) (r:Value)=>a.length-k) 0 (.slice none 0 0) (Nat.zero_le _) (af E E E E (Z E (ao E (ag (y:=(0:Int)) (by rfl)) ai))) (aW (OS.keepLe (a9 (by rfl)) (OS.keep (OS.keep OS.nil)))) ?_
  intro k r hk
  refine aa<|Cr<|Wm E<|Wm E<|Ws (cZ E (ac 2 E) U22)<|Ws (aS E E)<|Wn ?_
  refine aB E (fun h_t18=>?_)<|fun h_t18=>?_
  ·
   refine Ck<|aa<|aw ?_
   refine ba (Γ:=[.fr (VP.ex r),.fr (kMZ.is a),.fr (VP.ex vs),.fr (kN6.is (i:Int)),.fr (VP.pel vs (i*1)),.fr (kVC.is (u.getD i [])),.fr (VP.ex vs),.fr (kN6.is (k:Int)),.fr (VP.pel vs (k*1)),.fr (kVC.is (u.getD k [])),.fr (kC.is (dotV (combV (u.getD i []) a) (u.getD k []))),.fr (kVC.is [dotV (combV (u.getD i []) a) (u.getD k [])])]) (om E E (om E E (om E E (om E E (J E (fun N=>aY (k:=kVC) (xs:=u) (n:=(i:Int)) i E E (mN N 2 E) U22 aE E (by omega)) (J E (fun N=>bd i E (mN N 2 E) Li E (y:=(u.getD i [])) (gd [] (by omega)) aE E) (om E E (om E E (J E (fun N=>aY (k:=kVC) (xs:=u) (n:=(k:Int)) k E E (mN N 2 E) U22 aE E (by omega)) (J E (fun N=>bd k E (mN N 2 E) Li E (y:=(u.getD k [])) (gd [] (by omega)) aE E) (J E (fun N=>aF fn163 (aX E (aq E (dS (by exact (zu _).sm (by omega))) (aq E (dS (by exact (zu _).sm (by omega))) ax))) (c_ref22_product B a (u.getD i []) (u.getD k []) za (zu _) (zu _) (⟨ha.rr.2,by rw [hu.row i (by omega)]⟩) h12 (by rw [hu.row k (by omega),ha.row 0 (by omega)]) (by rw [hu.row k (by omega)];omega) hB)) (J E (fun N=>bC U23 bo (b9 E bw) E (by decide)) oz))))))))))))<|fun σ1=>?_
   refine bL 0 .n E E E Lr U23 bo (by simp;omega) fun v1=>Wa E<|aj<|Qb<|ah<|Wm E<|Ws (aI E E (c:=((k:Int)+1)) (ay (by omega)))<|Wa E<|aj<|tr 0 E (y:=((List.range (k+1)).map (fL a u i))) (made_app ha hu (by omega) (by omega))<|bD (bI [0,1,2] (by decide) E) ?_
   exact bP (k+1) v1 (by omega) (by omega) (af E E E E (Z E (ao E (ag (y:=(((k+1):Nat):Int)) (by rfl)) ai)))<|au _
  ·
   refine Ex<|tr 0 E (y:=((List.range a.length).map (fL a u i))) (by rw [show k=a.length by omega])<|bJ 0 E (kp 0 E (kp 1 E (kp 5 E (kp 6 E (.hit (i:=7) E (kp 8 E (kp 15 E (kp 16 E (kp 17 E (kp 18 E .nil))))))))))<|ah<|Wm E<|Wm E<|Ws (bC U22 c9 (b9 E bw) E (by decide))<|bL 0 .n E E E Lr U22 c9 (by simp;omega) fun v2=>Wa E<|aj<|Qb<|ah<|Wm E<|Ws (aI E E (c:=((i:Int)+1)) (ay (by omega)))<|Wa E<|aj<|tr 0 E (y:=((List.range (i+1)).map (fun x=>(List.range a.length).map (fL a u x)))) (tab_app (fL a u) a.length i)<|bD (bI [0,1] (by decide) E) ?_
   exact bP (i+1) v2 (by omega) (by omega) (Z E (Z E (Z E (ao E (ag (y:=(((i+1):Nat):Int)) (by rfl)) ai))))<|au _
 ·
  refine Ex<|aa<|tr 0 E (y:=(tabZ a.length (fL a u))) (by rw [show i=a.length by omega];rfl)<|bJ 0 E (kp 0 E (kp 1 E (.hit (i:=5) E (kp 6 E (kp 9 E (kp 10 E (kp 11 E (kp 12 E .nil))))))))<|ah<|Wm E<|Wa E<|Wn<|am ?_
  exact ct (.inl E) E (ar E ak) (au _) ⟨E,E,trivial⟩
abbrev fm:=@c_ref22_madeo
theorem c_ref22_Datat (n s:Nat) (F:Fi) (hs_:SymG F) (hP_:PosU F n) (hl:n≤12) (hz_:∀i j,i<n→j<n→Sz s (F i j)) (hn:s≤4300000000):Fn Tryz.prog 92 [kMZ.is (tabZ n F)] (kGso.is (gDs (F) n,gLs (F) n)):=by
 refine aK Tryz.func92 E E fun m w=>aR (i:=0) E bu fun hB=>aR (i:=0) E dK fun hlc=>?_
 have hln:=tabZ_len n F
 have hq:=tab_sq n F
 have hs:=tab_sym (n:=n) hs_
 have hP:PosU (matF (tabZ n F)) (tabZ n F).length:=by rw [hln];exact tab_pos hP_
 have ha:SzM s (tabZ n F):=tab_Sz hz_
 have hz:∀i j,Sz s (matF (tabZ n F) i j):=fun i j=>matF_Sz ha i j
 have hmB:∀k,k≤12→mB s k≤55900000092:=fun k hk=>by have:=mB_le (s:=s) hk;unfold mB at *;omega
 have hE:∀k,k≤(tabZ n F).length→∀i j,k≤i→k≤j→Sz 55900000092 (uE (matF (tabZ n F)) k i j):=fun k hk i j h1 h2=>(uE_mB hs hz hP (by omega) hk h1 h2).up (hmB k (by omega))
 have hD:∀k,k≤(tabZ n F).length→Sz 55900000092 (uD (matF (tabZ n F)) k):=fun k hk=>uD_of_E hE (by decide) k hk
 have hU:∀k,k≤12→True:=fun _ _=>trivial
 have hDp:∀k,k≤(tabZ n F).length→0<uD (matF (tabZ n F)) k:=fun k hk=>hP.uD hk
 refine Cr<|a8 .n er fun b1=>Wr<|Ws (aF dj (aq E (cD (by omega)) ax) (dh 1))<|WP.bso .n U23 bo (b9 E bw) E (by decide) fun v2=>bn 0 E fun hcell_=>Ws (cH co E (bz E (bf (by assumption)) bH) (.cons E (aU Li) (.nil _)))<|Ax (l:=(kPair kVal kVal)) (u:=(v2,(.slice none 0 0))) cK E bi (fun _=>E) Lr fun b3=>Wn<|aa<|Cr<|Wa E<|Wn<|aw<|ca 23 kVC<|da (fun (i:Nat) (vD:Value) (vL:Value)=>i≤(tabZ n F).length) (fun (i:Nat) (vD:Value) (vL:Value)=>[(0,kMZ.is (tabZ n F)),(2,VP.pt b1 0),(3,VP.pt b3 0),(4,kN6.is (i:Int))]) (fun (i:Nat) (vD:Value) (vL:Value)=>[OB.row vL 23 kVC (gLs (matF (tabZ n F)) i),OB.box b3 25 (kPair kVal kVal) (vD,vL),OB.row vD 29 kC (gDs (matF (tabZ n F)) i),OB.box b1 25 kGso ([],[])]) (fun (i:Nat) (vD:Value) (vL:Value)=>(tabZ n F).length-i) 0 v2 (.slice none 0 0) (by omega) (Z E (Z E (Z E (ao E (ag (y:=(0:Int)) (by rfl)) ai)))) (aW (OS.keepLe (a9 (by rfl)) (OS.keep (OS.keepLe (a9 (by rfl)) (OS.keep OS.nil))))) ?_
 intro i vD vL hi
 refine aa<|Cr<|Wm E<|Wm E<|Ws (aA E U22)<|Ws (aS E E)<|Wn ?_
 refine aB E (fun h_t16=>?_)<|fun h_t16=>?_
 ·
  refine Ck<|aa<|aw<|Cr<|Wa E<|Wn<|aa<|Cr<|Wa E<|Wn<|aw<|ca 29 kC ?_
  have hi2:i<(tabZ n F).length:=by omega
  refine da (fun (j:Nat) (v:Value) (vE:Value)=>j≤i+1) (fun (j:Nat) (v:Value) (vE:Value)=>[(0,kMZ.is (tabZ n F)),(2,VP.pt b1 0),(3,VP.pt b3 0),(4,kN6.is (i:Int)),(5,VP.ex v),(6,kN6.is (j:Int))]) (fun (j:Nat) (v:Value) (vE:Value)=>[OB.row v 29 kC (gRow (matF (tabZ n F)) i (min j i)),OB.row vL 23 kVC (gLs (matF (tabZ n F)) i),OB.box b3 25 (kPair kVal kVal) (vE,vL),OB.row vE 29 kC (gDs (matF (tabZ n F)) (dI i j)),OB.box b1 25 kGso ([],[])]) (fun (j:Nat) (v:Value) (vE:Value)=>i+1-j) 0 (.slice none 0 0) vD (by omega) (af E E E E (Z E (ao E (ag (y:=(0:Int)) (by rfl)) ai))) (aW (OS.keepLe (a9 (by rfl)) (OS.keep (OS.keep (OS.keepLe (a9 (by rfl)) (OS.keep OS.nil)))))) ?_
  intro j v vE hj
  refine aa<|Cr<|Wm E<|Wm E<|Ws (O.le E E)<|Wn ?_
  refine aB E (fun h_t21=>?_)<|fun h_t21=>?_
  ·
   refine Ck<|aa<|aw<|Cr<|Wm E<|Wm E<|Ws (aT i E E U22 aE E (v:=((tabZ n F).getD i [])) (gd [] (by omega)))<|Ws (aO E aE)<|Wm E<|Ws (aT j E E U23 ab E (v:=(((tabZ n F).getD i []).getD j 0)) (gd 0 (by have:=hq i (by omega);omega)))<|Ws (aO E ab)<|Ax (l:=kZ) (u:=(((tabZ n F).getD i []).getD j 0)) z29_Z E ab (fun _=>E) Lr fun b4=>Wn<|aa<|Cr<|Wa E<|Wn<|aw ?_
   refine tr 1 E (y:=(gRow (matF (tabZ n F)) i j)) (gRow_min (by omega))<|tr 4 E (y:=(gDs (matF (tabZ n F)) i)) (by rw [dI_le (by omega)])<|bX (fun (k:Nat) (p:Nat)=>k≤j) (fun (k:Nat) (p:Nat)=>[(0,kMZ.is (tabZ n F)),(2,VP.pt b1 0),(3,VP.pt b3 0),(4,kN6.is (i:Int)),(5,VP.ex v),(6,kN6.is (j:Int)),(7,VP.pt p 0),(8,kN6.is (k:Int))]) (fun (k:Nat) (p:Nat)=>[OB.box p 29 kZ (uE (matF (tabZ n F)) k i j),OB.row v 29 kC (gRow (matF (tabZ n F)) i j),OB.row vL 23 kVC (gLs (matF (tabZ n F)) i),OB.box b3 25 (kPair kVal kVal) (vE,vL),OB.row vE 29 kC (gDs (matF (tabZ n F)) i),OB.box b1 25 kGso ([],[])]) (fun (k:Nat) (p:Nat)=>j-k) 0 b4 (by omega) (af E E E E (Z E (Z E (Z E (ao E (ag (y:=(0:Int)) (by rfl)) ai))))) (aW (OS.keepLe (cf (by rfl)) (OS.keep (OS.keep (OS.keep (OS.keep (OS.keep OS.nil))))))) ?_
   intro k p hk
   refine aa<|Cr<|Wm E<|Wm E<|Ws (aS E E)<|Wn ?_
   refine aB E (fun h_t33=>?_)<|fun h_t33=>?_
   ·
    refine Ck<|aa<|aw<|aa ?_
    have hUk:=hU k (by omega)
    refine ah<|Wm E<|Wa E<|Wn<|aa<|Cr<|Wm E<|Wm E<|Ws (aS E E)<|Wn ?_
    refine aB E (fun h_t39=>?_)<|fun h_t39=>?_
    ·
     refine ah<|Ws (aM E cB E)<|Ws (aV (ae (p:=kVal.is vL) E (ac 3 E) (aN Li) bT E) (bm _))<|Wm E<|Ws (aY (k:=kVC) (xs:=(gLs (matF (tabZ n F)) i)) (n:=(j:Int)) j E E (ac 2 E) U22 aE E (by simp only [gRow_len,gDs_len,gLs_len];omega))<|Ws (bd j E (ac 2 E) Li E (y:=((gLs (matF (tabZ n F)) i).getD j [])) (gd [] (by simp only [gRow_len,gDs_len,gLs_len];omega)) aE E)<|Wa E<|Wn<|aa ?_
     refine ba (Γ:=[.fr (VP.pt b3 0),.fr (VP.ex vE),.fr (kN6.is (k:Int)),.fr (kN6.is ((k:Int)+1)),.fr (VP.pel vE ((((k:Int)+1)).toNat*2)),.fr (kC.is (uD (matF (tabZ n F)) (k+1))),.fr (kZ.is (uE (matF (tabZ n F)) k i j)),.fr (kC.is ((uD (matF (tabZ n F)) (k+1))*(uE (matF (tabZ n F)) k i j))),.fr (VP.ex v),.fr (kN6.is (k:Int)),.fr (VP.pel v (k*2)),.fr (kC.is (uE (matF (tabZ n F)) k i k)),.fr (kVC.is ((gLs (matF (tabZ n F)) i).getD j [])),.fr (kN6.is (k:Int)),.fr (VP.pim kC (uE (matF (tabZ n F)) k j k)),.fr (kC.is (uE (matF (tabZ n F)) k j k)),.fr (kC.is ((uE (matF (tabZ n F)) k i k)*(uE (matF (tabZ n F)) k j k))),.fr (kC.is (((uD (matF (tabZ n F)) (k+1))*(uE (matF (tabZ n F)) k i j))-((uE (matF (tabZ n F)) k i k)*(uE (matF (tabZ n F)) k j k))))]) (J E (fun N=>aM E cE E) (J E (fun N=>aV (ae (p:=kVal.is vE) E (mN N 3 E) (aU Li) aE E) (bm _)) (om E E (J E (fun N=>aI E E (c:=((k:Int)+1)) (ay (by omega))) (J E (fun N=>aY (k:=kC) (xs:=(gDs (matF (tabZ n F)) i)) (n:=((k:Int)+1)) ((((k:Int)+1)).toNat) E E (mN N 4 E) U23 ab (by omega) (by simp only [gRow_len,gDs_len,gLs_len];omega)) (J E (fun N=>bd (k:=kC) (xs:=(gDs (matF (tabZ n F)) i)) ((((k:Int)+1)).toNat) E (mN N 4 E) Li (ho:=E) (y:=(uD (matF (tabZ n F)) (k+1))) (dd (by omega)) ab E) (J E (fun N=>ae E (mN N 0 E) Li ab E) (J E (fun N=>aF dm (aq E (aJ ((hE k (by omega) k k (by omega) (by omega)).sm (by omega))) (aX E ax)) (dl (uD (matF (tabZ n F)) (k+1)) (uE (matF (tabZ n F)) k i j))) (om E E (om E E (J E (fun N=>aY (k:=kC) (xs:=(gRow (matF (tabZ n F)) i j)) (n:=(k:Int)) k E E (mN N 1 E) U23 ab E (by simp only [gRow_len,gDs_len,gLs_len];omega)) (J E (fun N=>bd (k:=kC) (xs:=(gRow (matF (tabZ n F)) i j)) k E (mN N 1 E) Li (ho:=E) (y:=(uE (matF (tabZ n F)) k i k)) (eH (by omega)) ab E) (om E E (om E E (J E (fun N=>aT k E E U23 ab E (v:=(uE (matF (tabZ n F)) k j k)) (gLs_at (by omega) (by omega))) (J E (fun N=>aO E ab) (J E (fun N=>aF dm (aq E (aJ ((hE k (by omega) i k (by omega) (by omega)).sm (by omega))) (aq E (aJ ((hE k (by omega) j k (by omega) (by omega)).sm (by omega))) ax)) (dl (uE (matF (tabZ n F)) k i k) (uE (matF (tabZ n F)) k j k))) (J E (fun N=>aF fn161 (aq E (aJ (((hE k (by omega) k k (by omega) (by omega)).mul (hE k (by omega) i j (by omega) (by omega))).sm (by omega))) (aq E (aJ (((hE k (by omega) i k (by omega) (by omega)).mul (hE k (by omega) j k (by omega) (by omega))).sm (by omega))) ax)) (eP ((uD (matF (tabZ n F)) (k+1))*(uE (matF (tabZ n F)) k i j)) ((uE (matF (tabZ n F)) k i k)*(uE (matF (tabZ n F)) k j k)))) oz))))))))))))))))))<|fun σ1=>?_
     refine aG .n (aD (l:=kC) (u:=((uD (matF (tabZ n F)) (k+1))*(uE (matF (tabZ n F)) k i j))-((uE (matF (tabZ n F)) k i k)*(uE (matF (tabZ n F)) k j k))) 0 E E E ab E Lr)<|Wn ?_
     refine ba (Γ:=[.fr (kC.is (((uD (matF (tabZ n F)) (k+1))*(uE (matF (tabZ n F)) k i j))-((uE (matF (tabZ n F)) k i k)*(uE (matF (tabZ n F)) k j k)))),.fr (VP.pt b3 0),.fr (VP.ex vE),.fr (kN6.is (k:Int)),.fr (VP.pel vE (k*2)),.fr (kC.is (uD (matF (tabZ n F)) k)),.fr (VP.tup [kC.is ((((uD (matF (tabZ n F)) (k+1))*(uE (matF (tabZ n F)) k i j))-((uE (matF (tabZ n F)) k i k)*(uE (matF (tabZ n F)) k j k))).fdiv (uD (matF (tabZ n F)) k)),kC.is ((((uD (matF (tabZ n F)) (k+1))*(uE (matF (tabZ n F)) k i j))-((uE (matF (tabZ n F)) k i k)*(uE (matF (tabZ n F)) k j k))).fmod (uD (matF (tabZ n F)) k))]),.fr (VP.tup [kC.is ((((uD (matF (tabZ n F)) (k+1))*(uE (matF (tabZ n F)) k i j))-((uE (matF (tabZ n F)) k i k)*(uE (matF (tabZ n F)) k j k))).fdiv (uD (matF (tabZ n F)) k)),kC.is ((((uD (matF (tabZ n F)) (k+1))*(uE (matF (tabZ n F)) k i j))-((uE (matF (tabZ n F)) k i k)*(uE (matF (tabZ n F)) k j k))).fmod (uD (matF (tabZ n F)) k))]),.fr (kC.is ((((uD (matF (tabZ n F)) (k+1))*(uE (matF (tabZ n F)) k i j))-((uE (matF (tabZ n F)) k i k)*(uE (matF (tabZ n F)) k j k))).fdiv (uD (matF (tabZ n F)) k))),.lt (kC.is ((((uD (matF (tabZ n F)) (k+1))*(uE (matF (tabZ n F)) k i j))-((uE (matF (tabZ n F)) k i k)*(uE (matF (tabZ n F)) k j k))).fmod (uD (matF (tabZ n F)) k)))]) (J E (fun N=>ae E (mN N 0 E) Li ab E) (J E (fun N=>aM E cE E) (J E (fun N=>aV (ae (p:=kVal.is vE) E (mN N 3 E) (aU Li) aE E) (bm _)) (om E E (J E (fun N=>aY (k:=kC) (xs:=(gDs (matF (tabZ n F)) i)) (n:=(k:Int)) k E E (mN N 4 E) U23 ab E (by simp only [gRow_len,gDs_len,gLs_len];omega)) (J E (fun N=>bd (k:=kC) (xs:=(gDs (matF (tabZ n F)) i)) k E (mN N 4 E) Li (ho:=E) (y:=(uD (matF (tabZ n F)) k)) (dd (by omega)) ab E) (J E (fun N=>aF fn162 (aq E (aJ ((((hE k (by omega) k k (by omega) (by omega)).mul (hE k (by omega) i j (by omega) (by omega))).sub ((hE k (by omega) i k (by omega) (by omega)).mul (hE k (by omega) j k (by omega) (by omega)))).sm (by omega))) (aq E (aJ ((hD k (by omega)).sm (by omega))) ax)) (fo (((uD (matF (tabZ n F)) (k+1))*(uE (matF (tabZ n F)) k i j))-((uE (matF (tabZ n F)) k i k)*(uE (matF (tabZ n F)) k j k))) (uD (matF (tabZ n F)) k) (by have:=hDp k (by omega);omega))) (om E E (J E (fun N=>aH E E) (oc (cV E .n (dv E E)) oz))))))))))<|fun σ2=>?_
     refine aG .n (aD (l:=kC) (u:=(((uD (matF (tabZ n F)) (k+1))*(uE (matF (tabZ n F)) k i j))-((uE (matF (tabZ n F)) k i k)*(uE (matF (tabZ n F)) k j k))).fdiv (uD (matF (tabZ n F)) k)) 0 E E E ab E Lr)<|aj<|Qb<|ah<|Wm E<|Ws (aI E E (c:=((k:Int)+1)) (ay (by omega)))<|Wa E<|aj<|tb 0 E (y:=(uE (matF (tabZ n F)) (k+1) i j)) (uE_succ _ k i j).symm ?_
     exact bP (k+1) p (by omega) (by omega) (af E E E E (Z E (Z E (Z E (ao E (ag (y:=(((k+1):Nat):Int)) (by rfl)) ai)))))<|aW<|OS.keepLe (eW (by exact (hE (k+1) (by omega) i j (by omega) (by omega)).sm (by have:=hU (k+1) (by omega);omega)) (by rfl))<|OS.keep<|OS.keep<|OS.keep<|OS.keep<|OS.keep OS.nil
    ·
     refine Ck<|aa ?_
     refine ba (Γ:=[.fr (VP.pt b3 0),.fr (VP.ex vE),.fr (kN6.is (k:Int)),.fr (kN6.is ((k:Int)+1)),.fr (VP.pel vE ((((k:Int)+1)).toNat*2)),.fr (kC.is (uD (matF (tabZ n F)) (k+1))),.fr (kZ.is (uE (matF (tabZ n F)) k i j)),.fr (kC.is ((uD (matF (tabZ n F)) (k+1))*(uE (matF (tabZ n F)) k i j))),.fr (VP.ex v),.fr (kN6.is (k:Int)),.fr (VP.pel v (k*2)),.fr (kC.is (uE (matF (tabZ n F)) k i k)),.fr (VP.ex v),.fr (kN6.is (k:Int)),.fr (VP.pel v (k*2)),.fr (kC.is (uE (matF (tabZ n F)) k j k)),.fr (kC.is ((uE (matF (tabZ n F)) k i k)*(uE (matF (tabZ n F)) k j k))),.fr (kC.is (((uD (matF (tabZ n F)) (k+1))*(uE (matF (tabZ n F)) k i j))-((uE (matF (tabZ n F)) k i k)*(uE (matF (tabZ n F)) k j k))))]) (J E (fun N=>aM E cE E) (J E (fun N=>aV (ae (p:=kVal.is vE) E (mN N 3 E) (aU Li) aE E) (bm _)) (om E E (J E (fun N=>aI E E (c:=((k:Int)+1)) (ay (by omega))) (J E (fun N=>aY (k:=kC) (xs:=(gDs (matF (tabZ n F)) i)) (n:=((k:Int)+1)) ((((k:Int)+1)).toNat) E E (mN N 4 E) U23 ab (by omega) (by simp only [gRow_len,gDs_len,gLs_len];omega)) (J E (fun N=>bd (k:=kC) (xs:=(gDs (matF (tabZ n F)) i)) ((((k:Int)+1)).toNat) E (mN N 4 E) Li (ho:=E) (y:=(uD (matF (tabZ n F)) (k+1))) (dd (by omega)) ab E) (J E (fun N=>ae E (mN N 0 E) Li ab E) (J E (fun N=>aF dm (aq E (aJ ((hE k (by omega) k k (by omega) (by omega)).sm (by omega))) (aX E ax)) (dl (uD (matF (tabZ n F)) (k+1)) (uE (matF (tabZ n F)) k i j))) (om E E (om E E (J E (fun N=>aY (k:=kC) (xs:=(gRow (matF (tabZ n F)) i j)) (n:=(k:Int)) k E E (mN N 1 E) U23 ab E (by simp only [gRow_len,gDs_len,gLs_len];omega)) (J E (fun N=>bd (k:=kC) (xs:=(gRow (matF (tabZ n F)) i j)) k E (mN N 1 E) Li (ho:=E) (y:=(uE (matF (tabZ n F)) k i k)) (eH (by omega)) ab E) (om E E (om E E (J E (fun N=>aY (k:=kC) (xs:=(gRow (matF (tabZ n F)) i j)) (n:=(k:Int)) k E E (mN N 1 E) U23 ab E (by simp only [gRow_len,gDs_len,gLs_len];omega)) (J E (fun N=>bd (k:=kC) (xs:=(gRow (matF (tabZ n F)) i j)) k E (mN N 1 E) Li (ho:=E) (y:=(uE (matF (tabZ n F)) k j k)) (by rw [show j=i by omega];exact gRow_at (by omega)) ab E) (J E (fun N=>aF dm (aq E (aJ ((hE k (by omega) i k (by omega) (by omega)).sm (by omega))) (aq E (aJ ((hE k (by omega) j k (by omega) (by omega)).sm (by omega))) ax)) (dl (uE (matF (tabZ n F)) k i k) (uE (matF (tabZ n F)) k j k))) (J E (fun N=>aF fn161 (aq E (aJ (((hE k (by omega) k k (by omega) (by omega)).mul (hE k (by omega) i j (by omega) (by omega))).sm (by omega))) (aq E (aJ (((hE k (by omega) i k (by omega) (by omega)).mul (hE k (by omega) j k (by omega) (by omega))).sm (by omega))) ax)) (eP ((uD (matF (tabZ n F)) (k+1))*(uE (matF (tabZ n F)) k i j)) ((uE (matF (tabZ n F)) k i k)*(uE (matF (tabZ n F)) k j k)))) oz))))))))))))))))))<|fun σ3=>?_
     refine aG .n (aD (l:=kC) (u:=((uD (matF (tabZ n F)) (k+1))*(uE (matF (tabZ n F)) k i j))-((uE (matF (tabZ n F)) k i k)*(uE (matF (tabZ n F)) k j k))) 0 E E E ab E Lr)<|Wn ?_
     refine ba (Γ:=[.fr (kC.is (((uD (matF (tabZ n F)) (k+1))*(uE (matF (tabZ n F)) k i j))-((uE (matF (tabZ n F)) k i k)*(uE (matF (tabZ n F)) k j k)))),.fr (VP.pt b3 0),.fr (VP.ex vE),.fr (kN6.is (k:Int)),.fr (VP.pel vE (k*2)),.fr (kC.is (uD (matF (tabZ n F)) k)),.fr (VP.tup [kC.is ((((uD (matF (tabZ n F)) (k+1))*(uE (matF (tabZ n F)) k i j))-((uE (matF (tabZ n F)) k i k)*(uE (matF (tabZ n F)) k j k))).fdiv (uD (matF (tabZ n F)) k)),kC.is ((((uD (matF (tabZ n F)) (k+1))*(uE (matF (tabZ n F)) k i j))-((uE (matF (tabZ n F)) k i k)*(uE (matF (tabZ n F)) k j k))).fmod (uD (matF (tabZ n F)) k))]),.fr (VP.tup [kC.is ((((uD (matF (tabZ n F)) (k+1))*(uE (matF (tabZ n F)) k i j))-((uE (matF (tabZ n F)) k i k)*(uE (matF (tabZ n F)) k j k))).fdiv (uD (matF (tabZ n F)) k)),kC.is ((((uD (matF (tabZ n F)) (k+1))*(uE (matF (tabZ n F)) k i j))-((uE (matF (tabZ n F)) k i k)*(uE (matF (tabZ n F)) k j k))).fmod (uD (matF (tabZ n F)) k))]),.fr (kC.is ((((uD (matF (tabZ n F)) (k+1))*(uE (matF (tabZ n F)) k i j))-((uE (matF (tabZ n F)) k i k)*(uE (matF (tabZ n F)) k j k))).fdiv (uD (matF (tabZ n F)) k))),.lt (kC.is ((((uD (matF (tabZ n F)) (k+1))*(uE (matF (tabZ n F)) k i j))-((uE (matF (tabZ n F)) k i k)*(uE (matF (tabZ n F)) k j k))).fmod (uD (matF (tabZ n F)) k)))]) (J E (fun N=>ae E (mN N 0 E) Li ab E) (J E (fun N=>aM E cE E) (J E (fun N=>aV (ae (p:=kVal.is vE) E (mN N 3 E) (aU Li) aE E) (bm _)) (om E E (J E (fun N=>aY (k:=kC) (xs:=(gDs (matF (tabZ n F)) i)) (n:=(k:Int)) k E E (mN N 4 E) U23 ab E (by simp only [gRow_len,gDs_len,gLs_len];omega)) (J E (fun N=>bd (k:=kC) (xs:=(gDs (matF (tabZ n F)) i)) k E (mN N 4 E) Li (ho:=E) (y:=(uD (matF (tabZ n F)) k)) (dd (by omega)) ab E) (J E (fun N=>aF fn162 (aq E (aJ ((((hE k (by omega) k k (by omega) (by omega)).mul (hE k (by omega) i j (by omega) (by omega))).sub ((hE k (by omega) i k (by omega) (by omega)).mul (hE k (by omega) j k (by omega) (by omega)))).sm (by omega))) (aq E (aJ ((hD k (by omega)).sm (by omega))) ax)) (fo (((uD (matF (tabZ n F)) (k+1))*(uE (matF (tabZ n F)) k i j))-((uE (matF (tabZ n F)) k i k)*(uE (matF (tabZ n F)) k j k))) (uD (matF (tabZ n F)) k) (by have:=hDp k (by omega);omega))) (om E E (J E (fun N=>aH E E) (oc (cV E .n (dv E E)) oz))))))))))<|fun σ4=>?_
     refine aG .n (aD (l:=kC) (u:=(((uD (matF (tabZ n F)) (k+1))*(uE (matF (tabZ n F)) k i j))-((uE (matF (tabZ n F)) k i k)*(uE (matF (tabZ n F)) k j k))).fdiv (uD (matF (tabZ n F)) k)) 0 E E E ab E Lr)<|aj<|Qb<|ah<|Wm E<|Ws (aI E E (c:=((k:Int)+1)) (ay (by omega)))<|Wa E<|aj<|tb 0 E (y:=(uE (matF (tabZ n F)) (k+1) i j)) (uE_succ _ k i j).symm ?_
     exact bP (k+1) p (by omega) (by omega) (af E E E E (Z E (Z E (Z E (ao E (ag (y:=(((k+1):Nat):Int)) (by rfl)) ai)))))<|aW<|OS.keepLe (eW (by exact (hE (k+1) (by omega) i j (by omega) (by omega)).sm (by have:=hU (k+1) (by omega);omega)) (by rfl))<|OS.keep<|OS.keep<|OS.keep<|OS.keep<|OS.keep OS.nil
   ·
    refine Ex<|Cr<|Wm E<|Wm E<|Ws (aS E E)<|Wn ?_
    refine aB E (fun h_t75=>?_)<|fun h_t75=>?_
    ·
     refine ah<|Wm E<|Ws (ae E (ac 0 E) Li ab E)<|Ws (f1 fn113 E (eh (uE (matF (tabZ n F)) k i j)))<|Ws (bC U23 bo (b9 E bw) E (by decide))<|bL 1 .n E E E Lr U23 bo (by simp only [gRow_len,gDs_len,gLs_len,List.length_cons,List.length_nil];omega) fun v5=>Wa E<|aj<|Qb<|ah<|Wm E<|Ws (aI E E (c:=((j:Int)+1)) (ay (by omega)))<|Wa E<|aj<|tr 1 E (y:=(gRow (matF (tabZ n F)) i (min (j+1) i))) (by rw [show k=j by omega,gRow_app,Nat.min_eq_left (by omega)])<|tr 4 E (y:=(gDs (matF (tabZ n F)) (dI i (j+1)))) (by rw [dI_le (by omega)]) ?_
     exact cM (j+1) v5 vE (by omega) (by omega) (af E E E E (Z E (ao E (ag (y:=(((j+1):Nat):Int)) (by rfl)) ai)))<|aW<|OS.skip<|OS.keep<|OS.keep<|OS.keep<|OS.keep<|OS.keep OS.nil
    ·
     refine ba (Γ:=[.fr (VP.pt b3 0),.fr (VP.ex vE),.fr (kZ.is (uE (matF (tabZ n F)) k i j)),.fr (kC.is (uE (matF (tabZ n F)) k i j)),.fr (kVC.is [(uE (matF (tabZ n F)) k i j)])]) (J E (fun N=>aM E cE E) (J E (fun N=>aV (ae (p:=kVal.is vE) E (mN N 3 E) (aU Li) aE E) (bm _)) (J E (fun N=>ae E (mN N 0 E) Li ab E) (J E (fun N=>f1 fn113 E (eh (uE (matF (tabZ n F)) k i j))) (J E (fun N=>bC U23 bo (b9 E bw) E (by decide)) oz)))))<|fun σ5=>?_
     refine bL 4 .n E E E Lr U23 bo (by simp only [gRow_len,gDs_len,gLs_len,List.length_cons,List.length_nil];omega) fun v6=>Ws (aM E cE E)<|bn 4 E fun hcell_=>aG .n (O.st 3 E E (aU Li) aE E (bf (by assumption)))<|aj<|Qb<|ah<|Wm E<|Ws (aI E E (c:=((j:Int)+1)) (ay (by omega)))<|Wa E<|aj<|tr 1 E (y:=(gRow (matF (tabZ n F)) i (min (j+1) i))) (by rw [show j=i by omega,Nat.min_eq_right (by omega)])<|tr 4 E (y:=(gDs (matF (tabZ n F)) (dI i (j+1)))) (by rw [show k=i by omega,show j=i by omega,gDs_app];unfold dI;rw [if_neg (by omega)]) ?_
     exact cM (j+1) v v6 (by omega) (by omega) (af E E E E (Z E (ao E (ag (y:=(((j+1):Nat):Int)) (by rfl)) ai)))<|aW<|OS.skip<|OS.keep<|OS.keep<|OS.keep<|OS.keep<|OS.keep OS.nil
  ·
   refine Ex<|tr 0 E (y:=(gRow (matF (tabZ n F)) i i)) (by rw [Nat.min_eq_right (by omega)])<|bJ 0 E (kp 0 E (kp 2 E (kp 3 E (kp 4 E (.hit (i:=5) E (kp 6 E (kp 19 E (kp 20 E (kp 21 E .nil)))))))))<|tr 2 E (y:=(gDs (matF (tabZ n F)) (i+1))) (by unfold dI;rw [if_neg (by omega)])<|ah<|Ws (aM E cB E)<|Ws (aV (ae (p:=kVal.is vL) E (ac 1 E) (aN Li) bT E) (bm _))<|Wm E<|Ws (bC U22 c9 (b9 E bw) E (by decide))<|bL 0 .n E E E Lr U22 c9 (by simp only [gRow_len,gDs_len,gLs_len,List.length_cons,List.length_nil];omega) fun v7=>Ws (aM E cB E)<|bn 0 E fun hcell_=>aG .n (O.st 1 E E (aN Li) bT E (bf (by assumption)))<|aj<|Qb<|ah<|Wm E<|Ws (aI E E (c:=((i:Int)+1)) (ay (by omega)))<|Wa E ?_
   refine aj<|tr 0 E (y:=(gLs (matF (tabZ n F)) (i+1))) (gLs_app (matF (tabZ n F)) i) ?_
   exact cM (i+1) vE v7 (by omega) (by omega) (Z E (Z E (Z E (ao E (ag (y:=(((i+1):Nat):Int)) (by rfl)) ai))))<|au _
 ·
  refine Ex<|aa<|ew (k2:=(kPair kVC kVal)) ((gDs (matF (tabZ n F)) i),vL) 2 1 E E (fun m_ cs_ h_ c_=>fz_fst m_ cs_ h_ c_) (kp 0 E (kp 2 E (kp 3 E (kp 4 E (kp 13 E (kp 14 E (kp 15 E (kp 16 E .nil))))))))<|ew (k2:=kGso) ((gDs (matF (tabZ n F)) i),(gLs (matF (tabZ n F)) i)) 0 0 E E (fun m_ cs_ h_ c_=>fz_snd m_ cs_ h_ c_) (kp 0 E (kp 2 E (kp 3 E (kp 4 E (kp 13 E (kp 14 E (kp 15 E (kp 16 E .nil))))))))<|ah<|Ws (ae (p:=kGso.is ((gDs (matF (tabZ n F)) i),(gLs (matF (tabZ n F)) i))) E (ac 0 E) Li bi E)<|aG .n (aD (l:=kGso) (u:=((gDs (matF (tabZ n F)) i),(gLs (matF (tabZ n F)) i))) 1 E E E bi E Lr)<|Wn<|am<|tb 1 E (y:=(gDs F n,gLs F n)) (by rw [show i=(tabZ n F).length by omega,hln,tab_gDs,tab_gLs]) ?_
  exact Qd E (dE E (ac 1 E) bi (ag (y:=(gDs (F) n,gLs (F) n)) (by rfl)) ak) ⟨E,E⟩
theorem c_ref22_holds (G:Nat→Nat→Int) (n B:Nat) (p:Nat) (hp1:p+1<n) (hs:SymG G) (hP:PosU G n) (h12:n≤12) (hD:∀k,k≤n→Sz B (uD G k)) (hL:∀x k,x<n→k<x→Sz B (uE G k x k)) (hB8:B≤4294967296):Fn Tryz.prog 96 [kGso.is (gDs (G) n,gLs (G) n),kN6.is ((p:Int)+1)] (kBool.is (decide (lov G (p+1)))):=by
 refine aK Tryz.func96 E E fun m w=>?_
 have rM:RZ B (frM G (p+1) p):=RZ.of (uD_ne hP (by omega)) (frM_rmk hs hP (by omega) hp1) (hL _ _ hp1 (by omega)) (hD _ (by omega))
 have rS:∀l,l<n→RZ B (frS G l):=fun l hl=>RZ.of (uD_ne hP (by omega)) (frS_rmk hs hP hl) (hD _ (by omega)) (hD _ (by omega))
 have rQ:RZ 3 (3/4:Rat):=RZ.of (n:=3) (d:=4) (by decide) (by decide +kernel) (show (3:Int).natAbs<2^3 by decide) (show (4:Int).natAbs<2^3 by decide)
 have r1:=rS p (by omega)
 have r2:=rS (p+1) hp1
 have r3:=(rM.mul rM)
 have r4:=(r3.mul r1)
 have r5:=(r2.up (show B≤B+B+B by omega)).add r4
 have r6:=rQ.mul r1
 refine Cr<|a6 .n E fun b1=>Wa E<|Wr<|Ws (ae (p:=kGso.is (gDs (G) n,gLs (G) n)) E (ac 0 E) Li bi E)<|Wm E<|Wm E<|Ws (bq E E (c:=(p:Int)) (ay (by omega)))<|Ws (aF fn91 (aX E (aq E (ag (y:=(((p+1):Nat):Int)) (by rfl)) (aX E ax))) (c_ref05_Muq G n B (p+1) p (by assumption) (by assumption) (by omega) (by assumption) (by assumption) (by assumption) (by assumption) (by omega)))<|Ax (l:=kRC) (u:=rq (frM G (p+1) p)) bU E aL (fun _=>E) Lr fun b2=>Wn<|aa ?_
 refine ba (Γ:=[.fr (kGso.is (gDs (G) n,gLs (G) n)),.fr (kN6.is ((p:Int)+1)),.fr (kN6.is (p:Int)),.fr (kRC.is (rq (frS G p))),.fr (kGso.is (gDs (G) n,gLs (G) n)),.fr (kN6.is ((p:Int)+1)),.fr (kRC.is (rq (frS G (p+1)))),.al (fun b=>OB.box b 31 kRC (0,0)),.al (fun b=>OB.box b 31 kRC (0,0))]) (J E (fun N=>ae (p:=kGso.is (gDs (G) n,gLs (G) n)) E (mN N 1 E) Li bi E) (om E E (J E (fun N=>bq E E (c:=(p:Int)) (ay (by omega))) (J E (fun N=>f2 fn75 E E (c_ref05_Star G n B p (by assumption) (by assumption) (by omega) (by assumption) (by assumption) (by omega))) (J E (fun N=>ae (p:=kGso.is (gDs (G) n,gLs (G) n)) E (mN N 1 E) Li bi E) (om E E (J E (fun N=>aF fn75 (aX E (aq E (ag (y:=(((p+1):Nat):Int)) (by rfl)) ax)) (c_ref05_Star G n B (p+1) (by assumption) (by assumption) (by assumption) (by assumption) (by assumption) (by omega))) (oc (dA E bU) (oc (dA E bU) oz)))))))))<|fun σ1=>?_
 refine aG .n (aD (l:=kRC) (u:=rq (frS G p)) 0 E E E aL E Lr)<|aG .n (aD (l:=kRC) (u:=rq (frS G (p+1))) 1 E E E aL E Lr)<|Wn<|aa ?_
 refine ba (Γ:=[.fr (kC.is 3),.fr (kC.is 4),.fr (kRC.is (rq (3/4:Rat))),.fr (kRC.is (rq (frS G p))),.fr (kRC.is (rq ((3/4:Rat)*(frS G p)))),.al (fun b=>OB.box b 31 kRC (0,0))]) (J E (fun N=>aF dj (aq E (cD (by omega)) ax) (dh 3)) (J E (fun N=>aF dj (aq E (cD (by omega)) ax) (dh 4)) (J E (fun N=>aV (aF fn138 (aq E (aJ (by exact Sm_lit (by decide))) (aq E (aJ (by exact Sm_lit (by decide))) ax)) (eg 3 4 (by decide))) (ag (by decide +kernel))) (J E (fun N=>ae E (mN N 0 E) Li aL E) (J E (fun N=>f2 fn104 E E (ei (B+3) (3/4:Rat) (frS G p) (rQ.up (by omega)) (r1.up (by omega)) (by omega))) (oc (dA E bU) oz))))))<|fun σ2=>?_
 refine aG .n (aD (l:=kRC) (u:=rq ((3/4:Rat)*(frS G p))) 0 E E E aL E Lr)<|Wn<|aa ?_
 refine ba (Γ:=[.fr (kRC.is (rq ((3/4:Rat)*(frS G p)))),.fr (kRC.is (rq (frS G (p+1)))),.fr (kRC.is (rq (frM G (p+1) p))),.fr (kRC.is (rq (frM G (p+1) p))),.fr (kRC.is (rq ((frM G (p+1) p)*(frM G (p+1) p)))),.fr (kRC.is (rq (frS G p))),.fr (kRC.is (rq ((frM G (p+1) p*frM G (p+1) p)*(frS G p)))),.fr (kRC.is (rq ((frS G (p+1))+(frM G (p+1) p*frM G (p+1) p*frS G p)))),.fr (kN6.is ((rq ((3/4*frS G p)-(frS G (p+1)+frM G (p+1) p*frM G (p+1) p*frS G p))).1.sign)),.fr (kBool.is (decide (((rq ((3/4*frS G p)-(frS G (p+1)+frM G (p+1) p*frM G (p+1) p*frS G p))).1.sign)≤0)))]) (J E (fun N=>ae E (mN N 0 E) Li aL E) (J E (fun N=>ae E (mN N 2 E) Li aL E) (J E (fun N=>ae E (mN N 3 E) Li aL E) (J E (fun N=>ae E (mN N 3 E) Li aL E) (J E (fun N=>f2 fn104 E E (ei B (frM G (p+1) p) (frM G (p+1) p) rM rM (by omega))) (J E (fun N=>ae E (mN N 1 E) Li aL E) (J E (fun N=>aF fn104 (aq E (ag (y:=rq (frM G (p+1) p*frM G (p+1) p)) (by rfl)) (aX E ax)) (ei (B+B) (frM G (p+1) p*frM G (p+1) p) (frS G p) r3 (r1.up (by omega)) (by omega))) (J E (fun N=>aF fn74 (aX E (aq E (ag (y:=rq (frM G (p+1) p*frM G (p+1) p*frS G p)) (by rfl)) ax)) (c_ref03_Add (B+B+B) (frS G (p+1)) (frM G (p+1) p*frM G (p+1) p*frS G p) (r2.up (by omega)) r4 (by omega))) (J E (fun N=>aF fn64 (aq E (ag (y:=rq (3/4*frS G p)) (by rfl)) (aq E (ag (y:=rq (frS G (p+1)+frM G (p+1) p*frM G (p+1) p*frS G p)) (by rfl)) ax)) (c_ref03_Cmp (B+B+B+(B+B+B)+1+3) (3/4*frS G p) (frS G (p+1)+frM G (p+1) p*frM G (p+1) p*frS G p) (r6.up (by omega)) (r5.up (by omega)) (by omega))) (J E (fun N=>O.le E E) oz))))))))))<|fun σ3=>?_
 refine Wa E<|Wn<|am<|tl 4 E (y:=(decide (lov G (p+1)))) (decide_eq_decide.2 (rq_cmp0 _ _)) ?_
 exact Qd E (ar E ak) ⟨E,E⟩
theorem c_ref04_Unito (n:Nat) (hn:n≤12):Con Tryz.prog 89 [kN6.is (n:Int)] [] (fun p Lo=>∃(v:Value),p=VP.tup [VP.ex v,kN6.is 0]∧Lo=[OB.row v 23 kVC (unitV n)]∧True):=by
 refine aK Tryz.func89 E E fun m w=>Cr<|Wa E<|Wa E<|Wn<|aa<|Cr<|Wm E<|Ws (aS E E)<|Wn ?_
 refine CN E (by omega) fun h_t9=>?_
 refine Ck<|aa<|Cr<|Wm E<|Ws (cq E E)<|Wn ?_
 refine CN E (by omega) fun h_t11=>?_
 refine Ck<|Cr<|Wa E<|Wn<|aa<|Cr<|Wa E<|Wn<|aw<|ca 23 kVC<|bX (fun (i:Nat) (v:Value)=>i≤n) (fun (i:Nat) (v:Value)=>[(0,kN6.is (n:Int)),(4,VP.ex v),(5,kN6.is (i:Int))]) (fun (i:Nat) (v:Value)=>[OB.row v 23 kVC ((List.range i).map (fun x=>(List.replicate n (0:Int)).set x 1))]) (fun (i:Nat) (v:Value)=>n-i) 0 (.slice none 0 0) (Nat.zero_le _) (Z E (Z E (ao E (ag (y:=(0:Int)) (by rfl)) ai))) (aW (OS.keepLe (a9 (by rfl)) OS.nil)) ?_
 intro i v hi
 refine aa<|Cr<|Wm E<|Wm E<|Ws (aS E E)<|Wn ?_
 refine aB E (fun h_t14=>?_)<|fun h_t14=>?_
 ·
  refine Ck<|aa<|aw<|Cr<|Wa E<|Wn<|aa<|Cr<|Wa E<|Wn<|aw<|ca 29 kC<|bX (fun (k:Nat) (u:Value)=>k≤n) (fun (k:Nat) (u:Value)=>[(0,kN6.is (n:Int)),(4,VP.ex v),(5,kN6.is (i:Int)),(6,VP.ex u),(7,kN6.is (k:Int))]) (fun (k:Nat) (u:Value)=>[OB.row u 29 kC (((List.replicate n (0:Int)).set i 1).take k),OB.row v 23 kVC ((List.range i).map (fun x=>(List.replicate n (0:Int)).set x 1))]) (fun (k:Nat) (u:Value)=>n-k) 0 (.slice none 0 0) (Nat.zero_le _) (af E E E E (ao E (ag (y:=(0:Int)) (by rfl)) ai)) (aW (OS.keepLe (a9 (by rfl)) (OS.keep OS.nil))) ?_
  intro k u hk
  refine aa<|Cr<|Wm E<|Wm E<|Ws (aS E E)<|Wn ?_
  refine aB E (fun h_t19=>?_)<|fun h_t19=>?_
  ·
   refine Ck<|aa<|aw<|Cr<|Wm E<|Wm E<|Ws (bR E E)<|Wn ?_
   refine aB E (fun h_t24=>?_)<|fun h_t24=>?_
   ·
    refine ah<|Wm E<|Ws (aF dj (aq E (cD (by omega)) ax) (dh 1))<|Ws (bC U23 bo (b9 E bw) E (by decide))<|bL 0 .n E E E Lr U23 bo (by simp;omega) fun v1=>Wa E<|aj<|Qb<|ah<|Wm E<|Ws (aI E E (c:=((k:Int)+1)) (ay (by omega)))<|Wa E<|aj<|tr 0 E (y:=(((List.replicate n (0:Int)).set i 1).take (k+1))) (fj (unit_1 (by omega) (by omega))) ?_
    exact bP (k+1) v1 (by omega) (by omega) (af E E E E (ao E (ag (y:=(((k+1):Nat):Int)) (by rfl)) ai))<|au _
   ·
    refine ah<|Wm E<|Ws (aF dj (aq E (cD (by omega)) ax) (dh 0))<|Ws (bC U23 bo (b9 E bw) E (by decide))<|bL 0 .n E E E Lr U23 bo (by simp;omega) fun v2=>Wa E<|aj<|Qb<|ah<|Wm E<|Ws (aI E E (c:=((k:Int)+1)) (ay (by omega)))<|Wa E<|aj<|tr 0 E (y:=(((List.replicate n (0:Int)).set i 1).take (k+1))) (fj (unit_0 (by omega) (by omega))) ?_
    exact bP (k+1) v2 (by omega) (by omega) (af E E E E (ao E (ag (y:=(((k+1):Nat):Int)) (by rfl)) ai))<|au _
  ·
   refine Ex<|tr 0 E (y:=((List.replicate n (0:Int)).set i 1)) (List.take_of_length_le (by simp;omega))<|bJ 0 E (kp 0 E (kp 4 E (kp 5 E (.hit (i:=6) E (kp 7 E (kp 17 E (kp 18 E (kp 19 E .nil))))))))<|ah<|Wm E<|Wm E<|Ws (bC U22 c9 (b9 E bw) E (by decide))<|bL 0 .n E E E Lr U22 c9 (by simp;omega) fun v3=>Wa E<|aj<|Qb<|ah<|Wm E<|Ws (aI E E (c:=((i:Int)+1)) (ay (by omega)))<|Wa E<|aj<|tr 0 E (y:=((List.range (i+1)).map (fun x=>(List.replicate n (0:Int)).set x 1))) (eB (fun x=>(List.replicate n (0:Int)).set x 1) i) ?_
   exact bP (i+1) v3 (by omega) (by omega) (Z E (Z E (ao E (ag (y:=(((i+1):Nat):Int)) (by rfl)) ai)))<|au _
 ·
  refine Ex<|aa<|tr 0 E (y:=(unitV n)) (by rw [show i=n by omega];rfl)<|ah<|Wm E<|Wa E<|Wa E<|Wn<|am ?_
  exact ct (.inl E) E (ar E (ar E ak)) (au _) ⟨v,E,E,trivial⟩
theorem c_ref04_Times (q:Int) (v:List Int):Fn Tryz.prog 95 [kZ.is q,kVZ.is v] (kVC.is (v.map (fun x=>q*x))):=by
 refine aK Tryz.func95 E E fun m w=>aR (i:=1) E bu fun hB1=>Cr<|a6 .n E fun b1=>Wa E<|Wr<|Wa E<|Wn<|aa<|Cr<|Wa E<|Wn<|aw<|ca 29 kC<|bX (fun (i:Nat) (r:Value)=>i≤v.length) (fun (i:Nat) (r:Value)=>[(1,kVZ.is v),(2,VP.pt b1 0),(5,VP.ex r),(6,kN6.is (i:Int))]) (fun (i:Nat) (r:Value)=>[OB.row r 29 kC ((v.take i).map (fun x=>q*x)),OB.box b1 29 kZ q]) (fun (i:Nat) (r:Value)=>v.length-i) 0 (.slice none 0 0) (Nat.zero_le _) (Z E (Z E (Z E (ao E (ag (y:=(0:Int)) (by rfl)) ai)))) (aW (OS.keepLe (a9 (by rfl)) (OS.keep OS.nil))) ?_
 intro i r hi
 refine aa<|Cr<|Wm E<|Wm E<|Ws (aA E U23)<|Ws (aS E E)<|Wn ?_
 refine aB E (fun h_t10=>?_)<|fun h_t10=>?_
 ·
  refine Ck<|aa<|aw ?_
  refine ba (Γ:=[.fr (VP.ex r),.fr (kZ.is q),.fr (kVZ.is v),.fr (kN6.is (i:Int)),.fr (VP.pim kZ (v.getD i 0)),.fr (kZ.is (v.getD i 0)),.fr (kC.is (q*(v.getD i 0))),.fr (kVC.is [q*(v.getD i 0)])]) (om E E (J E (fun N=>ae E (mN N 1 E) Li ab E) (om E E (om E E (J E (fun N=>aT i E E U23 ab E (v:=(v.getD i 0)) (gd 0 (by omega))) (J E (fun N=>aO E ab) (J E (fun N=>f2 dm E E (dl q (v.getD i 0))) (J E (fun N=>bC U23 bo (b9 E bw) E (by decide)) oz))))))))<|fun σ1=>?_
  refine bL 0 .n E E E Lr U23 bo (by simp;omega) fun v2=>Wa E<|aj<|Qb<|ah<|Wm E<|Ws (aI E E (c:=((i:Int)+1)) (ay (by omega)))<|Wa E<|aj<|tr 0 E (y:=((v.take (i+1)).map (fun x=>q*x))) (eM (d:=0) (F:=fun x=>q*x) (by omega))<|bD (bI [0,1] (by decide) E) ?_
  exact bP (i+1) v2 (by omega) (by omega) (Z E (Z E (Z E (ao E (ag (y:=(((i+1):Nat):Int)) (by rfl)) ai))))<|au _
 ·
  refine Ex<|aa<|tr 0 E (y:=(v.map (fun x=>q*x))) (by rw [List.take_of_length_le (by omega)])<|ah<|Wm E<|Wa E<|Wn<|am<|bJ 0 E (kp 1 E (kp 2 E (.hit (i:=4) E (.hit (i:=5) E (kp 6 E (kp 7 E (kp 8 E (kp 9 E (kp 10 E (.hit (i:=22) E .nil)))))))))) ?_
  exact Qd E (ar E ak) ⟨E,E⟩
theorem c_ref04_Plus (u v:List Int) (huv:u.length=v.length):Fn Tryz.prog 164 [kVZ.is u,kVZ.is v] (VP.tup [kVC.is (pairV (fun x y=>x+y) u v),kN6.is 0]):=by
 refine aK Tryz.func164 E E fun m w=>aR (i:=0) E bu fun hB0=>Cr<|Wa E<|Wa E<|Wn<|aa<|Cr<|Wm E<|Ws (aA E U23)<|Wm E<|Ws (aA E U23)<|Ws (bt E E)<|Wn ?_
 refine CN E (by omega) fun h_t12=>?_
 refine Ck<|Cr<|Wa E<|Wn<|aa<|Cr<|Wa E<|Wn<|aw<|ca 29 kC<|bX (fun (i:Nat) (r:Value)=>i≤u.length) (fun (i:Nat) (r:Value)=>[(0,kVZ.is u),(1,kVZ.is v),(6,VP.ex r),(7,kN6.is (i:Int))]) (fun (i:Nat) (r:Value)=>[OB.row r 29 kC ((List.range i).map (fun l=>u.getD l 0+v.getD l 0))]) (fun (i:Nat) (r:Value)=>u.length-i) 0 (.slice none 0 0) (Nat.zero_le _) (Z E (Z E (Z E (ao E (ag (y:=(0:Int)) (by rfl)) ai)))) (aW (OS.keepLe (a9 (by rfl)) OS.nil)) ?_
 intro i r hi
 refine aa<|Cr<|Wm E<|Wm E<|Ws (aA E U23)<|Ws (aS E E)<|Wn ?_
 refine aB E (fun h_t16=>?_)<|fun h_t16=>?_
 ·
  refine Ck<|aa<|aw ?_
  refine ba (Γ:=[.fr (VP.ex r),.fr (kVZ.is u),.fr (kN6.is (i:Int)),.fr (VP.pim kZ (u.getD i 0)),.fr (kZ.is (u.getD i 0)),.fr (kVZ.is v),.fr (kN6.is (i:Int)),.fr (VP.pim kZ (v.getD i 0)),.fr (kZ.is (v.getD i 0)),.fr (kC.is ((u.getD i 0)+(v.getD i 0))),.fr (kVC.is [(u.getD i 0)+(v.getD i 0)])]) (om E E (om E E (om E E (J E (fun N=>aT i E E U23 ab E (v:=(u.getD i 0)) (gd 0 (by omega))) (J E (fun N=>aO E ab) (om E E (om E E (J E (fun N=>aT i E E U23 ab E (v:=(v.getD i 0)) (gd 0 (by omega))) (J E (fun N=>aO E ab) (J E (fun N=>f2 fn127 E E (eu (u.getD i 0) (v.getD i 0))) (J E (fun N=>bC U23 bo (b9 E bw) E (by decide)) oz)))))))))))<|fun σ1=>?_
  refine bL 0 .n E E E Lr U23 bo (by simp;omega) fun v1=>Wa E<|aj<|Qb<|ah<|Wm E<|Ws (aI E E (c:=((i:Int)+1)) (ay (by omega)))<|Wa E<|aj<|tr 0 E (y:=((List.range (i+1)).map (fun l=>u.getD l 0+v.getD l 0))) (eB (fun l=>u.getD l 0+v.getD l 0) i) ?_
  exact bP (i+1) v1 (by omega) (by omega) (Z E (Z E (Z E (ao E (ag (y:=(((i+1):Nat):Int)) (by rfl)) ai))))<|au _
 ·
  refine Ex<|aa<|tr 0 E (y:=(pairV (fun x y=>x+y) u v)) (by rw [show i=u.length by omega];rfl)<|ah<|Wm E<|Wa E<|Wa E<|Wn<|am<|bJ 0 E (kp 0 E (kp 1 E (.hit (i:=4) E (kp 5 E (.hit (i:=6) E (kp 7 E (kp 13 E (kp 14 E (kp 15 E (kp 16 E (.hit (i:=31) E .nil))))))))))) ?_
  exact Qd E (ar E (ar E ak)) ⟨E,E⟩
theorem c_ref04_Minus (n:Nat) (q:Int) (u v:List Int) (huv:u.length=v.length) (hq:Sz n q) (hv:SzL n v) (hn:n≤4294967400):Fn Tryz.prog 94 [kVZ.is u,kVC.is (v.map (fun x=>q*x))] (VP.tup [kVC.is (pairV (fun x y=>x+y) u (v.map (fun x=>-q*x))),kN6.is 0]):=by
 refine aK Tryz.func94 E E fun m w=>?_
 have hm1:Sz 1 (-1):=by show (-1:Int).natAbs<2^1;decide
 refine Cr<|Wa E<|Wa E<|Wr<|Wm E<|Ws (aF dj (aq E (cD (by omega)) ax) (dh (-1)))<|Wm E<|Ws (aF fn95 (aq E (aJ (Sm_lit (by decide))) (aq E (dS ((fi hv hq).sm (by omega))) ax)) (c_ref04_Times (-1) (v.map (fun x=>q*x))))<|Ws (aF fn164 (aX E (aq E (dS ((fi (fi hv hq) hm1).sm (by omega))) ax)) (c_ref04_Plus u ((v.map (fun x=>q*x)).map (fun x=>(-1)*x)) (by rw [List.length_map,List.length_map];exact huv)))<|Ws (aH E E)<|Ws (aH E E)<|Wa E<|Wa E<|Wn<|am<|tl 4 E (y:=(pairV (fun x y=>x+y) u (v.map (fun x=>-q*x)))) (by rw [times_minus]) ?_
 exact Qd E (ar E (ar E ak)) ⟨E,E⟩
set_option maxHeartbeats 2000000 in
theorem c_ref22_Reduce (a:List (List Int)) (M Dm:Int) (nB:Nat) (hq0:0<a.length) (ha:SzM 256 a) (hq:∀i,i<a.length→(a.getD i []).length=a.length) (hs:SymG (matF a)) (hl:a.length≤12) (hP:PosU (matF a) a.length) (hB:LB M Dm nB) (hM:∀x,x<a.length→matF a x x≤M) (hD:∀l,l≤a.length→uD (matF a) l≤Dm):Con Tryz.prog 29 [kMZ.is a] [] (fun p Lo=>∃(U:List (List Int)),p=VP.tup [kMC.is (tabZ a.length (fL a U)),kMC.is U]∧Lo=[]∧CU a.length U∧QR a U a.length):=by
 refine aK Tryz.func29 E E fun m w=>aR (i:=0) E bu fun hB0=>?_
 have hNn:=hB.n
 have haC:CU a.length a:=⟨rfl,hq⟩
 refine Cr<|Wa E<|Wa E<|Wr<|Wm E<|Ws (aA E U22)<|cF (Li:=[]) (L:=[]) .n fn89 (aq E (ag (y:=((a.length:Nat):Int)) (by rfl)) ax) (c_ref04_Unito a.length (by assumption)) fun p_ Lo_ hp_=>?_
 obtain ⟨vU,rfl,rfl,hxU⟩:=hp_
 refine Wm E<|Ws (aH E E)<|Ws (aH E E)<|Wa E<|Wa E<|Wr<|Wa E<|Wn<|aa<|aw<|bX (fun (k:Nat) (U:List (List Int))=>0<k∧k≤a.length∧CU a.length U∧LL (matF a) a.length M Dm (fL a U) k k∧QR a U k) (fun (k:Nat) (U:List (List Int))=>[(0,kMZ.is a),(4,VP.ex vU),(6,kN6.is (k:Int))]) (fun (k:Nat) (U:List (List Int))=>[OB.row vU 23 kVC U]) (fun (k:Nat) (U:List (List Int))=>muL (fL a U) a.length k) 1 (unitV a.length) ⟨by omega,by omega,CU_unit _,by rw [fL_unit hq];exact LL.init hs hP hM hD hB,QR.start a⟩ (Z E (Z E (ao E (ag (y:=(1:Int)) (by rfl)) ai))) (au _) ?_
 intro k U ⟨hk0,hk,hU,hK,hQ⟩
 refine aa<|Cr<|Wm E<|Wm E<|Ws (aA E U22)<|Ws (aS E E)<|Wn ?_
 refine aB E (fun h_t18=>?_)<|fun h_t18=>?_
 ·
  refine Ck<|aw<|aa<|Cr<|Wm E<|Ws (bq E E (c:=((k:Int)-1)) (ay (by omega)))<|Wa E<|Wn<|aw<|bX (fun (c:Nat) (V:List (List Int))=>c≤k∧CU a.length V∧LR (matF a) a.length M Dm (fL a V) k c∧sumD (fL a V) a.length=sumD (fL a U) a.length∧qzs a k c V=qzs a k k U) (fun (c:Nat) (V:List (List Int))=>[(0,kMZ.is a),(4,VP.ex vU),(6,kN6.is (k:Int)),(7,kN6.is ((c:Int)-1))]) (fun (c:Nat) (V:List (List Int))=>[OB.row vU 23 kVC V]) (fun (c:Nat) (V:List (List Int))=>c) k U ⟨Nat.le_refl _,hU,LL.start hK (by omega),E,E⟩ (Z E (Z E (Z E (Z E ai)))) (au _) ?_
  intro c V ⟨hc,hV,hR,hS,hZ⟩
  refine aa<|Cr<|Wm E<|Ws (cR E E)<|Wn ?_
  refine aB E (fun h_t22=>?_)<|fun h_t22=>?_
  ·
   refine Ck<|aa<|aw<|aa<|tl 7 E (y:=((c-1:Nat):Int)) (by omega) ?_
   have hC:=hR.c
   have hdi:=hR.dia hB (show k<a.length by omega) hl
   have hDz:=sz_D hC hB
   have hLz:=sz_L hC hB hdi
   have hqz:=sz_q hC hB hdi (show c-1<k by omega) (by omega)
   have hUl:=sz_Ul hV (sz_U hs hP hl hB hM hD hdi)
   have hFz:∀i j,i<a.length→j<a.length→Sz ((4*nB+8)+(4*nB+8)+300) (fL a V i j):=fun i j h1 h2=>fL_Sz haC hV ha hUl hl h1 h2
   refine ah<|Wm E<|Wm E<|Ws (O.fn1 (b:=OB.row vU 23 kVC V) (ac 0 E) fn93 (aX E (aX E ax)) (fm vU (4*nB+8) a V haC hV hl ha hUl (by omega)))<|Ws (aF fn92 (aq E (dQ ((tab_Sz hFz).sm (by omega))) ax) (c_ref22_Datat a.length ((4*nB+8)+(4*nB+8)+300) (fL a V) hC.s hC.p hl hFz (by omega)))<|Wm E<|Wm E<|Ws (aF fn91 (aX E (aX E (aq E (ag (y:=(((c-1):Nat):Int)) (by rfl)) ax))) (c_ref05_Muq (fL a V) a.length (4*nB+8) k (c-1) hC.s hC.p (by omega) (by omega) hl hDz hLz (by omega)))<|Ws (f1 fn90 E (c_ref03_Near (4*nB+8) (frM (fL a V) k (c-1)) (RZ.of (uD_ne hC.p (by omega)) (frM_rmk hC.s hC.p (by omega) (by omega)) (hLz _ _ (by omega) (by omega)) (hDz _ (by omega))) (by omega)))<|Ax (l:=kC) (u:=nearQ (frM (fL a V) k (c-1))) aZ E ab (fun _=>E) Lr fun b1=>Wr<|Ws (ae E (ac 0 E) Li ab E)<|Ws (aF fn88 (aq E (aJ (hqz.sm (by omega))) ax) (dO (nearQ (frM (fL a V) k (c-1)))))<|Ws (bt E E)<|Wn ?_
   refine aB E (fun h_t35=>?_)<|fun h_t35=>?_
   ·
    refine ba (Γ:=[.fr (VP.ex vU),.fr (kN6.is (k:Int)),.fr (VP.ex vU),.fr (kN6.is (k:Int)),.fr (VP.pel vU (k*1)),.fr (kVC.is (V.getD k [])),.fr (kC.is (nearQ (frM (fL a V) k (c-1)))),.fr (VP.ex vU),.fr (kN6.is ((c-1:Nat):Int)),.fr (VP.pel vU ((c-1)*1)),.fr (kVC.is (V.getD (c-1) [])),.fr (kVC.is ((V.getD (c-1) []).map (fun x=>(nearQ (frM (fL a V) k (c-1)))*x))),.fr (VP.tup [kVC.is (pairV (fun x y=>x+y) (V.getD k []) ((V.getD (c-1) []).map (fun x=>-(nearQ (frM (fL a V) k (c-1)))*x))),kN6.is 0]),.fr (VP.tup [kVC.is (pairV (fun x y=>x+y) (V.getD k []) ((V.getD (c-1) []).map (fun x=>-(nearQ (frM (fL a V) k (c-1)))*x))),kN6.is 0]),.fr (kVC.is (pairV (fun x y=>x+y) (V.getD k []) ((V.getD (c-1) []).map (fun x=>-(nearQ (frM (fL a V) k (c-1)))*x)))),.lt (kN6.is 0),.fr (VP.pel vU (k*1))]) (om E E (om E E (om E E (om E E (J E (fun N=>aY (k:=kVC) (xs:=V) (n:=(k:Int)) k E E (mN N 1 E) U22 aE E (by rw [hV.len];omega)) (J E (fun N=>bd k E (mN N 1 E) Li E (y:=(V.getD k [])) (gd [] (by rw [hV.len];omega)) aE E) (J E (fun N=>ae E (mN N 0 E) Li ab E) (om E E (om E E (J E (fun N=>aY (k:=kVC) (xs:=V) (n:=((c-1:Nat):Int)) (c-1) E E (mN N 1 E) U22 aE (by omega) (by rw [hV.len];omega)) (J E (fun N=>bd (c-1) E (mN N 1 E) Li E (y:=(V.getD (c-1) [])) (gd [] (by rw [hV.len];omega)) aE E) (J E (fun N=>aF fn95 (aq E (aJ (hqz.sm (by omega))) (aq E (dS ((hUl _).sm (by omega))) ax)) (c_ref04_Times (nearQ (frM (fL a V) k (c-1))) (V.getD (c-1) []))) (J E (fun N=>aF fn94 (aq E (dS ((hUl _).sm (by omega))) (aX E ax)) (c_ref04_Minus (4*nB+8) (nearQ (frM (fL a V) k (c-1))) (V.getD k []) (V.getD (c-1) []) (by rw [hV.row k (by omega),hV.row _ (by omega)]) hqz (hUl _) (by omega))) (om E E (J E (fun N=>aH E E) (oc (cV E .n (dv E E)) (J E (fun N=>aY (k:=kVC) (xs:=V) (n:=(k:Int)) k E E (mN N 1 E) U22 aE E (by rw [hV.len];omega)) oz)))))))))))))))))<|fun σ1=>?_
    refine aG .n (cd 1 k E E Li E (y0:=(V.getD k [])) (gd [] (by rw [hV.len];omega)) aE E Lr)<|aj<|Qb<|ah<|Wm E<|Ws (bq E E (c:=(((c-1:Nat):Int)-1)) (ay (by omega)))<|Wa E<|aj<|tr 1 E (y:=(rowU V k (c-1) (-(nearQ (frM (fL a V) k (c-1)))))) (by unfold rowU;rfl)<|bD (bI [1] (by decide) E) ?_
    exact bP (c-1) (rowU V k (c-1) (-(nearQ (frM (fL a V) k (c-1))))) (by omega) ⟨by omega,CU_row hV _ (by omega),(by rw [fL_row hV _ (by omega)];exact hR.step' (by omega) hc (by omega)),(by rw [fL_row hV _ (by omega),sumD_row hC.s hC.p (by omega)];exact hS),(by rw [qzs_1 (by omega) (fun e=>h_t35 (Int.sign_eq_zero_iff_zero.2 e))];exact hZ)⟩ (Z E (Z E (Z E (ao E (ag (y:=((((c-1):Nat):Int)-1)) (by rfl)) ai))))<|au _
   ·
    refine cc<|Qb<|ah<|Wm E<|Ws (bq E E (c:=(((c-1:Nat):Int)-1)) (ay (by omega)))<|Wa E<|aj ?_
    exact bP (c-1) V (by omega) ⟨by omega,hV,hR.zero' (by omega) hc (by omega) (Int.sign_eq_zero_iff_zero.1 (by omega)),hS,(by rw [qzs_0 (by omega) (Int.sign_eq_zero_iff_zero.1 (by omega))];exact hZ)⟩ (Z E (Z E (Z E (ao E (ag (y:=((((c-1):Nat):Int)-1)) (by rfl)) ai))))<|aW<|OS.skip<|OS.keep OS.nil
  ·
   refine Ex<|aa<|aa ?_
   have hK2:=(show LR (matF a) a.length M Dm (fL a V) k 0 by rw [show c=0 by omega] at hR;exact hR).fin (by omega) hl
   have hV3:V=qzs a k k U:=by rw [show c=0 by omega] at hZ;exact hZ
   have hC:=hK2.c
   have hdi:=hK2.dia hB
   have hDz:=sz_D hC hB
   have hLz:=sz_L hC hB hdi
   have hUl:=sz_Ul hV (sz_U hs hP hl hB hM hD hdi)
   have hFz:∀i j,i<a.length→j<a.length→Sz ((4*nB+8)+(4*nB+8)+300) (fL a V i j):=fun i j h1 h2=>fL_Sz haC hV ha hUl hl h1 h2
   refine ah<|Wm E<|Wm E<|Ws (O.fn1 (b:=OB.row vU 23 kVC V) (ac 0 E) fn93 (aX E (aX E ax)) (fm vU (4*nB+8) a V haC hV hl ha hUl (by omega)))<|Ws (aF fn92 (aq E (dQ ((tab_Sz hFz).sm (by omega))) ax) (c_ref22_Datat a.length ((4*nB+8)+(4*nB+8)+300) (fL a V) hC.s hC.p hl hFz (by omega)))<|Wm E<|Ws (aF fn96 (aX E (aq E (ag (y:=((((k-1):Nat):Int)+1)) (by omega)) ax)) (c_ref22_holds (fL a V) a.length (4*nB+8) (k-1) (by omega) hC.s hC.p hl hDz hLz (by omega)))<|Wn ?_
   refine aB E (fun h_t58=>?_)<|fun h_t58=>?_
   ·
    refine Cr<|Wm E<|Ws (aI E E (c:=((k:Int)+1)) (ay (by omega)))<|Wa E<|Wn<|du<|cS<|dr ?_
    exact bP (k+1) V (by exact muL_yes hS (by omega)) ⟨by omega,by omega,hV,hK2.yes (by rw [show k=k-1+1 by omega];exact h_t58),hQ.yes (by omega) hV3 (by rw [show k=k-1+1 by omega];exact h_t58)⟩ (Z E (Z E (ao E (ag (y:=(((k+1):Nat):Int)) (by rfl)) ai)))<|au _
   ·
    refine Ck<|aa ?_
    refine CW.draw (Γ:=[.fr (VP.ex vU),.fr (kN6.is (k:Int)),.lt (VP.ex vU),.lt (kN6.is (k:Int)),.lt (kN6.is ((k-1:Nat):Int)),.fr (VP.ex vU),.fr (kN6.is (k:Int)),.fr (kN6.is ((k-1:Nat):Int)),.fr (VP.pel vU ((k-1)*1)),.fr (kVC.is (V.getD (k-1) [])),.fr (VP.ex vU),.fr (kN6.is (k:Int)),.fr (VP.pel vU (k*1)),.fr (kVC.is (V.getD k [])),.fr (VP.pel vU (k*1))]) (lates:=[false,false,true,true,true,false,false,false,false,false,false,false,false,false,false]) (by kernel_rfl) (Chk.of E (by kernel_rfl) E) (fun _ _ _ _ _ h=>h) (fun q_ x_ h_=>?_)<|fun σ2=>?_
    ·
     match q_,h_ with
     | 0,h_=>cases h_;exact Ob.f rfl .n fun N=>(O.mv rfl)
     | 1,h_=>cases h_;exact Ob.f rfl .n fun N=>(O.mv rfl)
     | 2,h_=>cases h_;exact Ob.l rfl .n (OV.mv rfl)
     | 3,h_=>cases h_;exact Ob.l rfl .n (OV.mv rfl)
     | 4,h_=>cases h_;exact Ob.l rfl .n (OV.sub rfl rfl (c:=((k-1:Nat):Int)) (w64 (by omega)))
     | 5,h_=>cases h_;exact Ob.f rfl .n fun N=>(O.mv rfl)
     | 6,h_=>cases h_;exact Ob.f rfl .n fun N=>(O.mv rfl)
     | 7,h_=>cases h_;exact Ob.f rfl .n fun N=>(O.sub rfl rfl (c:=((k-1:Nat):Int)) (w64 (by omega)))
     | 8,h_=>cases h_;exact Ob.f rfl .n fun N=>(O.ixR (k:=kVC) (xs:=V) (n:=((k-1:Nat):Int)) (k-1) rfl rfl (mN N 0 rfl) U22 ty23 (by omega) (by rw [hV.len];omega))
     | 9,h_=>cases h_;exact Ob.f rfl .n fun N=>(O.ldR (k-1) rfl (mN N 0 rfl) Li rfl (y:=(V.getD (k-1) [])) (gd [] (by rw [hV.len];omega)) ty23 rfl)
     | 10,h_=>cases h_;exact Ob.f rfl .n fun N=>(O.mv rfl)
     | 11,h_=>cases h_;exact Ob.f rfl .n fun N=>(O.mv rfl)
     | 12,h_=>cases h_;exact Ob.f rfl .n fun N=>(O.ixR (k:=kVC) (xs:=V) (n:=(k:Int)) k rfl rfl (mN N 0 rfl) U22 ty23 rfl (by rw [hV.len];omega))
     | 13,h_=>cases h_;exact Ob.f rfl .n fun N=>(O.ldR k rfl (mN N 0 rfl) Li rfl (y:=(V.getD k [])) (gd [] (by rw [hV.len];omega)) ty23 rfl)
     | 14,h_=>cases h_;exact Ob.f rfl .n fun N=>(O.ixR (k:=kVC) (xs:=V) (n:=(k:Int)) k rfl rfl (mN N 0 rfl) U22 ty23 rfl (by rw [hV.len];omega))
     | n_+15,h_=>simp at h_
    refine aG .n (cd 0 k E E Li E (y0:=(V.getD k [])) (gd [] (by rw [hV.len];omega)) aE E Lr)<|Ws (aY (k:=kVC) (xs:=(V.set k (V.getD (k-1) []))) (n:=((k-1:Nat):Int)) (k-1) E E (ac 0 E) U22 aE (by omega) (by rw [List.length_set,hV.len];omega))<|aG .n (cd 0 (k-1) E E Li E (y0:=((V.set k (V.getD (k-1) [])).getD (k-1) [])) (gd [] (by rw [List.length_set,hV.len];omega)) aE E Lr)<|Wn<|ah<|Wm E<|Ws (bq E E (c:=((k:Int)-1)) (ay (by omega)))<|Ws (O.mx E E)<|Wa E<|aj<|dq<|tr 0 E (y:=(swpU V (k-1))) (by unfold swpU;rw [show k-1+1=k by omega]) ?_
    exact bP (max (k-1) 1) (swpU V (k-1)) (by exact muL_no (fL_sum_no hV hK2 hk0 (by omega) h_t58 hS) _) ⟨by omega,by omega,CU_swp hV (by omega),(by rw [fL_swp hV (by omega)];exact hK2.no' hk0 (by omega) h_t58),hQ.no (by omega) hV3 (by rw [show k=k-1+1 by omega];exact h_t58)⟩ (Z E (Z E (ao E (ag (y:=(((max (k-1) 1):Nat):Int)) (by omega)) ai)))<|au _
 ·
  refine Ex<|aa ?_
  have hdi:=hK.dia hB
  have hUl:=sz_Ul hU (sz_U hs hP hl hB hM hD hdi)
  refine ah<|Wm E<|Wm E<|Ws (O.fn1 (b:=OB.row vU 23 kVC U) (ac 0 E) fn93 (aX E (aX E ax)) (fm vU (4*nB+8) a U haC hU hl ha hUl (by omega)))<|Wm E<|Wa E<|Wa E<|Wn<|am<|bJ 0 E (kp 0 E (kp 2 E (.hit (i:=3) E (.hit (i:=4) E (kp 6 E (kp 15 E (kp 16 E (kp 17 E (kp 18 E (kp 80 E (.hit (i:=81) E (kp 82 E (.hit (i:=83) E .nil))))))))))))) ?_
  exact ct (.inl E) E (ar E (ar E ak)) (au _) ⟨U,E,E,⟨hU,by rw [show k=a.length by omega] at hQ;exact hQ⟩⟩
theorem c_ref22_Change (a u:List (List Int)) (hE0:quadE a=0) (zu:SzM 33554432 u):Fn Tryz.prog 30 [kMZ.is a,kMZ.is u] (VP.tup [kMC.is (chM a u),kN6.is (chE a u)]):=by
 refine aK Tryz.func30 E E fun m w=>aR (i:=0) E bu fun hB0=>aR (i:=1) E bu fun hB1=>?_
 have hM:=(quad_ok hE0).1
 refine Cr<|Wa E<|Wa E<|Wr<|Wm E<|Ws (f1 fn97 E (c_ref06_Unimodular u zu))<|Wm E<|Ws (aH E E)<|Ws (aH E E)<|Wa E<|Wa E<|Wn<|aa<|Cr<|Wm E<|Ws (bt E E)<|Wm E ?_
 refine bV 15 E (fun h_t15=>?_)<|fun h_t15=>?_
 ·
  refine Kt E E<|Kt E E<|Kt E E<|Kt E E<|Kt E E<|Ws (ch E E)<|Wn<|em E<|Cr<|Wa E<|Wa E<|Wn<|am<|aQ ?_
  have hU:¬sqU a u:=fun h=>by have hc:=sqU_CU h;have hl:=hc.len;have h0:=hM.n0;have h1:=hM.n;have h3:=e6_sq (u:=u) (by rw [hl];exact hc) (by omega) (by omega);omega
  refine cC (q:=kMC.is []) 4 E (cL _)<|tl 4 E (y:=(chM a u)) (dW hE0 hU).2.symm<|tl 5 E (y:=(chE a u)) (dW hE0 hU).1.symm ?_
  exact Qd E (ar E (ar E ak)) ⟨E,E⟩
 ·
  refine Wg E E (bj E)<|Wg E E (aA E U22)<|Wg E E (bj E)<|Wg E E (aA E U22)<|Wg E E (bt E E)<|Ws (cb E E)<|Wn ?_
  refine aB E (fun h_t21=>?_)<|fun h_t21=>?_
  ·
   refine Cr<|Wa E<|Wa E<|Wn<|am<|aQ ?_
   have hU:¬sqU a u:=fun h=>by have hl:=(sqU_CU h).len;omega
   refine cC (q:=kMC.is []) 4 E (cL _)<|tl 4 E (y:=(chM a u)) (dW hE0 hU).2.symm<|tl 5 E (y:=(chE a u)) (dW hE0 hU).1.symm ?_
   exact Qd E (ar E (ar E ak)) ⟨E,E⟩
  ·
   refine Ck<|aa<|aa ?_
   have h6:e6 u=0:=by omega
   have hUl:u.length=a.length:=by omega
   have hU:sqU a u:=sqU_of (by have:=(e6_CU h6).1;rw [hUl] at this;exact this) hM.n0
   have hCU:=sqU_CU hU
   refine ah<|Wm E<|Ws (di E)<|Wn ?_
   refine dx E (fun h_t23=>?_)<|fun h_t23=>?_
   ·
    refine Cr<|Wa E<|Wa E<|Wn<|am<|aQ ?_
    have hd1:¬(detI (matF u) u.length).natAbs=1:=fun h=>by simp [h6,h] at h_t23
    refine cC (q:=kMC.is []) 4 E (cL _)<|tl 4 E (y:=(chM a u)) (chE_1 hE0 hU hd1).2.symm<|tl 5 E (y:=(chE a u)) (chE_1 hE0 hU hd1).1.symm ?_
    exact Qd E (ar E (ar E ak)) ⟨E,E⟩
   ·
    refine Ck<|Cr<|Wm E<|Wm E<|Ws (f2 fn93 E E (c_ref22_made 33554432 a u (sqm_CU hM) hCU hM.n hM.z zu (by decide)))<|Wa E<|Wa E<|Wn<|am ?_
    have hd1:(detI (matF u) u.length).natAbs=1:=by simp [h6] at h_t23;exact h_t23
    refine tl 4 E (y:=(chM a u)) (by rw [(chE_0 hE0 hU hd1).2];exact tab_fL (sqm_CU hM) hCU)<|tl 5 E (y:=(chE a u)) (chE_0 hE0 hU hd1).1.symm ?_
    exact Qd E (ar E (ar E ak)) ⟨E,E⟩
theorem c_law22_QuadReduces (a u:List (List Int)) (zu:SzM 33554432 u):Fn Tryz.prog 5 [kMZ.is a,kMZ.is u] (kBool.is true):=by
 refine aK Tryz.func5 E E fun m w=>Cr<|Wa E<|Wr<|Wm E<|Ws (f1 fn26 E (fp a))<|cF (Li:=[]) (L:=[]) .n fn25 (aX E ax) (c_quad_Reduceq a) fun p_ Lo_ hp_=>?_
 obtain ⟨R,U,rfl,rfl,hx⟩:=hp_
 refine Wm E<|Ws (aH E E)<|Ws (aH E E)<|Ws (aH E E)<|Wa E<|Wa E<|Wa E<|Wr<|Wm E<|Ws (f1 fn26 E (fp a))<|Wm E<|Ws (f1 fn26 E (fp u))<|Ws (f2 fn27 E E (c_quad_Change a u zu))<|Wm E<|Ws (aH E E)<|Ws (aH E E)<|Wa E<|Wa E<|Wn<|aa ?_
 refine ah<|Wm E<|Ws (f1 fn28 E (c_ref22_Valid a))<|Wa E<|Wn<|aa<|Cr<|Wm E<|Ws (bt E E)<|Wn ?_
 refine aB E (fun h_t33=>?_)<|fun h_t33=>?_
 ·
  refine Cr<|Wm E<|Wm E<|Ws (bR E E)<|Wm E ?_
  refine bV 37 E (fun h_t37=>?_)<|fun h=>absurd E h
  refine Wg E E (bj E)<|Wg E E (bj E)<|Wg E E (bR E E)<|Ws (ch E E)<|Wm E ?_
  refine bV 42 E (fun h_t42=>?_)<|fun h=>absurd (chE_q h_t33).1 h
  refine Wg E E (bj E)<|Wg E E (aA E U22)<|Wg E E (bR E E)<|Ws (ch E E)<|Wm E ?_
  refine bV 47 E (fun h_t47=>?_)<|fun h=>absurd (by rw [(hx.1.1 h_t33).1];rfl) h
  refine Wg E E (bj E)<|Wg E E (aA E U22)<|Wg E E (bR E E)<|Ws (ch E E)<|Wm E ?_
  refine bV 52 E (fun h_t52=>?_)<|fun h=>absurd (by rw [(hx.1.1 h_t33).2];rfl) h
  refine Wg E E (bj E)<|Wg E E (aA E U22)<|Wg E E (bR E E)<|Ws (ch E E)<|Wa E<|Wn<|am<|aQ<|tl 4 E (y:=true) (decide_eq_true (by rw [(chE_q h_t33).2];rfl)) ?_
  exact Qd E (ar E ak) ⟨E,E⟩
 ·
  refine Ck<|aa ?_
  have hE0:quadE a=0:=by omega
  obtain ⟨hM,hP⟩:=quad_ok hE0
  obtain ⟨Mb,_,Dm,nB,hLB,hMb,hDm⟩:=red_LB hM hP
  refine ah<|Wm E<|cF (Li:=[]) (L:=[]) .n fn29 (aX E ax) (c_ref22_Reduce a Mb Dm nB (hM.n0) (hM.z) (hM.q) (hM.s) (hM.n) hP hLB hMb hDm) fun p_ Lo_ hp_=>?_
  obtain ⟨U2,rfl,rfl,hx2⟩:=hp_
  refine Wm E<|Ws (aH E E)<|Ws (aH E E)<|Wa E<|Wa E<|Wr<|Wm E<|Wm E<|Ws (f2 fn30 E E (c_ref22_Change a u hE0 zu))<|Wm E<|Ws (aH E E)<|Ws (aH E E)<|Wa E<|Wa E<|Wn<|aa ?_
  have hUU:U=U2:=(hx.2 hE0).one hx2.2
  have hRe:R=tabZ a.length (fL a U2):=by rw [(hx.1.2 hE0).2,hUU];exact (tab_fL (sqm_CU hM) hx2.1).symm
  refine ah<|Wm E<|Ws (bR E E)<|Wm E ?_
  refine bV 70 E (fun h_t70=>?_)<|fun h=>absurd hE0 h
  refine Wg E E (bj E)<|Wg E E (bj E)<|Wg E E (f2 fn31 E E (c_law22_eqm R (tabZ a.length (fL a U2))))<|Ws (ch E E)<|Wm E ?_
  refine bV 75 E (fun h_t75=>?_)<|fun h=>absurd hRe h
  refine Wg E E (bj E)<|Wg E E (bj E)<|Wg E E (f2 fn31 E E (c_law22_eqm U U2))<|Ws (ch E E)<|Wm E ?_
  refine bV 80 E (fun h_t80=>?_)<|fun h=>absurd hUU h
  refine Wg E E (bj E)<|Wg E E (bj E)<|Wg E E (bR E E)<|Ws (ch E E)<|Wm E ?_
  refine bV 85 E (fun h_t85=>?_)<|fun h=>absurd E h
  refine Wg E E (bj E)<|Wg E E (bj E)<|Wg E E (f2 fn31 E E (c_law22_eqm (chM a u) (chM a u)))<|Ws (ch E E)<|Wa E<|Wn<|am<|tl 4 E (y:=true) (decide_eq_true E) ?_
  exact Qd E (ar E ak) ⟨E,E⟩
end Fw
namespace Fw
open Go
theorem Sz_ZB {z:Int} (h:ZB z):Sz 33554432 z:=by
  obtain ⟨n,hn,h⟩:=ZB_lt h
  exact Sz.up h hn
theorem SzL_ZB {u:List Int} (h:∀x∈u,ZB x):SzL 33554432 u:=fun i=>by
  by_cases hi:i<u.length
  · exact Sz_ZB (h _ (getD_mem 0 hi))
  · rw [List.getD_eq_getElem?_getD,List.getElem?_eq_none (by omega)];exact Sz.zero _
theorem SzM_ZB {b:List (List Int)} (h:∀r∈b,r.length≤uptoN∧∀x∈r,ZB x):SzM 33554432 b:=fun i=>by
  by_cases hi:i<b.length
  · exact SzL_ZB (h _ (getD_mem [] hi)).2
  · rw [List.getD_eq_getElem?_getD,List.getElem?_eq_none (by omega)];exact SzL.nil _
end Fw
set_option linter.unusedVariables false
namespace Go.Proofs.YtjbfmocbophmlaaGreat.quadReduces
open Go.ChangeShapes Go.WideShapes Go.ChangeAt Go.RowKit Fw
theorem rd29:Rd Tryz.prog 29 kZ ZB:=rd_Z (rd_struct (fs:=[_,_]) Tryz.underlying29 (by kernel_rfl) (rdf_cons rfl (by kernel_rfl) (rd_bool Tryz.underlying4) rfl (rdf_last rfl (by kernel_rfl) (rd_sl Tryz.underlying27 (by kernel_rfl) (by decide) (rd_limb Tryz.underlying93)))))
theorem rd23:Rd Tryz.prog 23 (kSl kZ) (fun xs=>xs.length≤uptoN∧∀x∈xs,ZB x):=rd_sl Tryz.underlying23 (by kernel_rfl) (by decide) rd29
theorem rd22:Rd Tryz.prog 22 (kSl (kSl kZ)) (fun xs=>xs.length≤uptoN∧∀x∈xs,(fun xs=>xs.length≤uptoN∧∀x∈xs,ZB x) x):=rd_sl Tryz.underlying22 (by kernel_rfl) (by decide) rd23
theorem own:ownKnob Tryz.prog.godebug=none:=by kernel_rfl
theorem laidOut:laidOutB Tryz.prog=true:=by kernel_rfl
set_option maxRecDepth 100000 in
theorem contract (H:Type) (enc:TypeId×Value→H) (W:World) (base:Nat) (args:Array Value) (ds gs:List (DataW H)) (before:List MemPlace)
    (hval:∀(j:Nat) t v,Tryz.f5.params[j]?=some t→args[j]?=some v→Value.okWide Tryz.prog W .any base t v)
    (hW:DataW.Whole enc Tryz.prog Tryz.f5.params.toList Rows.quadReducesSpec.vars false W args.toList ds gs before) (hk:Rows.uptoSmall H (ds++gs)=true) :
    Calls Tryz.prog 5 args W fun e W'=>∃v,e = .returned v∧Rows.quadReducesSpec.post enc Tryz.prog Tryz.f5 false true false false W args v W':=by
  have hW':=hW
  obtain ⟨p,q,hA0,hV,rfl,hfz,hnd⟩:=hW
  have hA:DataW.TrodAll enc Tryz.prog W 0 (fun _=>true) true Tryz.f5.params.toList args.toList ds p:=hA0
  rw [Tryz.params5] at hA hval
  obtain ⟨rfl,rfl⟩:=trodVars_none hV
  unfold Rows.uptoSmall at hk
  have hbulk:=of_decide_eq_true hk
  rw [List.append_nil] at hbulk
  obtain ⟨v0,vs0,d0,ds0,p0,q0,hargs,rfl,rfl,h0,r0⟩:=trodAll_cons hA
  obtain ⟨v1,vs1,d1,ds1,p1,q1,rfl,rfl,rfl,h1,r1⟩:=trodAll_cons r0
  obtain ⟨rfl,rfl,rfl⟩:=trodAll_nil r1
  obtain rfl:args=[v0,v1].toArray:=by cases args;simp_all
  simp only [Rows.uptoBulkAll] at hbulk
  obtain ⟨x0,a0,b0⟩:=arg_sl Tryz.underlying22 rd22 (hval 0 22 v0 rfl rfl) h0 (by unfold uptoN;omega)
  obtain ⟨x1,a1,b1⟩:=arg_sl Tryz.underlying22 rd22 (hval 1 22 v1 rfl rfl) h1 (by unfold uptoN;omega)
  refine ((c_law22_QuadReduces x0 x1 (SzM_ZB b1.2)).calls (vs:=[v0,v1]) ⟨a0,a1,trivial⟩).mono fun e W' ⟨he,bel⟩=>?_
  subst he
  exact ⟨_,rfl,_,_,_,[],_,[],hW',trodAll_mk1 (shut_bool Tryz.underlying4 _),below_all laidOut bel (by kernel_rfl) hA0 (fun x hx=>by simpa using hW'.lt x (by simpa using hx)),rfl,bel.frame _,fun h=>by cases h⟩
set_option maxRecDepth 100000 in
theorem lifted (os:Os) (started:os.Started) (H:Type) (enc:TypeId×Value→H) (F:Stop.Interp) :
    ReturnsInHanded {} Tryz.checked os 5 .any ((Rows.OpenSpec.upto Rows.quadReducesSpec).pre6 enc Tryz.prog Tryz.f5 Rows.quadReducesUptoRow.domain false) (((Rows.OpenSpec.upto Rows.quadReducesSpec).at F).post enc Tryz.prog Tryz.f5 false true false false):=by
  refine returnsInHanded_of_cond (C:=Tryz.checked) (s:=Rows.OpenSpec.upto Rows.quadReducesSpec) (k:=Rows.uptoSmall) rfl own started (by kernel_rfl) Tryz.func5
    (OpenSpec.witness (enc:=enc) (C:=Tryz.checked) (s:=Rows.OpenSpec.upto Rows.quadReducesSpec) (k:=Rows.uptoSmall) rfl false ⟨#[],#[.slice none 0 0,.slice none 0 0],[]⟩ 8 (by kernel_rfl) (by kernel_rfl) (by kernel_rfl)
      (x:=([.nil,.nil],[],[])) (by kernel_rfl) rfl (by kernel_rfl)) ?_
  intro W base args ds gs before hval hW _ hk _
  exact contract H enc W base args ds gs before hval hW hk
theorem over:Rows.quadReducesUptoRow.holds Tryz.pinned (Rows.OpenSpec.upto Rows.quadReducesSpec):=
  OpenClaim.holds_of_cond 5 Tryz.f5 rfl rfl rfl rfl rfl rfl rfl ⟨rfl,rfl,rfl,rfl,rfl⟩ rfl rfl rfl rfl rfl (by kernel_rfl) Tryz.func5 (by kernel_rfl)
    (of_decide_eq_true (by kernel_rfl)) (by unfold Func.isWrapper;first | (rw [if_pos (by decide +kernel)];kernel_rfl) | (rw [if_neg (by decide +kernel)];exact ⟨rfl,rfl⟩))
    (fun os started H enc _ F=>lifted os started H enc F)
theorem proved:Rows.QuadReducesUptoSaid:=over
end Go.Proofs.YtjbfmocbophmlaaGreat.quadReduces
