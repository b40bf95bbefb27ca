/- Proved: CloseGuesses, for every input of bulk at most 1048576; no other condition. -/
import Derived.Test.YtjbfmocbophmlaaGreatCCloseGuessesF
set_option exponentiation.threshold 600
set_option linter.unusedVariables false
set_option linter.unusedSimpArgs false
set_option maxRecDepth 20000
set_option maxHeartbeats 1000000
namespace Fw
open Go Go.Proofs
theorem c_ref07_sizes (pw:Nat) (vB vU vV vS:Value) (vs:List Value) (b:List (List Int)) (M Dm P:Int) (nz K:Nat) (hZ:Basis b) (hL:LS b M Dm P nz K) (B0 U0 V0:List (List Int)) (S:List Int) (k:Nat) (hI:WI b M Dm P B0 U0 V0 S k) (hk:k<b.length) (hvl:vs.length=b.length):Con Tryz.prog 184 [VP.pt pw 0,kN6.is (k:Int)] [OB.box pw 157 (kPair kVal (kPair kVal (kPair kVal kVal))) (vB,vU,vV,vS),OB.row vB 23 kVC B0,OB.row vU 23 kVC U0,OB.row vV 23 kVal vs,OB.fam vs 29 kC V0] (fun p Lo=>∃(B:List (List Int)) (U:List (List Int)) (V:List (List Int)),p=VP.tup []∧Lo=[OB.box pw 157 (kPair kVal (kPair kVal (kPair kVal kVal))) (vB,vU,vV,vS),OB.row vB 23 kVC B,OB.row vU 23 kVC U,OB.row vV 23 kVal vs,OB.fam vs 29 kC V]∧WK b M Dm P B0 U0 V0 B U V S k):=by
 refine aO Tryz.func184 Z Z fun m w=>?_
 have hb12:=hZ.n
 refine Cr<|Wm Z<|Ws (bf Z Z (c:=((k:Int)-1)) (aG (by omega)))<|Wa Z<|Wn<|aF<|CW.loop4 (fun (c:Nat) (B:List (List Int)) (U:List (List Int)) (V:List (List Int))=>WJ b M Dm P B0 U0 V0 B U V S k c) (fun (c:Nat) (B:List (List Int)) (U:List (List Int)) (V:List (List Int))=>[(0,VP.pt pw 0),(1,kN6.is (k:Int)),(4,kN6.is ((c:Int)-1))]) (fun (c:Nat) (B:List (List Int)) (U:List (List Int)) (V:List (List Int))=>[OB.box pw 157 (kPair kVal (kPair kVal (kPair kVal kVal))) (vB,vU,vV,vS),OB.row vB 23 kVC B,OB.row vU 23 kVC U,OB.row vV 23 kVal vs,OB.fam vs 29 kC V]) (fun (c:Nat) (B:List (List Int)) (U:List (List Int)) (V:List (List Int))=>c) k B0 U0 V0 (hI.begin hk) (ac Z (ac Z (ac Z ar))) (aH _) ?_
 intro c B U V hJ
 have hck:=hJ.ck
 have hlB:=hJ.wc.rb.len
 refine ab<|Cr<|Wm Z<|Ws (cZ Z Z)<|Wn ?_
 refine aM Z (fun h_t11=>?_)<|fun h_t11=>?_
 ·
  refine Ck<|ab<|aF<|ab ?_
  have hCC:=hJ.l.c
  have hNn:=hL.lb.n
  have hdi:=hJ.l.dia hL.lb (show k<b.length by omega) hb12
  obtain ⟨hFS,hFM,hFE⟩:=fr_sz hCC hL.lb hb12 hdi
  have hzB:=hJ.wc.szB hL.lb hdi
  have hzU:=hJ.wc.szU (gram_symG hZ.r) hZ.p hb12 hL.lb hL.m hL.d hdi
  have hzV:=hJ.wc.szV hCC hb12 hL.lb hL.m hdi
  have hqz:=sz_q hCC hL.lb hdi (show c-1<k by omega) (by omega)
  refine ak<|Wm Z<|Ws (cD Z)<|Ws (aw Z eK Z)<|Ws (aV (af (p:=kVal.is vB) Z (ag 0 Z) (aC Li) bg Z) (bd _))<|Ws (dM (b:=OB.row vB 23 kVC B) (ag 1 Z) fn181 (aP Z ao) (c_ref05_Makeo vB (4*nz+8) B hzB hJ.wc.rb.rl (by omega) (by rw [hJ.wc.rb.row 0 hZ.n0];exact hZ.c 0) (by omega) (by rw [hlB];exact hCC.p) (fun k hk=>(hFS k (by omega)).up (by omega)) (fun x k hx hk=>(hFM x k (by omega) hk).up (by omega)) (fun i k j hi h1 h2 h3=>(hFE i k j (by omega) h1 h2 h3).up (by omega))))<|Wm Z<|Ws (aN Z Z)<|Ws (aN Z Z)<|Ax (l:=kFrm) (u:=(frMus (gram B) B.length,frSts (gram B) B.length)) fb Z df (fun _=>Z) Lr fun b1=>Wa Z<|Wr<|Ws (aw Z eU Z)<|Ws (af (p:=(kSl (kSl kRC)).is (frMus (gram B) B.length)) Z (ag 0 Z) (aC Li) eW Z)<|Wm Z<|Ws (aU k Z Z U148 bM (by omega) (v:=((frMus (gram B) B.length).getD k [])) (gd [] (by simp only [frRow_len,frMus_len,frSts_len];omega)))<|Ws (aQ Z bM)<|Wm Z<|Ws (aU (c-1) Z Z U26 aj (by omega) (v:=(rq (frM (gram B) k (c-1)))) (gg (by omega) (by omega)))<|Ws (aQ Z aj) ?_
  refine Ws (f1 fn90 Z (gQ (4*nz+8) (frM (gram B) k (c-1)) (hFM k (c-1) hk (by omega)) (by omega)))<|Ax (l:=kC) (u:=nearQ (frM (gram B) k (c-1))) bc Z ae (fun _=>Z) Lr fun b2=>Wr<|Ws (af Z (ag 0 Z) Li ae Z)<|Ws (aB eB (ai Z (aL (hqz.sm (by omega))) ao) (eh (nearQ (frM (gram B) k (c-1)))))<|Ws (bG Z Z)<|Wn ?_
  refine aM Z (fun h_t33=>?_)<|fun h_t33=>?_
  ·
   refine ak<|Wm Z<|Wm Z<|Wm Z<|Ws (af Z (ag 0 Z) Li ae Z)<|bi (bj [2,3,4,5,6,0,1] (by decide) Z)<|ct (Li:=[OB.box pw 157 (kPair kVal (kPair kVal (kPair kVal kVal))) (vB,vU,vV,vS),OB.row vB 23 kVC B,OB.row vU 23 kVC U,OB.row vV 23 kVal vs,OB.fam vs 29 kC V]) (L:=[OB.box b2 29 kC (nearQ (frM (gram B) k (c-1))),OB.box b1 150 kFrm (frMus (gram B) B.length,frSts (gram B) B.length)]) .n fn241 (aP Z (aP Z (ai Z (ah (y:=(((c-1):Nat):Int)) (by omega)) (ai Z (aL (hqz.sm (by omega))) ao)))) (c_ref07_lose pw vB vU vV vS vs B U V b.length ((b.getD 0 []).length) (4*nz+8) k (c-1) (nearQ (frM (gram B) k (c-1))) hJ.wc.rb hJ.wc.ru hJ.wc.rv (by assumption) hb12 hqz hzB hzU hzV (by omega) (by assumption) (by omega)) fun p_ Lo_ hp_=>?_
   obtain ⟨rfl,rfl,hx_t38⟩:=hp_
   refine au<|Qb<|ak<|Wm Z<|Ws (bf Z Z (c:=(((c:Int)-1)-1)) (aG (by omega)))<|Wa Z<|au<|bi (bj [0,1,2,3,4] (by decide) Z) ?_
   exact eS (c-1) (rowU B k (c-1) (-(nearQ (frM (gram B) k (c-1))))) (rowU U k (c-1) (-(nearQ (frM (gram B) k (c-1))))) (colV V k (c-1) (nearQ (frM (gram B) k (c-1)))) (by omega) (hJ.lose (by omega) hk (fun h=>h_t33 (by rw [h];rfl))) (ac Z (ac Z (az Z (ah (y:=((((c-1):Nat):Int)-1)) (by omega)) ar)))<|aH _
  ·
   refine cB<|Qb<|ak<|Wm Z<|Ws (bf Z Z (c:=(((c:Int)-1)-1)) (aG (by omega)))<|Wa Z<|au<|bi (bj [2,3,4,5,6] (by decide) Z) ?_
   exact eS (c-1) B U V (by omega) (hJ.zero (by omega) hk (Int.sign_eq_zero_iff_zero.1 (by omega))) (ac Z (ac Z (az Z (ah (y:=((((c-1):Nat):Int)-1)) (by omega)) ar)))<|aH _
 ·
  refine dS<|c9<|c9<|dR ?_
  have hK:=(show WJ b M Dm P B0 U0 V0 B U V S k 0 by rw [show c=0 by omega] at hJ;exact hJ).fin hk hZ.n
  exact bZ (.inr Z) Z ay (aH _) ⟨B,U,V,Z,Z,hK⟩
theorem c_ref07_Rowsx (b:List (List Int)):Con Tryz.prog 182 [kMZ.is b] [] (fun p Lo=>∃(v:Value),p=VP.ex v∧Lo=[OB.row v 23 kVC b]∧True):=by
 refine aO Tryz.func182 Z Z fun m w=>Cr<|Wa Z<|Wr<|Wm Z<|ct (Li:=[]) (L:=[]) .n fn240 (aP Z ao) (c_ref05_Rowsx b) fun p_ Lo_ hp_=>?_
 obtain ⟨v1,rfl,rfl,hx_t4⟩:=hp_
 refine Wa Z<|Wn<|aA ?_
 exact bZ (.inl Z) Z (aI Z ay) (aH _) ⟨v1,Z,Z,trivial⟩
theorem c_ref07_run (b:List (List Int)) (M Dm P:Int) (nz K:Nat) (hZ:Basis b) (hL:LS b M Dm P nz K):Con Tryz.prog 111 [kMZ.is b] [] (fun p Lo=>∃(pw:Nat) (vB:Value) (vU:Value) (vV:Value) (vS:Value) (vs:List Value) (B:List (List Int)) (U:List (List Int)) (V:List (List Int)) (S:List Int),p=VP.pt pw 0∧Lo=[OB.box pw 157 (kPair kVal (kPair kVal (kPair kVal kVal))) (vB,vU,vV,vS),OB.row vB 23 kVC B,OB.row vU 23 kVC U,OB.row vV 23 kVal vs,OB.fam vs 29 kC V,OB.row vS 3 kI64 S]∧vs.length=b.length∧WI b M Dm P B U V S b.length):=by
 refine aO Tryz.func111 Z Z fun m w=>a9 (i:=0) Z bI fun hB=>a9 (i:=0) Z eT fun hlc=>?_
 have hb12:=hZ.n
 refine Cr<|Wa Z<|Wr<|Wm Z<|ct (Li:=[]) (L:=[]) .n fn182 (aP Z ao) (c_ref07_Rowsx b) fun p_ Lo_ hp_=>?_
 obtain ⟨vB,rfl,rfl,hxB⟩:=hp_
 refine Wm Z<|Ws (aK Z U22)<|ct (Li:=[]) (L:=[OB.row vB 23 kVC b]) .n fn183 (ai Z (ah (y:=((b.length:Nat):Int)) (by rfl)) ao) (c_ref07_Unitx b.length (by assumption)) fun p_ Lo_ hp_=>?_
 obtain ⟨vU,rfl,rfl,hxU⟩:=hp_
 refine Wm Z<|Ws (aK Z U22)<|ct (Li:=[]) (L:=[OB.row vU 23 kVC (unitV b.length),OB.row vB 23 kVC b]) .n fn183 (ai Z (ah (y:=((b.length:Nat):Int)) (by rfl)) ao) (c_ref07_Unitf b.length (by assumption)) fun p_ Lo_ hp_=>?_
 obtain ⟨vV,vs,rfl,rfl,hvl⟩:=hp_
 refine bp 3 Z fun hcell_=>bp 2 Z fun hcell_=>bp 0 Z fun hcell_=>Ws (cd lit157_pr_val_pr_val_pr_val_val___ Z (bC Z (bo (by assumption)) (bC Z (bo (by assumption)) (bC Z (bo (by assumption)) bz))) (.cons Z (aC Li) (.cons Z (am (aC Li)) (.cons Z (am (am (aC Li))) (.nil _)))))<|aY .n Z fun b1=>Wa Z<|Wr<|Wa Z<|Wn<|ab<|aF<|bQ 3 kI64<|bi (bj [1,5,4,2,3,0] (by decide) Z)<|CW.loop6 (fun (k:Nat) (B:List (List Int)) (U:List (List Int)) (V:List (List Int)) (S:List Int) (vT:Value)=>WI b M Dm P B U V S k) (fun (k:Nat) (B:List (List Int)) (U:List (List Int)) (V:List (List Int)) (S:List Int) (vT:Value)=>[(0,kMZ.is b),(3,VP.pt b1 0),(4,kN6.is (k:Int))]) (fun (k:Nat) (B:List (List Int)) (U:List (List Int)) (V:List (List Int)) (S:List Int) (vT:Value)=>[OB.box b1 157 (kPair kVal (kPair kVal (kPair kVal kVal))) (vB,vU,vV,vT),OB.row vB 23 kVC B,OB.row vU 23 kVC U,OB.row vV 23 kVal vs,OB.fam vs 29 kC V,OB.row vT 3 kI64 S]) (fun (k:Nat) (B:List (List Int)) (U:List (List Int)) (V:List (List Int)) (S:List Int) (vT:Value)=>muL (gram B) b.length k) 1 b (unitV b.length) (unitV b.length) [] (.slice none 0 0) (by have:=WI.init hZ hL.m hL.d hL.lb;rw [←hL.pe] at this;exact this) (ac Z (ac Z (az Z (ah (y:=(1:Int)) (by rfl)) ar))) (a6 (OS.keepLe (ce (by rfl)) (OS.keep (OS.keep (OS.keep (OS.keep (OS.keep OS.nil))))))) ?_
 intro k B U V S vT hI
 have hkn:=hI.kn
 have hk0:=hI.k0
 have hlB:=hI.wc.rb.len
 refine ab<|Cr<|Wm Z<|Wm Z<|Ws (aK Z U22)<|Ws (aW Z Z)<|Wn ?_
 refine aM Z (fun h_t20=>?_)<|fun h_t20=>?_
 ·
  have hkl:k<b.length:=by omega
  refine Ck<|aF<|Cr<|Wm Z<|Wm Z<|ct (Li:=[OB.box b1 157 (kPair kVal (kPair kVal (kPair kVal kVal))) (vB,vU,vV,vT),OB.row vB 23 kVC B,OB.row vU 23 kVC U,OB.row vV 23 kVal vs,OB.fam vs 29 kC V]) (L:=[OB.row vT 3 kI64 S]) .n fn184 (aP Z (aP Z ao)) (c_ref07_sizes b1 vB vU vV vT vs b M Dm P nz K (by assumption) (by assumption) B U V S k hI (by assumption) (by assumption)) fun p_ Lo_ hp_=>?_
  obtain ⟨B1,U1,V1,rfl,rfl,hK⟩:=hp_
  refine Wn<|ab ?_
  have hCC:=hK.l.c
  have hNn:=hL.lb.n
  have hdi:=hK.l.dia hL.lb
  obtain ⟨hFS,hFM,hFE⟩:=fr_sz hCC hL.lb hb12 hdi
  have hzB:=hK.wc.szB hL.lb hdi
  have hlB1:=hK.wc.rb.len
  refine ak<|Wm Z<|Ws (cD Z)<|Ws (aw Z eK Z)<|Ws (aV (af (p:=kVal.is vB) Z (ag 0 Z) (aC Li) bg Z) (bd _))<|Ws (dM (b:=OB.row vB 23 kVC B1) (ag 1 Z) fn181 (aP Z ao) (c_ref05_Makeo vB (4*nz+8) B1 hzB hK.wc.rb.rl (by omega) (by rw [hK.wc.rb.row 0 hZ.n0];exact hZ.c 0) (by omega) (by rw [hlB1];exact hCC.p) (fun k hk=>(hFS k (by omega)).up (by omega)) (fun x k hx hk=>(hFM x k (by omega) hk).up (by omega)) (fun i k j hi h1 h2 h3=>(hFE i k j (by omega) h1 h2 h3).up (by omega))))<|Wm Z<|Ws (aN Z Z)<|Ws (aN Z Z)<|Ax (l:=kFrm) (u:=(frMus (gram B1) B1.length,frSts (gram B1) B1.length)) fb Z df (fun _=>Z) Lr fun b2=>Wa Z<|Wn<|ab<|Cr<|Ws (af (p:=kFrm.is (frMus (gram B1) B1.length,frSts (gram B1) B1.length)) Z (ag 0 Z) Li df Z)<|Wm Z<|Ws (aB fn185 (ai Z (ah (y:=(frMus ((gram B1)) B1.length,frSts ((gram B1)) B1.length)) (by rfl)) (ai Z (ah (y:=((((k-1):Nat):Int)+1)) (by omega)) ao)) (c_ref07_step (gram B1) B1.length (4*nz+8) (k-1) (by omega) (by omega) (fun k hk=>hFS k (by omega)) (fun x k hx hk=>hFM x k (by omega) hk) (by omega)))<|Wn ?_
  refine aM Z (fun h_t34=>?_)<|fun h_t34=>?_
  ·
   refine Cr<|Wm Z<|Ws (aS Z Z (c:=((k:Int)+1)) (aG (by omega)))<|Wa Z<|Wn<|dS<|c9<|dR<|bi (bj [1,2,3,4,5,6] (by decide) Z) ?_
   exact fp (k+1) B1 U1 V1 S vT (hK.mu_yes (by omega)) (hK.yes hI (by omega) (by rw [show k=k-1+1 by omega];exact h_t34)) (ac Z (ac Z (az Z (ah (y:=(((k+1):Nat):Int)) (by rfl)) ar)))<|aH _
  ·
   refine Ck<|Cr<|Wm Z<|Wm Z<|bi (bj [1,2,3,4,5,6,0] (by decide) Z)<|ct (Li:=[OB.box b1 157 (kPair kVal (kPair kVal (kPair kVal kVal))) (vB,vU,vV,vT),OB.row vB 23 kVC B1,OB.row vU 23 kVC U1,OB.row vV 23 kVal vs,OB.fam vs 29 kC V1,OB.row vT 3 kI64 S]) (L:=[OB.box b2 150 kFrm (frMus (gram B1) B1.length,frSts (gram B1) B1.length)]) .n fn186 (aP Z (ai Z (ah (y:=((((k-1):Nat):Int)+1)) (by omega)) ao)) (c_ref07_swap b1 vB vU vV vT vs B1 U1 V1 S b.length ((b.getD 0 []).length) (k-1) hK.wc.rb hK.wc.ru hK.wc.rv (by assumption) (by assumption) (by omega) (hI.swn hL)) fun p_ Lo_ hp_=>?_
   obtain ⟨vT2,rfl,rfl,hx39⟩:=hp_
   refine Wr<|Wm Z<|Ws (cz Z Z)<|Wn ?_
   refine aM Z (fun h_t41=>?_)<|fun h_t41=>?_
   ·
    refine ak<|Wm Z<|Ws (bf Z Z (c:=((k:Int)-1)) (aG (by omega)))<|Wa Z<|au<|dQ<|bi (bj [0,1,2,3,4,5] (by decide) Z)<|tf 4 Z (y:=(colS V1 k)) (by rw [show k-1+1=k by omega])<|tr 5 Z (y:=(S++[(k:Int)])) (by rw [show ((k-1:Nat):Int)+1=(k:Int) by omega]) ?_
    exact fp (k-1) (swpU B1 (k-1)) (swpU U1 (k-1)) (colS V1 k) (S++[(k:Int)]) vT2 (by exact hK.mu_no (by omega) (by omega) (by rw [show k=k-1+1 by omega];exact h_t34) _) (by have:=hK.no hI (by omega) (by rw [show k=k-1+1 by omega];exact h_t34);rw [show max (k-1) 1=k-1 by omega] at this;exact this) (ac Z (ac Z (az Z (ah (y:=(((k-1):Nat):Int)) (by omega)) ar)))<|aH _
   ·
    refine cB<|dQ<|bi (bj [0,1,2,3,4,5] (by decide) Z)<|tf 4 Z (y:=(colS V1 k)) (by rw [show k-1+1=k by omega])<|tr 5 Z (y:=(S++[(k:Int)])) (by rw [show ((k-1:Nat):Int)+1=(k:Int) by omega]) ?_
    exact fp k (swpU B1 (k-1)) (swpU U1 (k-1)) (colS V1 k) (S++[(k:Int)]) vT2 (by exact hK.mu_no (by omega) (by omega) (by rw [show k=k-1+1 by omega];exact h_t34) _) (by have:=hK.no hI (by omega) (by rw [show k=k-1+1 by omega];exact h_t34);rw [show max (k-1) 1=k by omega] at this;exact this) (ac Z (ac Z (ac Z ar)))<|aH _
 ·
  refine Ex<|Cr<|Wm Z<|Wa Z<|Wn<|aA ?_
  exact bZ (.inl Z) Z (aI Z ay) (aH _) ⟨b1,vB,vU,vV,vT,vs,B,U,V,S,Z,Z,⟨hvl,by rw [show k=b.length by omega] at hI;exact hI⟩⟩
theorem c_ref07_Reduce (b:List (List Int)) (hZ:Basis b):Fn Tryz.prog 50 [kMZ.is b] (kRed.is (llB b,llU b,llV b,((llS b).length:Int))):=by
 refine aO Tryz.func50 Z Z fun m w=>?_
 obtain ⟨M,Dm,P,nz,K,hL⟩:=basis_LS hZ
 refine Cr<|aX .n fA fun b1=>Wr<|Wm Z<|ct (Li:=[]) (L:=[OB.box b1 35 kRed ([],([],([],0)))]) .n fn111 (aP Z ao) (c_ref07_run b M Dm P nz K (by assumption) (by assumption)) fun p_ Lo_ hp_=>?_
 obtain ⟨pw,vB,vU,vV,vS,vs,B,U,V,S,rfl,rfl,hx⟩:=hp_
 refine Wa Z<|Wn<|ab ?_
 obtain ⟨hvl,hI⟩:=hx
 obtain ⟨e1,e2,e3,e4⟩:=ll_eq hI
 have hsl:=hI.swn hL
 refine a5 (Γ:=[.fr (VP.pt pw 0),.fr (VP.pt pw 0),.fr (VP.pt pw 0),.fr (VP.ex vB),.fr (VP.pt pw 0),.fr (VP.pt pw 0),.fr (VP.pt pw 1),.fr (VP.ex vU),.fr (VP.pt pw 0),.fr (VP.pt pw 0),.fr (VP.pt pw 2),.fr (VP.ex vV),.fr (VP.pt pw 0),.fr (VP.pt pw 0),.fr (VP.pt pw 3),.fr (VP.ex vS),.fr (kN6.is (S.length:Int))]) (om Z Z (cf Z Z (aa Z (fun N=>aw Z eK Z) (aa Z (fun N=>aV (af (p:=kVal.is vB) Z (mN N 0 Z) (aC Li) bg Z) (bd _)) (om Z Z (cf Z Z (aa Z (fun N=>aw Z fe Z) (aa Z (fun N=>aV (af (p:=kVal.is vU) Z (mN N 0 Z) (am (aC Li)) bg Z) (bd _)) (om Z Z (cf Z Z (aa Z (fun N=>aw Z eJ Z) (aa Z (fun N=>aV (af (p:=kVal.is vV) Z (mN N 0 Z) (am (am (aC Li))) bg Z) (bd _)) (om Z Z (cf Z Z (aa Z (fun N=>aw Z fld157_3 Z) (aa Z (fun N=>aV (af (p:=kVal.is vS) Z (mN N 0 Z) (am (am (am Li))) ty155 Z) (bd _)) (aa Z (fun N=>c5 Z (mN N 5 Z) U155) oz)))))))))))))))))<|fun σ1=>?_
 refine bJ 1 Z (kp 0 Z (kp 2 Z (kp 3 Z (kp 4 Z (kp 5 Z (kp 6 Z (kp 7 Z (kp 8 Z (.hit (i:=9) Z (kp 10 Z (kp 11 Z (kp 12 Z (kp 13 Z (kp 14 Z (kp 15 Z (kp 16 Z (kp 17 Z (kp 18 Z (kp 19 Z (kp 20 Z (kp 21 Z (kp 22 Z .nil))))))))))))))))))))))<|bJ 1 Z (kp 0 Z (kp 2 Z (kp 3 Z (kp 4 Z (kp 5 Z (kp 6 Z (kp 7 Z (kp 8 Z (kp 9 Z (kp 10 Z (kp 11 Z (kp 12 Z (.hit (i:=13) Z (kp 14 Z (kp 15 Z (kp 16 Z (kp 17 Z (kp 18 Z (kp 19 Z (kp 20 Z (kp 21 Z (kp 22 Z .nil))))))))))))))))))))))<|ST.freezeM 2 1 Z Z (kp 0 Z (kp 2 Z (kp 3 Z (kp 4 Z (kp 5 Z (kp 6 Z (kp 7 Z (kp 8 Z (kp 9 Z (kp 10 Z (kp 11 Z (kp 12 Z (kp 13 Z (kp 14 Z (kp 15 Z (kp 16 Z (.hit (i:=17) Z (kp 18 Z (kp 19 Z (kp 20 Z (kp 21 Z (kp 22 Z .nil))))))))))))))))))))))<|Ws (cd gT Z (cb Z (cb Z (cb Z (bC Z (cF (by omega)) bz)))) (.cons Z (aC Li) (.cons Z (am (aC Li)) (.cons Z (am (am (aC Li))) (.cons Z (am (am (am Li))) (.nil _))))))<|aE .n (aD (l:=kRed) (u:=(B,(U,(V,(S.length:Int))))) 2 Z Z Z eA Z Lr)<|Wn<|aA<|tb 2 Z (y:=(llB b,llU b,llV b,((llS b).length:Int))) (by rw [←e1,←e2,←e3,←e4]) ?_
 exact Qd Z (aZ Z (ag 2 Z) eA ay) ⟨Z,Z⟩
theorem c_ref03_Valid (x y:Int):Fn Tryz.prog 39 [(kPair kZ kZ).is (x,y)] (kBool.is (decide (0<y))):=by
 refine aO Tryz.func39 Z Z fun m w=>Cr<|aY .n Z fun b1=>Wa Z<|Wr<|Ws (aw Z bX Z)<|Ws (af (p:=kZ.is y) Z (ag 0 Z) (am Li) ae Z)<|Ws (f1 eB Z (eh y))<|Ws (cz Z Z)<|Wa Z<|Wn<|aA ?_
 exact Qd Z (du Z (ah (y:=decide (0<y)) (decide_eq_decide.2 sgn_pos_iff)) ay) ⟨Z,Z⟩
theorem c_ref03_Negr (n:Nat) (x y:Int) (hx:Sz n x) (hy:Sz n y) (h0:0<y) (hn:n≤68719476736):Fn Tryz.prog 174 [(kPair kZ kZ).is (x,y)] (kRC.is (rq (-rv (x,y)))):=by
 refine aO Tryz.func174 Z Z fun m w=>Cr<|aY .n Z fun b1=>aX .n ba fun b2=>Wn<|ab ?_
 refine a5 (Γ:=[.fr (VP.pt b1 0),.fr (kZ.is x),.fr (kC.is (-x)),.fr (VP.pt b1 2),.fr (kZ.is y),.fr (kRC.is (rmk (-x) y))]) (aa Z (fun N=>aw Z cx Z) (aa Z (fun N=>af (p:=kZ.is x) Z (mN N 1 Z) (aC Li) ae Z) (aa Z (fun N=>f1 fn209 Z (fm x)) (aa Z (fun N=>aw Z bX Z) (aa Z (fun N=>af (p:=kZ.is y) Z (mN N 1 Z) (am Li) ae Z) (aa Z (fun N=>aB ef (ai Z (aL (hx.neg.sm (by omega))) (aP Z ao)) (d6 (-x) y (by omega))) oz))))))<|fun σ1=>?_
 refine aE .n (aD (l:=kRC) (u:=rmk (-x) y) 0 Z Z Z aj Z Lr)<|Wn<|aA<|tb 0 Z (y:=(rq (-rv (x,y)))) (raw_neg h0) ?_
 exact Qd Z (aZ Z (ag 0 Z) aj ay) ⟨Z,Z⟩
theorem c_ref03_Addr (n:Nat) (p:Rat) (x y:Int) (hp:RZ n p) (hx:Sz n x) (hy:Sz n y) (h0:0<y) (hn:n≤68719476736):Fn Tryz.prog 74 [(kPair kZ kZ).is (x,y),kRC.is (rq p)] (kRC.is (rq (rv (x,y)+p))):=by
 refine aO Tryz.func74 Z Z fun m w=>Cr<|aY .n Z fun b1=>aY .n Z fun b2=>aX .n ba fun b3=>Wr<|Ws (aw Z cx Z)<|Ws (af (p:=kZ.is x) Z (ag 2 Z) (aC Li) ae Z)<|Ws (aw Z bX Z)<|Ws (af Z (ag 1 Z) (am Li) ae Z)<|Ws (aB dx (aP Z (ai Z (aL (hp.b.sm (by omega))) ao)) (dq x ((rq p).2)))<|Ax (l:=kC) (u:=x*((rq p).2)) bc Z ae (fun _=>Z) Lr fun b4=>Wr<|Ws (aw Z cx Z)<|Ws (af Z (ag 2 Z) (aC Li) ae Z)<|Ws (aw Z bX Z) ?_
 refine Ws (af (p:=kZ.is y) Z (ag 3 Z) (am Li) ae Z)<|Ws (aB dx (ai Z (aL (hp.a.sm (by omega))) (aP Z ao)) (dq ((rq p).1) y))<|Ax (l:=kC) (u:=((rq p).1)*y) bc Z ae (fun _=>Z) Lr fun b5=>Wn<|ab ?_
 refine a5 (Γ:=[.fr (kC.is (x*((rq p).2))),.fr (kC.is (((rq p).1)*y)),.fr (kC.is ((x*((rq p).2))+(((rq p).1)*y))),.fr (VP.pt b1 2),.fr (kZ.is y),.fr (VP.pt b2 2),.fr (kC.is ((rq p).2)),.fr (kC.is (y*((rq p).2))),.fr (kRC.is (rmk ((x*((rq p).2))+(((rq p).1)*y)) (y*((rq p).2))))]) (aa Z (fun N=>af Z (mN N 1 Z) Li ae Z) (aa Z (fun N=>af Z (mN N 0 Z) Li ae Z) (aa Z (fun N=>aB eY (ai Z (aL ((hx.mul hp.b).sm (by omega))) (ai Z (aL ((hp.a.mul hy).sm (by omega))) ao)) (eQ (x*((rq p).2)) (((rq p).1)*y))) (aa Z (fun N=>aw Z bX Z) (aa Z (fun N=>af (p:=kZ.is y) Z (mN N 4 Z) (am Li) ae Z) (aa Z (fun N=>aw Z bX Z) (aa Z (fun N=>af Z (mN N 3 Z) (am Li) ae Z) (aa Z (fun N=>aB dx (aP Z (ai Z (aL (hp.b.sm (by omega))) ao)) (dq y ((rq p).2))) (aa Z (fun N=>aB ef (ai Z (aL (((hx.mul hp.b).add (hp.a.mul hy)).sm (by omega))) (ai Z (aL ((hy.mul hp.b).sm (by omega))) ao)) (d6 ((x*((rq p).2))+(((rq p).1)*y)) (y*((rq p).2)) (Int.mul_ne_zero (by omega) (dX p)))) oz)))))))))<|fun σ1=>?_
 refine aE .n (aD (l:=kRC) (u:=rmk ((x*((rq p).2))+(((rq p).1)*y)) (y*((rq p).2))) 2 Z Z Z aj Z Lr)<|Wn<|aA<|tb 2 Z (y:=(rq (rv (x,y)+p))) (by have e:=raw_add (x:=x) (u:=(rq p).1) h0 (rq_den_pos p);rw [show ((rq p).1,(rq p).2)=rq p from rfl,rv_rq] at e;exact e) ?_
 exact Qd Z (aZ Z (ag 2 Z) aj ay) ⟨Z,Z⟩
theorem c_ref03_Subr1 (n:Nat) (p:Rat) (x y:Int) (hp:RZ n p) (hx:Sz n x) (hy:Sz n y) (h0:0<y) (hn:n≤68719476736):Fn Tryz.prog 103 [(kPair kZ kZ).is (x,y),kRC.is (rq p)] (kRC.is (rq (rv (x,y)-p))):=by
 refine aO Tryz.func103 Z Z fun m w=>Cr<|aY .n Z fun b1=>aY .n Z fun b2=>aX .n ba fun b3=>Wn<|ab ?_
 refine a5 (Γ:=[.fr ((kPair kZ kZ).is (x,y)),.fr (kRC.is (rq p)),.fr (kRC.is (rq (-p))),.fr (kRC.is (rq (rv (x,y)+(-p))))]) (aa Z (fun N=>af (p:=(kPair kZ kZ).is (x,y)) Z (mN N 2 Z) Li aj Z) (aa Z (fun N=>af Z (mN N 1 Z) Li aj Z) (aa Z (fun N=>f1 fn174 Z (c_ref03_Neg n p hp hn)) (aa Z (fun N=>f2 eC Z Z (c_ref03_Addr n (-p) x y hp.neg hx hy h0 hn)) oz))))<|fun σ1=>?_
 refine aE .n (aD (l:=kRC) (u:=rq (rv (x,y)+(-p))) 0 Z Z Z aj Z Lr)<|Wn<|aA<|tb 0 Z (y:=(rq (rv (x,y)-p))) (by rw [Rat.sub_eq_add_neg]) ?_
 exact Qd Z (aZ Z (ag 0 Z) aj ay) ⟨Z,Z⟩
theorem c_ref03_Subr2 (n:Nat) (p:Rat) (x y:Int) (hp:RZ n p) (hx:Sz n x) (hy:Sz n y) (h0:0<y) (hn:n≤68719476736):Fn Tryz.prog 103 [kRC.is (rq p),(kPair kZ kZ).is (x,y)] (kRC.is (rq (p-rv (x,y)))):=by
 refine aO Tryz.func103 Z Z fun m w=>Cr<|aY .n Z fun b1=>aY .n Z fun b2=>aX .n ba fun b3=>Wn<|ab ?_
 refine a5 (Γ:=[.fr (kRC.is (rq p)),.fr ((kPair kZ kZ).is (x,y)),.fr (kRC.is (rq (-rv (x,y)))),.fr (kRC.is (rq (p+(-rv (x,y)))))]) (aa Z (fun N=>af Z (mN N 2 Z) Li aj Z) (aa Z (fun N=>af (p:=(kPair kZ kZ).is (x,y)) Z (mN N 1 Z) Li aj Z) (aa Z (fun N=>f1 fn174 Z (c_ref03_Negr n x y hx hy h0 hn)) (aa Z (fun N=>f2 eC Z Z (eH n p (-rv (x,y)) hp ((rv_RZ (x:=(x,y)) h0 hx hy).neg) hn)) oz))))<|fun σ1=>?_
 refine aE .n (aD (l:=kRC) (u:=rq (p+(-rv (x,y)))) 0 Z Z Z aj Z Lr)<|Wn<|aA<|tb 0 Z (y:=(rq (p-rv (x,y)))) (by rw [Rat.sub_eq_add_neg]) ?_
 exact Qd Z (aZ Z (ag 0 Z) aj ay) ⟨Z,Z⟩
theorem c_ref18_zero  : Fn Tryz.prog 73 [] (kRC.is (rq (0:Rat))):=by
 refine aO Tryz.func73 Z Z fun m w=>Cr<|aX .n ba fun b1=>Wr<|Ws (aB dI (ai Z (cF (by omega)) ao) (dF 0))<|Ws (aB dJ (ai Z (aL (by exact Sm_lit (by decide))) ao) (dE 0))<|aE .n (aD (l:=kRC) (u:=rq (0:Rat)) 0 Z Z Z aj Z Lr)<|Wn<|aA<|tb 0 Z (y:=(rq (0:Rat))) Z ?_
 exact Qd Z (aZ Z (ag 0 Z) aj ay) ⟨Z,Z⟩
abbrev fC:=@c_ref18_zero
theorem c_ref18_Check (b:List (List Int)) (t:List (Int×Int)):Fn Tryz.prog 20 [kMZ.is b,(kSl (kPair kZ kZ)).is t] (kN6.is (askE b t)):=by
 refine aO Tryz.func20 Z Z fun m w=>a9 (i:=1) Z bI fun hB1=>a9 (i:=0) Z bI fun hB0=>a9 (i:=0) Z eT fun hlc=>Cr<|Wa Z<|Wr<|Wm Z<|Ws (f1 fn48 Z (c_ref05_Valid b))<|Wa Z<|Wn<|ab<|Cr<|Wm Z<|Ws (bG Z Z)<|Wn ?_
 refine aM Z (fun h_t11=>?_)<|fun h_t11=>?_
 ·
  refine Cr<|Wm Z<|Wa Z<|Wn<|aA<|a8<|tl 4 Z (y:=(askE b t)) (askE_1 h_t11).symm ?_
  exact Qd Z (aI Z ay) ⟨Z,Z⟩
 ·
  refine Ck<|ab<|ab ?_
  have hlc0:=hlc 0
  have hb0:=(basis_of (b:=b) (by omega)).n0
  refine ak<|Wm Z<|Ws (aK Z U26)<|Wm Z<|Ws (aU 0 Z Z U22 aJ Z (v:=(b.getD 0 [])) (gd [] (by omega)))<|Ws (aQ Z aJ)<|Ws (aK Z U23)<|Ws (bG Z Z)<|Wn ?_
  refine aM Z (fun h_t19=>?_)<|fun h_t19=>?_
  ·
   refine Cr<|Wa Z<|Wn<|aA<|a8<|tl 4 Z (y:=(askE b t)) (askE_2 h_t11 (by omega)).symm ?_
   exact Qd Z (aI Z ay) ⟨Z,Z⟩
  ·
   refine Ck<|ab<|Cr<|Wa Z<|Wn<|aF<|bL (fun (i:Nat)=>i≤t.length∧denB t i=true) (fun (i:Nat)=>[(0,kMZ.is b),(1,(kSl (kPair kZ kZ)).is t),(6,kN6.is (i:Int))]) (fun (i:Nat)=>[]) (fun (i:Nat)=>t.length-i) 0 ⟨Nat.zero_le _,denB_0 t⟩ (ac Z (ac Z (az Z (ah (y:=(0:Int)) (by rfl)) ar))) (aH _) ?_
   intro i ⟨hi,hd⟩
   refine ab<|Cr<|Wm Z<|Wm Z<|Ws (aK Z U26)<|Ws (aW Z Z)<|Wn ?_
   refine aM Z (fun h_t23=>?_)<|fun h_t23=>?_
   ·
    refine Ck<|ab<|aF<|Cr<|Wm Z<|Wm Z<|Ws (aU i Z Z U26 aj Z (v:=(t.getD i (0,0))) (gd (0,0) (by omega)))<|Ws (aQ Z aj)<|Ws (aB fn39 (ai Z (ah (y:=((t.getD i (0,0)).1,(t.getD i (0,0)).2)) (by rfl)) ao) (c_ref03_Valid ((t.getD i (0,0)).1) ((t.getD i (0,0)).2)))<|Ws (ez Z)<|Wn ?_
    refine eN Z (fun h_t31=>?_)<|fun h_t31=>?_
    ·
     refine Cr<|Wa Z<|Wn<|aA<|bU<|a8<|a8<|bU<|a8<|tl 4 Z (y:=(askE b t)) (askE_3 h_t11 (by omega) (denB_n (i:=i) (by omega) (by simpa using h_t31))).symm ?_
     exact Qd Z (aI Z ay) ⟨Z,Z⟩
    ·
     refine cB<|Qb<|ak<|Wm Z<|Ws (aS Z Z (c:=((i:Int)+1)) (aG (by omega)))<|Wa Z<|au ?_
     exact bF (i+1) (by omega) ⟨by omega,denB_s (by omega) hd (by simpa using h_t31)⟩ (ac Z (ac Z (az Z (ah (y:=(((i+1):Nat):Int)) (by rfl)) ar)))<|aH _
   ·
    refine Ex<|ab<|ab ?_
    have hdn:denB t t.length=true:=by rw [show t.length=i by omega];exact hd
    refine ak<|Wa Z<|Wn<|aF<|bL (fun (j:Nat)=>j≤t.length∧bitB t j=true) (fun (j:Nat)=>[(0,kMZ.is b),(1,(kSl (kPair kZ kZ)).is t),(7,kN6.is (j:Int))]) (fun (j:Nat)=>[]) (fun (j:Nat)=>t.length-j) 0 ⟨Nat.zero_le _,bitB_0 t⟩ (ac Z (ac Z (az Z (ah (y:=(0:Int)) (by rfl)) ar))) (aH _) ?_
    intro j ⟨hj,hb⟩
    refine ab<|Cr<|Wm Z<|Wm Z<|Ws (aK Z U26)<|Ws (aW Z Z)<|Wn ?_
    refine aM Z (fun h_t35=>?_)<|fun h_t35=>?_
    ·
     refine Ck<|ab<|aF<|Cr<|Wm Z<|Wm Z<|Ws (aU j Z Z U26 aj Z (v:=(t.getD j (0,0))) (gd (0,0) (by omega)))<|Ws (cL Z cx (aC Li) Z)<|Ws (aQ Z ae)<|Ws (f1 fn61 Z (c_ref02_Bits ((t.getD j (0,0)).1)))<|Ws (cz Z Z)<|Wm Z ?_
     refine cN 45 Z (fun h_t45=>?_)<|fun h_t45=>?_
     ·
      refine Kt Z Z<|Kt Z Z<|Kt Z Z<|Kt Z Z<|Kt Z Z<|Kt Z Z<|Kt Z Z<|Ws (cC Z Z)<|Wn<|eM Z<|Cr<|Wa Z<|Wn<|aA<|bU<|a8<|a8<|bU<|a8<|tl 4 Z (y:=(askE b t)) (askE_4 h_t11 (by omega) hdn (bitB_n (i:=j) (by omega) (.inl h_t45))).symm ?_
      exact Qd Z (aI Z ay) ⟨Z,Z⟩
     ·
      refine Wg Z Z (bY Z)<|Wg Z Z (bY Z)<|Wg Z Z (aU j Z Z U26 aj Z (v:=(t.getD j (0,0))) (gd (0,0) (by omega)))<|Wg Z Z (cL Z bX (am Li) Z)<|Wg Z Z (aQ Z ae)<|Wg Z Z (f1 fn61 Z (c_ref02_Bits ((t.getD j (0,0)).2)))<|Wg Z Z (cz Z Z)<|Ws (cg Z Z)<|Wn ?_
      refine aM Z (fun h_t53=>?_)<|fun h_t53=>?_
      ·
       refine Cr<|Wa Z<|Wn<|aA<|bU<|a8<|a8<|bU<|a8<|tl 4 Z (y:=(askE b t)) (askE_4 h_t11 (by omega) hdn (bitB_n (i:=j) (by omega) (.inr (by simpa using h_t53)))).symm ?_
       exact Qd Z (aI Z ay) ⟨Z,Z⟩
      ·
       refine cB<|Qb<|ak<|Wm Z<|Ws (aS Z Z (c:=((j:Int)+1)) (aG (by omega)))<|Wa Z<|au ?_
       exact bF (j+1) (by omega) ⟨by omega,bitB_s (by omega) hb h_t45 (by simpa using h_t53)⟩ (ac Z (ac Z (az Z (ah (y:=(((j+1):Nat):Int)) (by rfl)) ar)))<|aH _
    ·
     refine Ex<|ab ?_
     have hbn:bitB t t.length=true:=by rw [show t.length=j by omega];exact hb
     refine ak<|Wa Z<|Wn<|aA<|tl 4 Z (y:=(askE b t)) (askE_5 h_t11 (by omega) hdn hbn).symm ?_
     exact Qd Z (aI Z ay) ⟨Z,Z⟩
theorem c_ref05_Star (G:Nat→Nat→Int) (n nB i:Nat) (hs:SymG G) (hP:PosU G n) (hi:i<n) (h12:n≤12) (hD:∀k,k≤n→Sz nB (uD G k)) (hB:nB≤68719476736):Fn Tryz.prog 75 [kGso.is (gDs (G) n,gLs (G) n),kN6.is (i:Int)] (kRC.is (rq (frS G i))):=by
 refine aO Tryz.func75 Z Z fun m w=>Cr<|aY .n Z fun b1=>aX .n ba fun b2=>Wn<|ab ?_
 refine a5 (Γ:=[.fr (VP.pt b1 0),.fr (kVC.is (gDs (G) n)),.fr (kN6.is (i:Int)),.fr (kN6.is ((i:Int)+1)),.fr (VP.pim kC (uD G (i+1))),.fr (kC.is (uD G (i+1))),.fr (VP.pt b1 0),.fr (kVC.is (gDs (G) n)),.fr (kN6.is (i:Int)),.fr (VP.pim kC (uD G i)),.fr (kC.is (uD G i)),.fr (kRC.is (rmk (uD G (i+1)) (uD G i)))]) (aa Z (fun N=>aw Z cK Z) (aa Z (fun N=>af (p:=kVC.is (gDs (G) n)) Z (mN N 1 Z) (aC Li) aJ Z) (om Z Z (aa Z (fun N=>aS Z Z (c:=((i:Int)+1)) (aG (by omega))) (aa Z (fun N=>aU (i+1) Z Z U23 ae (by omega) (v:=(uD G (i+1))) (dv (by omega))) (aa Z (fun N=>aQ Z ae) (aa Z (fun N=>aw Z cK Z) (aa Z (fun N=>af (p:=kVC.is (gDs (G) n)) Z (mN N 1 Z) (aC Li) aJ Z) (om Z Z (aa Z (fun N=>aU i Z Z U23 ae (by omega) (v:=(uD G i)) (dv (by omega))) (aa Z (fun N=>aQ Z ae) (aa Z (fun N=>aB ef (ai Z (aL ((hD (i+1) (by omega)).sm (by omega))) (ai Z (aL ((hD i (by omega)).sm (by omega))) ao)) (d6 (uD G (i+1)) (uD G i) (uD_ne hP (by omega)))) oz))))))))))))<|fun σ1=>?_
 refine aE .n (aD (l:=kRC) (u:=rmk (uD G (i+1)) (uD G i)) 0 Z Z Z aj Z Lr)<|Wn<|aA<|tb 0 Z (y:=(rq (frS G i))) (frS_rmk hs hP hi) ?_
 exact Qd Z (aZ Z (ag 0 Z) aj ay) ⟨Z,Z⟩
theorem c_ref03_Mulr (n:Nat) (p:Rat) (x y:Int) (hp:RZ n p) (hx:Sz n x) (hy:Sz n y) (h0:0<y) (hn:n≤68719476736):Fn Tryz.prog 104 [(kPair kZ kZ).is (x,y),kRC.is (rq p)] (kRC.is (rq (rv (x,y)*p))):=by
 refine aO Tryz.func104 Z Z fun m w=>Cr<|aY .n Z fun b1=>aY .n Z fun b2=>aX .n ba fun b3=>Wn<|ab ?_
 refine a5 (Γ:=[.fr (VP.pt b1 0),.fr (kZ.is x),.fr (VP.pt b2 0),.fr (kC.is ((rq p).1)),.fr (kC.is (x*((rq p).1))),.fr (VP.pt b1 2),.fr (kZ.is y),.fr (VP.pt b2 2),.fr (kC.is ((rq p).2)),.fr (kC.is (y*((rq p).2))),.fr (kRC.is (rmk (x*((rq p).1)) (y*((rq p).2))))]) (aa Z (fun N=>aw Z cx Z) (aa Z (fun N=>af (p:=kZ.is x) Z (mN N 2 Z) (aC Li) ae Z) (aa Z (fun N=>aw Z cx Z) (aa Z (fun N=>af Z (mN N 1 Z) (aC Li) ae Z) (aa Z (fun N=>aB dx (aP Z (ai Z (aL (hp.a.sm (by omega))) ao)) (dq x ((rq p).1))) (aa Z (fun N=>aw Z bX Z) (aa Z (fun N=>af (p:=kZ.is y) Z (mN N 2 Z) (am Li) ae Z) (aa Z (fun N=>aw Z bX Z) (aa Z (fun N=>af Z (mN N 1 Z) (am Li) ae Z) (aa Z (fun N=>aB dx (aP Z (ai Z (aL (hp.b.sm (by omega))) ao)) (dq y ((rq p).2))) (aa Z (fun N=>aB ef (ai Z (aL ((hx.mul hp.a).sm (by omega))) (ai Z (aL ((hy.mul hp.b).sm (by omega))) ao)) (d6 (x*((rq p).1)) (y*((rq p).2)) (Int.mul_ne_zero (by omega) (dX p)))) oz)))))))))))<|fun σ1=>?_
 refine aE .n (aD (l:=kRC) (u:=rmk (x*((rq p).1)) (y*((rq p).2))) 0 Z Z Z aj Z Lr)<|Wn<|aA<|tb 0 Z (y:=(rq (rv (x,y)*p))) (by have e:=raw_mul (x:=x) (u:=(rq p).1) h0 (rq_den_pos p);rw [show ((rq p).1,(rq p).2)=rq p from rfl,rv_rq] at e;exact e) ?_
 exact Qd Z (aZ Z (ag 0 Z) aj ay) ⟨Z,Z⟩
theorem c_ref05_Mu (G:Nat→Nat→Int) (n nB i j:Nat) (hs:SymG G) (hP:PosU G n) (hj:j<i) (hi:i<n) (h12:n≤12) (hD:∀k,k≤n→Sz nB (uD G k)) (hL:∀x k,x<n→k<x→Sz nB (uE G k x k)) (hB:nB≤68719476736):Fn Tryz.prog 91 [kGso.is (gDs (G) n,gLs (G) n),kN6.is (i:Int),kN6.is (j:Int)] (kRC.is (rq (frM G i j))):=by
 refine aO Tryz.func91 Z Z fun m w=>Cr<|aY .n Z fun b1=>aX .n ba fun b2=>Wn<|ab<|Cr<|Wm Z<|Wm Z<|Ws (cE Z Z)<|Wn ?_
 refine CN Z (by omega) fun h_t9=>?_
 refine Ck<|ab ?_
 refine a5 (Γ:=[.fr (VP.pt b1 1),.fr (kMC.is (gLs (G) n)),.fr (kN6.is (i:Int)),.fr (VP.pim kVC ((gLs (G) n).getD i [])),.fr (kVC.is ((gLs (G) n).getD i [])),.fr (kN6.is (j:Int)),.fr (VP.pim kC (uE G j i j)),.fr (kC.is (uE G j i j)),.fr (VP.pt b1 0),.fr (kVC.is (gDs (G) n)),.fr (kN6.is (j:Int)),.fr (kN6.is ((j:Int)+1)),.fr (VP.pim kC (uD G (j+1))),.fr (kC.is (uD G (j+1))),.fr (kRC.is (rmk (uE G j i j) (uD G (j+1))))]) (aa Z (fun N=>aw Z cm Z) (aa Z (fun N=>af (p:=kMC.is (gLs (G) n)) Z (mN N 1 Z) (am Li) bg Z) (om Z Z (aa Z (fun N=>aU i Z Z U22 aJ Z (v:=((gLs (G) n).getD i [])) (gd [] (by rw [gLs_len];omega))) (aa Z (fun N=>aQ Z aJ) (om Z Z (aa Z (fun N=>aU j Z Z U23 ae Z (v:=(uE G j i j)) (fP (by omega) (by omega))) (aa Z (fun N=>aQ Z ae) (aa Z (fun N=>aw Z cK Z) (aa Z (fun N=>af (p:=kVC.is (gDs (G) n)) Z (mN N 1 Z) (aC Li) aJ Z) (om Z Z (aa Z (fun N=>aS Z Z (c:=((j:Int)+1)) (aG (by omega))) (aa Z (fun N=>aU (j+1) Z Z U23 ae (by omega) (v:=(uD G (j+1))) (dv (by omega))) (aa Z (fun N=>aQ Z ae) (aa Z (fun N=>aB ef (ai Z (aL ((hL i j (by omega) (by omega)).sm (by omega))) (ai Z (aL ((hD (j+1) (by omega)).sm (by omega))) ao)) (d6 (uE G j i j) (uD G (j+1)) (uD_ne hP (by omega)))) oz)))))))))))))))<|fun σ1=>?_
 refine aE .n (aD (l:=kRC) (u:=rmk (uE G j i j) (uD G (j+1))) 0 Z Z Z aj Z Lr)<|Wn<|aA<|tb 0 Z (y:=(rq (frM G i j))) (frM_rmk hs hP hj hi) ?_
 exact Qd Z (aZ Z (ag 0 Z) aj ay) ⟨Z,Z⟩
theorem c_ref11_aim (G:Nat→Nat→Int) (n:Nat) (c:Nat→Rat) (r:Rat) (hP:TZ G n c) (hr:RZ 21000000000 r) (hr0:0≤(rq r).1) (i:Nat) (hi:i<n):Fn Tryz.prog 236 [kTre.is ((gDs (G) n,gLs (G) n),tcL c n,(rq r)),kN6.is (i:Int)] (kRC.is (rq (c i))):=by
 refine aO Tryz.func236 Z Z fun m w=>?_
 have hn0:=hP.n0
 have hn12:=hP.n12
 have hTl:=tcL_len c n
 have hLl:=gLs_len G n
 refine Cr<|aY .n Z fun b1=>aX .n ba fun b2=>Wn<|ab<|Cr<|Ws (aw Z dY Z)<|Ws (af (p:=(kSl kRC).is (tcL c n)) Z (ag 1 Z) (am (aC Li)) bM Z)<|Ws (aK Z U26)<|Ws (cE Z Z)<|Wn ?_
 refine CN Z (by omega) fun h_t8=>?_
 refine Ck<|ab ?_
 refine a5 (Γ:=[.fr (VP.pt b1 2),.fr ((kSl kRC).is (tcL c n)),.fr (kN6.is (i:Int)),.fr (VP.pim kRC (rq (c i))),.fr (VP.pim kC ((rq (c i)).1)),.fr (kC.is ((rq (c i)).1)),.fr (VP.pt b1 2),.fr ((kSl kRC).is (tcL c n)),.fr (kN6.is (i:Int)),.fr (VP.pim kRC (rq (c i))),.fr (VP.pim kC ((rq (c i)).2)),.fr (kC.is ((rq (c i)).2)),.fr (kRC.is (rmk ((rq (c i)).1) ((rq (c i)).2)))]) (aa Z (fun N=>aw Z dY Z) (aa Z (fun N=>af (p:=(kSl kRC).is (tcL c n)) Z (mN N 1 Z) (am (aC Li)) bM Z) (om Z Z (aa Z (fun N=>aU i Z Z U26 aj Z (v:=(rq (c i))) (fi (by omega))) (aa Z (fun N=>cL Z cx (aC Li) Z) (aa Z (fun N=>aQ Z ae) (aa Z (fun N=>aw Z dY Z) (aa Z (fun N=>af (p:=(kSl kRC).is (tcL c n)) Z (mN N 1 Z) (am (aC Li)) bM Z) (om Z Z (aa Z (fun N=>aU i Z Z U26 aj Z (v:=(rq (c i))) (fi (by omega))) (aa Z (fun N=>cL Z bX (am Li) Z) (aa Z (fun N=>aQ Z ae) (aa Z (fun N=>aB ef (ai Z (aL ((hP.c i hi).a.sm (by decide))) (ai Z (aL ((hP.c i hi).b.sm (by decide))) ao)) (d6 ((rq (c i)).1) ((rq (c i)).2) (dX _))) oz)))))))))))))<|fun σ1=>?_
 refine aE .n (aD (l:=kRC) (u:=rmk ((rq (c i)).1) ((rq (c i)).2)) 0 Z Z Z aj Z Lr)<|Wn<|aA<|tb 0 Z (y:=(rq (c i))) (rmk_self _) ?_
 exact Qd Z (aZ Z (ag 0 Z) aj ay) ⟨Z,Z⟩
abbrev gw:=@c_ref11_aim
theorem c_ref11_Centre (G:Nat→Nat→Int) (n:Nat) (c:Nat→Rat) (r:Rat) (hP:TZ G n c) (hr:RZ 21000000000 r) (hr0:0≤(rq r).1) (s:List Int) (hs:SzL 30000000 s) (hl:s.length<n):Fn Tryz.prog 173 [kTre.is ((gDs (G) n,gLs (G) n),tcL c n,(rq r)),kVC.is s] (kRC.is (rq (cenQ G n c (sfx s) (n-1-s.length) s.length))):=by
 refine aO Tryz.func173 Z Z fun m w=>?_
 have hn0:=hP.n0
 have hn12:=hP.n12
 have hTl:=tcL_len c n
 have hLl:=gLs_len G n
 refine Cr<|aY .n Z fun b1=>aX .n ba fun b2=>Wr<|Ws (aw Z dm Z)<|Ws (aw Z cm Z)<|Ws (af (p:=kMC.is (gLs (G) n)) Z (ag 1 Z) (aC (am Li)) bg Z)<|Ws (aK Z U22)<|Wa Z<|Wn<|ab<|tl 5 Z (y:=(n:Int)) (by rw [hLl])<|ak<|Wm Z<|Ws (bf Z Z (c:=((n:Int)-1)) (aG (by omega)))<|Wm Z<|Ws (aK Z U23)<|Ws (bf Z Z (c:=(((n:Int)-1)-(s.length:Int))) (aG (by omega)))<|Wa Z ?_
 refine Wn<|ab<|tl 6 Z (y:=((n-1-s.length:Nat):Int)) (by omega)<|ak<|Ws (af (p:=kTre.is ((gDs (G) n,gLs (G) n),tcL c n,(rq r))) Z (ag 1 Z) Li cH Z)<|Wm Z<|Ws (aB fn236 (aP Z (ai Z (ah (y:=(((n-1-s.length):Nat):Int)) (by rfl)) ao)) (gw G n c r hP hr hr0 (n-1-s.length) (by omega)))<|Ax (l:=kRC) (u:=rq (c (n-1-s.length))) ba Z aj (fun _=>Z) Lr fun b3=>Wn<|ab<|Cr<|Wa Z<|Wn<|aF<|tb 0 Z (y:=(rq (cenQ G n c (sfx s) (n-1-s.length) 0))) (by rw [cen_00])<|bL (fun (k:Nat)=>k≤s.length) (fun (k:Nat)=>[(1,kVC.is s),(2,VP.pt b1 0),(4,VP.pt b2 0),(5,kN6.is (n:Int)),(6,kN6.is ((n-1-s.length:Nat):Int)),(7,VP.pt b3 0),(8,kN6.is (k:Int))]) (fun (k:Nat)=>[OB.box b3 31 kRC (rq (cenQ G n c (sfx s) (n-1-s.length) k)),OB.box b2 31 kRC (0,0),OB.box b1 33 kTre ((gDs (G) n,gLs (G) n),tcL c n,(rq r))]) (fun (k:Nat)=>s.length-k) 0 (Nat.zero_le _) (aq Z Z Z Z (ac Z (ac Z (az Z (ah (y:=(0:Int)) (by rfl)) ar)))) (aH _) ?_
 intro k hk
 refine ab<|Cr<|Wm Z<|Wm Z<|Ws (aK Z U23)<|Ws (aW Z Z)<|Wn ?_
 refine aM Z (fun h_t26=>?_)<|fun h_t26=>?_
 ·
  refine Ck<|ab<|aF<|Cr<|Wm Z<|Ws (bf Z Z (c:=((n:Int)-1)) (aG (by omega)))<|Wm Z<|Ws (bf Z Z (c:=(((n:Int)-1)-(k:Int))) (aG (by omega)))<|Wa Z<|Wn<|ab<|tl 9 Z (y:=((n-1-k:Nat):Int)) (by omega) ?_
  refine a5 (Γ:=[.fr (kVC.is s),.fr (kN6.is (k:Int)),.fr (VP.pim kC (s.getD k 0)),.fr (kC.is (s.getD k 0)),.fr (kRC.is (rq ((s.getD k 0):Rat))),.fr (kTre.is ((gDs (G) n,gLs (G) n),tcL c n,(rq r))),.fr (kN6.is ((n-1-k:Nat):Int)),.fr (kRC.is (rq (c (n-1-k)))),.fr (kRC.is (rq (((s.getD k 0:Int):Rat)-(c (n-1-k))))),.al (fun b=>OB.box b 31 kRC (0,0))]) (om Z Z (om Z Z (aa Z (fun N=>aU k Z Z U23 ae Z (v:=(s.getD k 0)) (gd 0 (by omega))) (aa Z (fun N=>aQ Z ae) (aa Z (fun N=>aB dJ (ai Z (aL ((hs k).sm (by decide))) ao) (dE (s.getD k 0))) (aa Z (fun N=>af (p:=kTre.is ((gDs (G) n,gLs (G) n),tcL c n,(rq r))) Z (mN N 2 Z) Li cH Z) (om Z Z (aa Z (fun N=>aB fn236 (aP Z (ai Z (ah (y:=(((n-1-k):Nat):Int)) (by rfl)) ao)) (gw G n c r hP hr hr0 (n-1-k) (by omega))) (aa Z (fun N=>aB d3 (ai Z (ah (y:=rq ((s.getD k 0:Int):Rat)) (by rfl)) (aP Z ao)) (em 30000001 ((s.getD k 0:Int):Rat) (c (n-1-k)) (cU hs k) ((hP.c (n-1-k) (by omega)).up (by decide)) (by decide))) (oc (cM Z ba) oz))))))))))<|fun σ1=>?_
  refine aE .n (aD (l:=kRC) (u:=rq (((s.getD k 0:Int):Rat)-(c (n-1-k)))) 0 Z Z Z aj Z Lr)<|Wn<|tb 0 Z (y:=(rq (sfx s k-c (n-1-k)))) Z ?_
  refine a5 (Γ:=[.fr (kRC.is (rq (cenQ G n c (sfx s) (n-1-s.length) k))),.fr (VP.pt b1 0),.fr (kGso.is (gDs (G) n,gLs (G) n)),.fr (kN6.is ((n-1-k:Nat):Int)),.fr (kN6.is ((n-1-s.length:Nat):Int)),.fr (kRC.is (rq (frM G (n-1-k) (n-1-s.length)))),.fr (kRC.is (rq (sfx s k-c (n-1-k)))),.fr (kRC.is (rq ((frM G (n-1-k) (n-1-s.length))*(sfx s k-c (n-1-k))))),.fr (kRC.is (rq ((cenQ G n c (sfx s) (n-1-s.length) k)-(frM G (n-1-k) (n-1-s.length)*(sfx s k-c (n-1-k))))))]) (aa Z (fun N=>af Z (mN N 1 Z) Li aj Z) (aa Z (fun N=>aw Z dm Z) (aa Z (fun N=>af (p:=kGso.is (gDs (G) n,gLs (G) n)) Z (mN N 3 Z) (aC Li) bm Z) (om Z Z (om Z Z (aa Z (fun N=>aB fn91 (aP Z (ai Z (ah (y:=(((n-1-k):Nat):Int)) (by rfl)) (ai Z (ah (y:=(((n-1-s.length):Nat):Int)) (by rfl)) ao))) (c_ref05_Mu G n 2300000 (n-1-k) (n-1-s.length) hP.s hP.p (by omega) (by omega) hP.n12 hP.d hP.l (by decide))) (aa Z (fun N=>af Z (mN N 0 Z) Li aj Z) (aa Z (fun N=>f2 dh Z Z (dl 58000002 (frM G (n-1-k) (n-1-s.length)) (sfx s k-c (n-1-k)) ((hP.m (n-1-k) (n-1-s.length) (by omega) (by omega)).up (by decide)) ((cU hs k).sub2 (hP.c (n-1-k) (by omega))) (by decide))) (aa Z (fun N=>aB d3 (aP Z (ai Z (ah (y:=rq (frM G (n-1-k) (n-1-s.length)*(sfx s k-c (n-1-k)))) (by rfl)) ao)) (em 800000000 (cenQ G n c (sfx s) (n-1-s.length) k) (frM G (n-1-k) (n-1-s.length)*(sfx s k-c (n-1-k))) (hP.cen (fun t _=>cU hs t) (by omega)) (((hP.m (n-1-k) (n-1-s.length) (by omega) (by omega)).mul ((cU hs k).sub2 (hP.c (n-1-k) (by omega)))).up (by decide)) (by decide))) oz)))))))))<|fun σ2=>?_
  refine aE .n (aD (l:=kRC) (u:=rq ((cenQ G n c (sfx s) (n-1-s.length) k)-(frM G (n-1-k) (n-1-s.length)*(sfx s k-c (n-1-k))))) 1 Z Z Z aj Z Lr)<|au<|Qb<|ak<|Wm Z<|Ws (aS Z Z (c:=((k:Int)+1)) (aG (by omega)))<|Wa Z<|au<|bi (bj [1,2,3] (by decide) Z)<|tb 0 Z (y:=(rq (cenQ G n c (sfx s) (n-1-s.length) (k+1)))) (by rw [cen_s2]) ?_
  exact bF (k+1) (by omega) (by omega) (aq Z Z Z Z (ac Z (ac Z (az Z (ah (y:=(((k+1):Nat):Int)) (by rfl)) ar))))<|aH _
 ·
  refine Ex<|ab<|tb 0 Z (y:=(rq (cenQ G n c (sfx s) (n-1-s.length) s.length))) (by rw [show k=s.length by omega])<|ak<|Ws (af Z (ag 0 Z) Li aj Z)<|aE .n (aD (l:=kRC) (u:=(rq (cenQ G n c (sfx s) (n-1-s.length) s.length))) 1 Z Z Z aj Z Lr)<|Wn<|aA ?_
  exact Qd Z (aZ Z (ag 1 Z) aj ay) ⟨Z,Z⟩
theorem c_ref11_Centreo (vs:Value) (G:Nat→Nat→Int) (n:Nat) (c:Nat→Rat) (r:Rat) (hP:TZ G n c) (hr:RZ 21000000000 r) (hr0:0≤(rq r).1) (s:List Int) (hs:SzL 30000000 s) (hl:s.length<n):Con Tryz.prog 173 [kTre.is ((gDs (G) n,gLs (G) n),tcL c n,(rq r)),VP.ex vs] [OB.row vs 29 kC s] (fun p Lo=>p=kRC.is (rq (cenQ G n c (sfx s) (n-1-s.length) s.length))∧Lo=[OB.row vs 29 kC s]∧True):=by
 refine aO Tryz.func173 Z Z fun m w=>?_
 have hn0:=hP.n0
 have hn12:=hP.n12
 have hTl:=tcL_len c n
 have hLl:=gLs_len G n
 refine Cr<|aY .n Z fun b1=>aX .n ba fun b2=>Wr<|Ws (aw Z dm Z)<|Ws (aw Z cm Z)<|Ws (af (p:=kMC.is (gLs (G) n)) Z (ag 1 Z) (aC (am Li)) bg Z)<|Ws (aK Z U22)<|Wa Z<|Wn<|ab<|tl 5 Z (y:=(n:Int)) (by rw [hLl])<|ak<|Wm Z<|Ws (bf Z Z (c:=((n:Int)-1)) (aG (by omega)))<|Wm Z<|Ws (c5 Z (ag 2 Z) U23)<|Ws (bf Z Z (c:=(((n:Int)-1)-(s.length:Int))) (aG (by omega)))<|Wa Z ?_
 refine Wn<|ab<|tl 6 Z (y:=((n-1-s.length:Nat):Int)) (by omega)<|ak<|Ws (af (p:=kTre.is ((gDs (G) n,gLs (G) n),tcL c n,(rq r))) Z (ag 1 Z) Li cH Z)<|Wm Z<|Ws (aB fn236 (aP Z (ai Z (ah (y:=(((n-1-s.length):Nat):Int)) (by rfl)) ao)) (gw G n c r hP hr hr0 (n-1-s.length) (by omega)))<|Ax (l:=kRC) (u:=rq (c (n-1-s.length))) ba Z aj (fun _=>Z) Lr fun b3=>Wn<|ab<|Cr<|Wa Z<|Wn<|aF<|tb 0 Z (y:=(rq (cenQ G n c (sfx s) (n-1-s.length) 0))) (by rw [cen_00])<|bL (fun (k:Nat)=>k≤s.length) (fun (k:Nat)=>[(1,VP.ex vs),(2,VP.pt b1 0),(4,VP.pt b2 0),(5,kN6.is (n:Int)),(6,kN6.is ((n-1-s.length:Nat):Int)),(7,VP.pt b3 0),(8,kN6.is (k:Int))]) (fun (k:Nat)=>[OB.box b3 31 kRC (rq (cenQ G n c (sfx s) (n-1-s.length) k)),OB.box b2 31 kRC (0,0),OB.box b1 33 kTre ((gDs (G) n,gLs (G) n),tcL c n,(rq r)),OB.row vs 29 kC s]) (fun (k:Nat)=>s.length-k) 0 (Nat.zero_le _) (aq Z Z Z Z (ac Z (ac Z (az Z (ah (y:=(0:Int)) (by rfl)) ar)))) (aH _) ?_
 intro k hk
 refine ab<|Cr<|Wm Z<|Wm Z<|Ws (c5 Z (ag 3 Z) U23)<|Ws (aW Z Z)<|Wn ?_
 refine aM Z (fun h_t26=>?_)<|fun h_t26=>?_
 ·
  refine Ck<|ab<|aF<|Cr<|Wm Z<|Ws (bf Z Z (c:=((n:Int)-1)) (aG (by omega)))<|Wm Z<|Ws (bf Z Z (c:=(((n:Int)-1)-(k:Int))) (aG (by omega)))<|Wa Z<|Wn<|ab<|tl 9 Z (y:=((n-1-k:Nat):Int)) (by omega) ?_
  refine a5 (Γ:=[.fr (VP.ex vs),.fr (kN6.is (k:Int)),.fr (VP.pel vs (k*2)),.fr (kC.is (s.getD k 0)),.fr (kRC.is (rq ((s.getD k 0):Rat))),.fr (kTre.is ((gDs (G) n,gLs (G) n),tcL c n,(rq r))),.fr (kN6.is ((n-1-k:Nat):Int)),.fr (kRC.is (rq (c (n-1-k)))),.fr (kRC.is (rq (((s.getD k 0:Int):Rat)-(c (n-1-k))))),.al (fun b=>OB.box b 31 kRC (0,0))]) (om Z Z (om Z Z (aa Z (fun N=>bb (k:=kC) (xs:=s) (n:=(k:Int)) k Z Z (mN N 3 Z) U23 ae Z (by omega)) (aa Z (fun N=>bq k Z (mN N 3 Z) Li Z (y:=(s.getD k 0)) (gd 0 (by omega)) ae Z) (aa Z (fun N=>aB dJ (ai Z (aL ((hs k).sm (by decide))) ao) (dE (s.getD k 0))) (aa Z (fun N=>af (p:=kTre.is ((gDs (G) n,gLs (G) n),tcL c n,(rq r))) Z (mN N 2 Z) Li cH Z) (om Z Z (aa Z (fun N=>aB fn236 (aP Z (ai Z (ah (y:=(((n-1-k):Nat):Int)) (by rfl)) ao)) (gw G n c r hP hr hr0 (n-1-k) (by omega))) (aa Z (fun N=>aB d3 (ai Z (ah (y:=rq ((s.getD k 0:Int):Rat)) (by rfl)) (aP Z ao)) (em 30000001 ((s.getD k 0:Int):Rat) (c (n-1-k)) (cU hs k) ((hP.c (n-1-k) (by omega)).up (by decide)) (by decide))) (oc (cM Z ba) oz))))))))))<|fun σ1=>?_
  refine aE .n (aD (l:=kRC) (u:=rq (((s.getD k 0:Int):Rat)-(c (n-1-k)))) 0 Z Z Z aj Z Lr)<|Wn<|tb 0 Z (y:=(rq (sfx s k-c (n-1-k)))) Z ?_
  refine a5 (Γ:=[.fr (kRC.is (rq (cenQ G n c (sfx s) (n-1-s.length) k))),.fr (VP.pt b1 0),.fr (kGso.is (gDs (G) n,gLs (G) n)),.fr (kN6.is ((n-1-k:Nat):Int)),.fr (kN6.is ((n-1-s.length:Nat):Int)),.fr (kRC.is (rq (frM G (n-1-k) (n-1-s.length)))),.fr (kRC.is (rq (sfx s k-c (n-1-k)))),.fr (kRC.is (rq ((frM G (n-1-k) (n-1-s.length))*(sfx s k-c (n-1-k))))),.fr (kRC.is (rq ((cenQ G n c (sfx s) (n-1-s.length) k)-(frM G (n-1-k) (n-1-s.length)*(sfx s k-c (n-1-k))))))]) (aa Z (fun N=>af Z (mN N 1 Z) Li aj Z) (aa Z (fun N=>aw Z dm Z) (aa Z (fun N=>af (p:=kGso.is (gDs (G) n,gLs (G) n)) Z (mN N 3 Z) (aC Li) bm Z) (om Z Z (om Z Z (aa Z (fun N=>aB fn91 (aP Z (ai Z (ah (y:=(((n-1-k):Nat):Int)) (by rfl)) (ai Z (ah (y:=(((n-1-s.length):Nat):Int)) (by rfl)) ao))) (c_ref05_Mu G n 2300000 (n-1-k) (n-1-s.length) hP.s hP.p (by omega) (by omega) hP.n12 hP.d hP.l (by decide))) (aa Z (fun N=>af Z (mN N 0 Z) Li aj Z) (aa Z (fun N=>f2 dh Z Z (dl 58000002 (frM G (n-1-k) (n-1-s.length)) (sfx s k-c (n-1-k)) ((hP.m (n-1-k) (n-1-s.length) (by omega) (by omega)).up (by decide)) ((cU hs k).sub2 (hP.c (n-1-k) (by omega))) (by decide))) (aa Z (fun N=>aB d3 (aP Z (ai Z (ah (y:=rq (frM G (n-1-k) (n-1-s.length)*(sfx s k-c (n-1-k)))) (by rfl)) ao)) (em 800000000 (cenQ G n c (sfx s) (n-1-s.length) k) (frM G (n-1-k) (n-1-s.length)*(sfx s k-c (n-1-k))) (hP.cen (fun t _=>cU hs t) (by omega)) (((hP.m (n-1-k) (n-1-s.length) (by omega) (by omega)).mul ((cU hs k).sub2 (hP.c (n-1-k) (by omega)))).up (by decide)) (by decide))) oz)))))))))<|fun σ2=>?_
  refine aE .n (aD (l:=kRC) (u:=rq ((cenQ G n c (sfx s) (n-1-s.length) k)-(frM G (n-1-k) (n-1-s.length)*(sfx s k-c (n-1-k))))) 1 Z Z Z aj Z Lr)<|au<|Qb<|ak<|Wm Z<|Ws (aS Z Z (c:=((k:Int)+1)) (aG (by omega)))<|Wa Z<|au<|bi (bj [1,2,3,4] (by decide) Z)<|tb 0 Z (y:=(rq (cenQ G n c (sfx s) (n-1-s.length) (k+1)))) (by rw [cen_s2]) ?_
  exact bF (k+1) (by omega) (by omega) (aq Z Z Z Z (ac Z (ac Z (az Z (ah (y:=(((k+1):Nat):Int)) (by rfl)) ar))))<|aH _
 ·
  refine Ex<|ab<|tb 0 Z (y:=(rq (cenQ G n c (sfx s) (n-1-s.length) s.length))) (by rw [show k=s.length by omega])<|ak<|Ws (af Z (ag 0 Z) Li aj Z)<|aE .n (aD (l:=kRC) (u:=(rq (cenQ G n c (sfx s) (n-1-s.length) s.length))) 1 Z Z Z aj Z Lr)<|Wn<|aA ?_
  exact bZ (.inl Z) Z (aZ Z (ag 1 Z) aj ay) (a6 (OS.skip (OS.skip (OS.skip (OS.keep OS.nil))))) ⟨Z,Z,trivial⟩
theorem c_ref11_Part (G:Nat→Nat→Int) (n:Nat) (c:Nat→Rat) (r:Rat) (hP:TZ G n c) (hr:RZ 21000000000 r) (hr0:0≤(rq r).1) (s:List Int) (hs:SzL 30000000 s) (hl:s.length≤n):Fn Tryz.prog 101 [kTre.is ((gDs (G) n,gLs (G) n),tcL c n,(rq r)),kVC.is s] (kRC.is (rq (parQ G n c (sfx s) s.length))):=by
 refine aO Tryz.func101 Z Z fun m w=>?_
 have hn0:=hP.n0
 have hn12:=hP.n12
 have hTl:=tcL_len c n
 have hLl:=gLs_len G n
 refine Cr<|aY .n Z fun b1=>aX .n ba fun b2=>Wr<|Ws (cd dP Z bz (.nil _))<|Ws (aB dJ (ai Z (aL (Sm_lit (by decide))) ao) (dE 0))<|Ax (l:=kRC) (u:=rq (0:Rat)) ba Z aj (fun _=>Z) Lr fun b3=>Wn<|ab<|Cr<|Wa Z<|Wn<|aF<|tb 0 Z (y:=(rq (parQ G n c (sfx s) 0))) Z<|bL (fun (i:Nat)=>i≤s.length) (fun (i:Nat)=>[(1,kVC.is s),(2,VP.pt b1 0),(4,VP.pt b2 0),(5,VP.pt b3 0),(6,kN6.is (i:Int))]) (fun (i:Nat)=>[OB.box b3 31 kRC (rq (parQ G n c (sfx s) i)),OB.box b2 31 kRC (0,0),OB.box b1 33 kTre ((gDs (G) n,gLs (G) n),tcL c n,(rq r))]) (fun (i:Nat)=>s.length-i) 0 (Nat.zero_le _) (aq Z Z Z Z (az Z (ah (y:=(0:Int)) (by rfl)) ar)) (aH _) ?_
 intro i hi
 refine ab<|Cr<|Wm Z<|Wm Z<|Ws (aK Z U23)<|Ws (aW Z Z)<|Wn ?_
 refine aM Z (fun h_t14=>?_)<|fun h_t14=>?_
 ·
  refine Ck<|ab<|aF<|ab ?_
  have hce:RZ 800000000 (cenQ G n c (sfx (s.take i)) (n-1-(s.take i).length) (s.take i).length):=hP.cen (fun t _=>sfx_RZ (hs.take i) t) (by simp;omega)
  have hof:RZ 830000002 (((s.getD i 0:Int):Rat)-(cenQ G n c (sfx (s.take i)) (n-1-(s.take i).length) (s.take i).length)):=(sfx_RZ hs i).sub2 hce
  refine ak<|Ws (aw Z dm Z)<|Ws (aw Z cm Z)<|Ws (af (p:=kMC.is (gLs (G) n)) Z (ag 2 Z) (aC (am Li)) bg Z)<|Ws (aK Z U22)<|Ws (bf Z Z (c:=(((gLs (G) n).length:Int)-1)) (aG (by omega)))<|Wm Z<|Ws (bf Z Z (c:=((((gLs (G) n).length:Int)-1)-(i:Int))) (aG (by omega)))<|Wa Z<|Wn<|ab<|tl 7 Z (y:=((n-1-i:Nat):Int)) (by rw [hLl];omega) ?_
  refine a5 (Γ:=[.fr (kVC.is s),.fr (kN6.is (i:Int)),.fr (VP.pim kC (s.getD i 0)),.fr (kC.is (s.getD i 0)),.fr (kRC.is (rq ((s.getD i 0):Rat))),.fr (kTre.is ((gDs (G) n,gLs (G) n),tcL c n,(rq r))),.fr (kVC.is s),.fr (kN6.is (i:Int)),.fr (kVC.is (s.take i)),.fr (kRC.is (rq (cenQ G n c (sfx (s.take i)) (n-1-(s.take i).length) (s.take i).length))),.fr (kRC.is (rq (((s.getD i 0:Int):Rat)-(cenQ G n c (sfx (s.take i)) (n-1-(s.take i).length) (s.take i).length)))),.al (fun b=>OB.box b 31 kRC (0,0))]) (om Z Z (om Z Z (aa Z (fun N=>aU i Z Z U23 ae Z (v:=(s.getD i 0)) (gd 0 (by omega))) (aa Z (fun N=>aQ Z ae) (aa Z (fun N=>aB dJ (ai Z (aL ((hs i).sm (by decide))) ao) (dE (s.getD i 0))) (aa Z (fun N=>af (p:=kTre.is ((gDs (G) n,gLs (G) n),tcL c n,(rq r))) Z (mN N 2 Z) Li cH Z) (om Z Z (om Z Z (aa Z (fun N=>O.slH i Z Z U23 ae Z (by omega)) (aa Z (fun N=>f2 fn173 Z Z (c_ref11_Centre G n c r hP hr hr0 (s.take i) (hs.take i) (by simp;omega))) (aa Z (fun N=>aB d3 (ai Z (ah (y:=rq ((s.getD i 0:Int):Rat)) (by rfl)) (aP Z ao)) (em 800000000 ((s.getD i 0:Int):Rat) (cenQ G n c (sfx (s.take i)) (n-1-(s.take i).length) (s.take i).length) ((cU hs i).up (by decide)) hce (by decide))) (oc (cM Z ba) oz))))))))))))<|fun σ1=>?_
  refine aE .n (aD (l:=kRC) (u:=rq (((s.getD i 0:Int):Rat)-(cenQ G n c (sfx (s.take i)) (n-1-(s.take i).length) (s.take i).length))) 0 Z Z Z aj Z Lr)<|Wn ?_
  refine a5 (Γ:=[.fr (kRC.is (rq (parQ G n c (sfx s) i))),.fr (kRC.is (rq (((s.getD i 0:Int):Rat)-(cenQ G n c (sfx (s.take i)) (n-1-(s.take i).length) (s.take i).length)))),.fr (kRC.is (rq (((s.getD i 0:Int):Rat)-(cenQ G n c (sfx (s.take i)) (n-1-(s.take i).length) (s.take i).length)))),.fr (kRC.is (rq ((((s.getD i 0:Int):Rat)-(cenQ G n c (sfx (s.take i)) (n-1-(s.take i).length) (s.take i).length))*(((s.getD i 0:Int):Rat)-(cenQ G n c (sfx (s.take i)) (n-1-(s.take i).length) (s.take i).length))))),.fr (VP.pt b1 0),.fr (kGso.is (gDs (G) n,gLs (G) n)),.fr (kN6.is ((n-1-i:Nat):Int)),.fr (kRC.is (rq (frS G (n-1-i)))),.fr (kRC.is (rq (((((s.getD i 0:Int):Rat)-(cenQ G n c (sfx (s.take i)) (n-1-(s.take i).length) (s.take i).length))*(((s.getD i 0:Int):Rat)-(cenQ G n c (sfx (s.take i)) (n-1-(s.take i).length) (s.take i).length)))*(frS G (n-1-i))))),.fr (kRC.is (rq ((parQ G n c (sfx s) i)+((((s.getD i 0:Int):Rat)-(cenQ G n c (sfx (s.take i)) (n-1-(s.take i).length) (s.take i).length))*(((s.getD i 0:Int):Rat)-(cenQ G n c (sfx (s.take i)) (n-1-(s.take i).length) (s.take i).length))*frS G (n-1-i)))))]) (aa Z (fun N=>af Z (mN N 1 Z) Li aj Z) (aa Z (fun N=>af Z (mN N 0 Z) Li aj Z) (aa Z (fun N=>af Z (mN N 0 Z) Li aj Z) (aa Z (fun N=>f2 dh Z Z (dl 830000002 (((s.getD i 0:Int):Rat)-(cenQ G n c (sfx (s.take i)) (n-1-(s.take i).length) (s.take i).length)) (((s.getD i 0:Int):Rat)-(cenQ G n c (sfx (s.take i)) (n-1-(s.take i).length) (s.take i).length)) hof hof (by decide))) (aa Z (fun N=>aw Z dm Z) (aa Z (fun N=>af (p:=kGso.is (gDs (G) n,gLs (G) n)) Z (mN N 3 Z) (aC Li) bm Z) (om Z Z (aa Z (fun N=>aB fn75 (aP Z (ai Z (ah (y:=(((n-1-i):Nat):Int)) (by rfl)) ao)) (c_ref05_Star G n 2300000 (n-1-i) hP.s hP.p (by omega) hP.n12 hP.d (by decide))) (aa Z (fun N=>f2 dh Z Z (dl 1660000004 ((((s.getD i 0:Int):Rat)-(cenQ G n c (sfx (s.take i)) (n-1-(s.take i).length) (s.take i).length))*(((s.getD i 0:Int):Rat)-(cenQ G n c (sfx (s.take i)) (n-1-(s.take i).length) (s.take i).length))) (frS G (n-1-i)) (hof.mul hof) ((hP.f (n-1-i) (by omega)).up (by decide)) (by decide))) (aa Z (fun N=>aB eC (aP Z (ai Z (ah (y:=rq ((((s.getD i 0:Int):Rat)-(cenQ G n c (sfx (s.take i)) (n-1-(s.take i).length) (s.take i).length))*(((s.getD i 0:Int):Rat)-(cenQ G n c (sfx (s.take i)) (n-1-(s.take i).length) (s.take i).length))*frS G (n-1-i))) (by rfl)) ao)) (eH 21000000000 (parQ G n c (sfx s) i) ((((s.getD i 0:Int):Rat)-(cenQ G n c (sfx (s.take i)) (n-1-(s.take i).length) (s.take i).length))*(((s.getD i 0:Int):Rat)-(cenQ G n c (sfx (s.take i)) (n-1-(s.take i).length) (s.take i).length))*frS G (n-1-i)) (hP.par (fun t _=>cU hs t) (by omega)) (((hof.mul hof).mul (hP.f (n-1-i) (by omega))).up (by decide)) (by decide))) oz))))))))))<|fun σ2=>?_
  refine aE .n (aD (l:=kRC) (u:=rq ((parQ G n c (sfx s) i)+((((s.getD i 0:Int):Rat)-(cenQ G n c (sfx (s.take i)) (n-1-(s.take i).length) (s.take i).length))*(((s.getD i 0:Int):Rat)-(cenQ G n c (sfx (s.take i)) (n-1-(s.take i).length) (s.take i).length))*frS G (n-1-i)))) 1 Z Z Z aj Z Lr)<|au<|Qb<|ak<|Wm Z<|Ws (aS Z Z (c:=((i:Int)+1)) (aG (by omega)))<|Wa Z<|au<|bi (bj [1,2,3] (by decide) Z)<|tb 0 Z (y:=(rq (parQ G n c (sfx s) (i+1)))) (by rw [par_s (by omega)]) ?_
  exact bF (i+1) (by omega) (by omega) (aq Z Z Z Z (az Z (ah (y:=(((i+1):Nat):Int)) (by rfl)) ar))<|aH _
 ·
  refine Ex<|ab<|tb 0 Z (y:=(rq (parQ G n c (sfx s) s.length))) (by rw [show i=s.length by omega])<|ak<|Ws (af Z (ag 0 Z) Li aj Z)<|aE .n (aD (l:=kRC) (u:=(rq (parQ G n c (sfx s) s.length))) 1 Z Z Z aj Z Lr)<|Wn<|aA ?_
  exact Qd Z (aZ Z (ag 1 Z) aj ay) ⟨Z,Z⟩
theorem c_ref18_Distancea (u:List Int) (t:List (Int×Int)) (hD:DistP u t):Fn Tryz.prog 40 [kVZ.is u,(kSl (kPair kZ kZ)).is t] (kRC.is (rq (dstQ u t))):=by
 refine aO Tryz.func40 Z Z fun m w=>a9 (i:=0) Z bI fun hB0=>?_
 have hl:=hD.l
 refine Cr<|aX .n ba fun b1=>Wr<|Ws (aB fn73 ao (fC))<|Ax (l:=kRC) (u:=rq (0:Rat)) ba Z aj (fun _=>Z) Lr fun b2=>Wn<|ab<|Cr<|Wa Z<|Wn<|aF<|bL (fun (i:Nat)=>i≤u.length) (fun (i:Nat)=>[(0,kVZ.is u),(1,(kSl (kPair kZ kZ)).is t),(4,VP.pt b1 0),(5,VP.pt b2 0),(6,kN6.is (i:Int))]) (fun (i:Nat)=>[OB.box b2 31 kRC (rq (sqQ (dfQ u t) i)),OB.box b1 31 kRC (0,0)]) (fun (i:Nat)=>u.length-i) 0 (Nat.zero_le _) (aq Z Z Z Z (az Z (ah (y:=(0:Int)) (by rfl)) ar)) (a6 (OS.keepLe (ce (by rfl)) (OS.keep OS.nil))) ?_
 intro i hi
 refine ab<|Cr<|Wm Z<|Wm Z<|Ws (aK Z U23)<|Ws (aW Z Z)<|Wn ?_
 refine aM Z (fun h_t12=>?_)<|fun h_t12=>?_
 ·
  refine Ck<|ab<|aF<|ab ?_
  refine a5 (Γ:=[.fr (kVZ.is u),.fr (kN6.is (i:Int)),.fr (VP.pim kZ (u.getD i 0)),.fr (kZ.is (u.getD i 0)),.fr (kRC.is (rq ((u.getD i 0):Rat))),.fr ((kSl (kPair kZ kZ)).is t),.fr (kN6.is (i:Int)),.fr (VP.pim (kPair kZ kZ) (t.getD i (0,0))),.fr ((kPair kZ kZ).is (t.getD i (0,0))),.fr (kRC.is (rq (((u.getD i 0:Int):Rat)-rv (((t.getD i (0,0)).1),((t.getD i (0,0)).2))))),.al (fun b=>OB.box b 31 kRC (0,0))]) (om Z Z (om Z Z (aa Z (fun N=>aU i Z Z U23 ae Z (v:=(u.getD i 0)) (gd 0 (by omega))) (aa Z (fun N=>aQ Z ae) (aa Z (fun N=>f1 dJ Z (dE (u.getD i 0))) (om Z Z (om Z Z (aa Z (fun N=>aU i Z Z U26 aj Z (v:=(t.getD i (0,0))) (gd (0,0) (by omega))) (aa Z (fun N=>aQ Z aj) (aa Z (fun N=>aB d3 (ai Z (ah (y:=rq ((u.getD i 0:Int):Rat)) (by rfl)) (ai Z (ah (y:=((t.getD i (0,0)).1,(t.getD i (0,0)).2)) (by rfl)) ao)) (c_ref03_Subr2 2147483649 ((u.getD i 0:Int):Rat) ((t.getD i (0,0)).1) ((t.getD i (0,0)).2) (fS ((hD.y i).up (by decide))) ((hD.z i (by omega)).1.up (by decide)) ((hD.z i (by omega)).2.up (by decide)) (hD.d i (by omega)) (by decide))) (oc (cM Z ba) oz)))))))))))<|fun σ1=>?_
  refine aE .n (aD (l:=kRC) (u:=rq (((u.getD i 0:Int):Rat)-rv (((t.getD i (0,0)).1),((t.getD i (0,0)).2)))) 0 Z Z Z aj Z Lr)<|Wn<|tb 0 Z (y:=(rq (dfQ u t i))) (by rw [dfQ_eq _ _ _ (by omega)]) ?_
  refine a5 (Γ:=[.fr (kRC.is (rq (sqQ (dfQ u t) i))),.fr (kRC.is (rq (dfQ u t i))),.fr (kRC.is (rq (dfQ u t i))),.fr (kRC.is (rq ((dfQ u t i)*(dfQ u t i)))),.fr (kRC.is (rq ((sqQ (dfQ u t) i)+(dfQ u t i*dfQ u t i))))]) (aa Z (fun N=>af Z (mN N 1 Z) Li aj Z) (aa Z (fun N=>af Z (mN N 0 Z) Li aj Z) (aa Z (fun N=>af Z (mN N 0 Z) Li aj Z) (aa Z (fun N=>f2 dh Z Z (dl 2147483649 (dfQ u t i) (dfQ u t i) (hD.r i (by omega)) (hD.r i (by omega)) (by decide))) (aa Z (fun N=>aB eC (aP Z (ai Z (ah (y:=rq (dfQ u t i*dfQ u t i)) (by rfl)) ao)) (eH 60000000000 (sqQ (dfQ u t) i) (dfQ u t i*dfQ u t i) (hD.s i (by omega)) (((hD.r i (by omega)).mul (hD.r i (by omega))).up (by decide)) (by decide))) oz)))))<|fun σ2=>?_
  refine aE .n (aD (l:=kRC) (u:=rq ((sqQ (dfQ u t) i)+(dfQ u t i*dfQ u t i))) 1 Z Z Z aj Z Lr)<|au<|Qb<|ak<|Wm Z<|Ws (aS Z Z (c:=((i:Int)+1)) (aG (by omega)))<|Wa Z<|au<|bi (bj [1,2] (by decide) Z)<|tb 0 Z (y:=(rq (sqQ (dfQ u t) (i+1)))) Z ?_
  exact bF (i+1) (by omega) (by omega) (aq Z Z Z Z (az Z (ah (y:=(((i+1):Nat):Int)) (by rfl)) ar))<|aH _
 ·
  refine Ex<|Cr<|Ws (af Z (ag 0 Z) Li aj Z)<|aE .n (aD (l:=kRC) (u:=(rq (sqQ (dfQ u t) i))) 1 Z Z Z aj Z Lr)<|Wn<|aA<|tb 1 Z (y:=(rq (dstQ u t))) (by rw [show i=u.length by omega];rfl) ?_
  exact Qd Z (aZ Z (ag 1 Z) aj ay) ⟨Z,Z⟩
theorem c_ref18_along (b:List (List Int)) (t:List (Int×Int)) (u:List Int) (hT:Tgt b t) (hu:SzL 264 u) (hl:u.length=t.length) (h12:t.length≤12):Fn Tryz.prog 172 [(kSl (kPair kZ kZ)).is t,kVZ.is u] (kRC.is (rq (adQ u t t.length))):=by
 refine aO Tryz.func172 Z Z fun m w=>Cr<|aX .n ba fun b1=>Wr<|Ws (aB fn73 ao (fC))<|Ax (l:=kRC) (u:=rq (0:Rat)) ba Z aj (fun _=>Z) Lr fun b2=>Wn<|ab<|Cr<|Wa Z<|Wn<|aF<|tb 0 Z (y:=(rq (adQ u t 0))) Z<|bL (fun (i:Nat)=>i≤u.length) (fun (i:Nat)=>[(0,(kSl (kPair kZ kZ)).is t),(1,kVZ.is u),(4,VP.pt b1 0),(5,VP.pt b2 0),(6,kN6.is (i:Int))]) (fun (i:Nat)=>[OB.box b2 31 kRC (rq (adQ u t i)),OB.box b1 31 kRC (0,0)]) (fun (i:Nat)=>u.length-i) 0 (Nat.zero_le _) (aq Z Z Z Z (az Z (ah (y:=(0:Int)) (by rfl)) ar)) (aH _) ?_
 intro i hi
 refine ab<|Cr<|Wm Z<|Wm Z<|Ws (aK Z U23)<|Ws (aW Z Z)<|Wn ?_
 refine aM Z (fun h_t11=>?_)<|fun h_t11=>?_
 ·
  refine Ck<|ab<|aF ?_
  refine a5 (Γ:=[.fr (kRC.is (rq (adQ u t i))),.fr ((kSl (kPair kZ kZ)).is t),.fr (kN6.is (i:Int)),.fr (VP.pim (kPair kZ kZ) (t.getD i (0,0))),.fr ((kPair kZ kZ).is (t.getD i (0,0))),.fr (kVZ.is u),.fr (kN6.is (i:Int)),.fr (VP.pim kZ (u.getD i 0)),.fr (kZ.is (u.getD i 0)),.fr (kRC.is (rq ((u.getD i 0):Rat))),.fr (kRC.is (rq (rv (((t.getD i (0,0)).1),((t.getD i (0,0)).2))*((u.getD i 0:Int):Rat)))),.fr (kRC.is (rq ((adQ u t i)+(rv ((t.getD i (0,0)).1,(t.getD i (0,0)).2)*((u.getD i 0:Int):Rat)))))]) (aa Z (fun N=>af Z (mN N 0 Z) Li aj Z) (om Z Z (om Z Z (aa Z (fun N=>aU i Z Z U26 aj Z (v:=(t.getD i (0,0))) (gd (0,0) (by omega))) (aa Z (fun N=>aQ Z aj) (om Z Z (om Z Z (aa Z (fun N=>aU i Z Z U23 ae Z (v:=(u.getD i 0)) (gd 0 (by omega))) (aa Z (fun N=>aQ Z ae) (aa Z (fun N=>f1 dJ Z (dE (u.getD i 0))) (aa Z (fun N=>aB dh (ai Z (ah (y:=((t.getD i (0,0)).1,(t.getD i (0,0)).2)) (by rfl)) (ai Z (ah (y:=rq ((u.getD i 0:Int):Rat)) (by rfl)) ao)) (c_ref03_Mulr 265 ((u.getD i 0:Int):Rat) ((t.getD i (0,0)).1) ((t.getD i (0,0)).2) (fS ((hu i).up (by decide))) ((hT.z i (by omega)).1.up (by decide)) ((hT.z i (by omega)).2.up (by decide)) (hT.d i (by omega)) (by decide))) (aa Z (fun N=>aB eC (aP Z (ai Z (ah (y:=rq (rv ((t.getD i (0,0)).1,(t.getD i (0,0)).2)*((u.getD i 0:Int):Rat))) (by rfl)) ao)) (eH 6400 (adQ u t i) (rv ((t.getD i (0,0)).1,(t.getD i (0,0)).2)*((u.getD i 0:Int):Rat)) (ad_RZ hT hu h12 (by omega)) (((rv_RZ (x:=((t.getD i (0,0)).1,(t.getD i (0,0)).2)) (hT.d i (by omega)) (hT.z i (by omega)).1 (hT.z i (by omega)).2).mul (fS ((hu i).up (by decide):Sz 265 _))).up (by decide)) (by decide))) oz))))))))))))<|fun σ1=>?_
  refine aE .n (aD (l:=kRC) (u:=rq ((adQ u t i)+(rv ((t.getD i (0,0)).1,(t.getD i (0,0)).2)*((u.getD i 0:Int):Rat)))) 0 Z Z Z aj Z Lr)<|au<|Qb<|ak<|Wm Z<|Ws (aS Z Z (c:=((i:Int)+1)) (aG (by omega)))<|Wa Z<|au<|bi (bj [0,1] (by decide) Z)<|tb 0 Z (y:=(rq (adQ u t (i+1)))) (by rw [Rat.mul_comm (rv _),←tau_eq (show i<t.length by omega)];rfl) ?_
  exact bF (i+1) (by omega) (by omega) (aq Z Z Z Z (az Z (ah (y:=(((i+1):Nat):Int)) (by rfl)) ar))<|aH _
 ·
  refine Ex<|ab<|tb 0 Z (y:=(rq (adQ u t t.length))) (by rw [show i=t.length by omega])<|ak<|Ws (af Z (ag 0 Z) Li aj Z)<|aE .n (aD (l:=kRC) (u:=(rq (adQ u t t.length))) 1 Z Z Z aj Z Lr)<|Wn<|aA ?_
  exact Qd Z (aZ Z (ag 1 Z) aj ay) ⟨Z,Z⟩
theorem c_ref18_Coords (b:List (List Int)) (t:List (Int×Int)) (hT:Tgt b t):Fn Tryz.prog 100 [kMC.is (llB b),(kSl (kPair kZ kZ)).is t] (VP.tup [(kSl kRC).is (tcL (plC b t) b.length),kRC.is (rq (plH b t))]):=by
 refine aO Tryz.func100 Z Z fun m w=>?_
 have hZ:=basis_of hT.e
 have hRB:=redB_of hZ
 have hP:=plC_TZ hT
 have hlR:=hRB.len
 have hn12:=hRB.n
 have hn0:=hRB.n0
 have htl:t.length≤12:=by rw [hT.l];exact hZ.c 0
 have hCR:CR b.length t.length (llB b):=by rw [hT.l];exact hRB.r
 have hz540:∀i j,Sz 540 (plG b i j):=fun i j=>gram_Sz (m:=12) hRB.z hRB.r.rl (hRB.c 0) i j
 refine Cr<|Wa Z<|aX .n ba fun b1=>Wr<|Wm Z<|Ws (aB fn170 (ai Z (dC (hRB.z.sm (by decide))) ao) (c_ref04_Gram b.length t.length 264 (llB b) hCR hRB.z hn0 hn12 htl (by decide)))<|Wm Z<|Ws (aN Z Z)<|Ws (aN Z Z)<|Wa Z<|Wa Z<|Wr<|Wm Z<|Ws (aB fn171 (ai Z (ah (y:=tabW b.length b.length (plG b)) (by rfl)) ao) (c_ref06_Inverse (plG b) b.length hP.s hP.p hn0 hn12 hz540 (hP.d _ (Nat.le_refl _))))<|Wm Z<|Ws (aN Z Z)<|Ws (aN Z Z) ?_
 refine Ws (aN Z Z)<|aX .n bc fun b2=>Wa Z<|aE .n (aD (l:=kC) (u:=invD (plG b) b.length) 0 Z Z Z ae Z Lr)<|Wa Z<|Wr<|Wa Z<|Wn<|ab<|Cr<|Wa Z<|Wn<|aF<|bQ 31 kRC<|bT (fun (i:Nat) (v:Value)=>i≤b.length) (fun (i:Nat) (v:Value)=>[(0,kMC.is (llB b)),(1,(kSl (kPair kZ kZ)).is t),(5,VP.pt b1 0),(8,kMC.is (tabW b.length b.length (invN (plG b) b.length))),(9,VP.pt b2 0),(11,VP.ex v),(12,kN6.is (i:Int))]) (fun (i:Nat) (v:Value)=>[OB.row v 31 kRC (tcL (plC b t) i),OB.box b2 29 kC (invD (plG b) b.length),OB.box b1 31 kRC (0,0)]) (fun (i:Nat) (v:Value)=>b.length-i) 0 (.slice none 0 0) (Nat.zero_le _) (aq Z Z Z Z (ac Z (ac Z (az Z (ah (y:=(0:Int)) (by rfl)) ar)))) (a6 (OS.keepLe (bl (by rfl)) (OS.keep (OS.keep OS.nil)))) ?_
 intro i v hi
 refine ab<|Cr<|Wm Z<|Wm Z<|Ws (aK Z U22)<|Ws (aW Z Z)<|Wn ?_
 refine aM Z (fun h_t34=>?_)<|fun h_t34=>?_
 ·
  refine Ck<|ab<|aF<|Cr<|Ws (aB fn73 ao (fC))<|Ax (l:=kRC) (u:=rq (0:Rat)) ba Z aj (fun _=>Z) Lr fun b3=>Wn<|ab<|Cr<|Wa Z<|Wn<|aF<|tb 0 Z (y:=(rq (sumQ (fun x=>alQ (llB b) t.length (tau t) x*invE (plG b) b.length x i) 0))) Z<|bL (fun (k:Nat)=>k≤b.length) (fun (k:Nat)=>[(0,kMC.is (llB b)),(1,(kSl (kPair kZ kZ)).is t),(5,VP.pt b1 0),(8,kMC.is (tabW b.length b.length (invN (plG b) b.length))),(9,VP.pt b2 0),(11,VP.ex v),(12,kN6.is (i:Int)),(13,VP.pt b3 0),(14,kN6.is (k:Int))]) (fun (k:Nat)=>[OB.box b3 31 kRC (rq (sumQ (fun x=>alQ (llB b) t.length (tau t) x*invE (plG b) b.length x i) k)),OB.row v 31 kRC (tcL (plC b t) i),OB.box b2 29 kC (invD (plG b) b.length),OB.box b1 31 kRC (0,0)]) (fun (k:Nat)=>b.length-k) 0 (Nat.zero_le _) (aq Z Z Z Z (aq Z Z Z Z (az Z (ah (y:=(0:Int)) (by rfl)) ar))) (aH _) ?_
  intro k hk
  refine ab<|Cr<|Wm Z<|Wm Z<|Ws (aK Z U22)<|Ws (aW Z Z)<|Wn ?_
  refine aM Z (fun h_t41=>?_)<|fun h_t41=>?_
  ·
   refine Ck<|ab<|aF ?_
   refine a5 (Γ:=[.fr (kRC.is (rq (sumQ (fun x=>alQ (llB b) t.length (tau t) x*invE (plG b) b.length x i) k))),.fr ((kSl (kPair kZ kZ)).is t),.fr (kMC.is (llB b)),.fr (kN6.is (k:Int)),.fr (VP.pim kVC ((llB b).getD k [])),.fr (kVC.is ((llB b).getD k [])),.fr (kRC.is (rq (adQ ((llB b).getD k []) t t.length))),.fr (kMC.is (tabW b.length b.length (invN (plG b) b.length))),.fr (kN6.is (k:Int)),.fr (VP.pim kVC ((List.range b.length).map (invN (plG b) b.length k))),.fr (kVC.is ((List.range b.length).map (invN (plG b) b.length k))),.fr (kN6.is (i:Int)),.fr (VP.pim kC (invN (plG b) b.length k i)),.fr (kC.is (invN (plG b) b.length k i)),.fr (kC.is (invD (plG b) b.length)),.fr (kRC.is (rq (invE (plG b) b.length k i))),.fr (kRC.is (rq ((alQ (llB b) t.length (tau t) k)*(invE (plG b) b.length k i)))),.fr (kRC.is (rq ((sumQ (fun x=>alQ (llB b) t.length (tau t) x*invE (plG b) b.length x i) k)+(alQ (llB b) t.length (tau t) k*invE (plG b) b.length k i))))]) (aa Z (fun N=>af Z (mN N 0 Z) Li aj Z) (om Z Z (om Z Z (om Z Z (aa Z (fun N=>aU k Z Z U22 aJ Z (v:=((llB b).getD k [])) (gd [] (by omega))) (aa Z (fun N=>aQ Z aJ) (aa Z (fun N=>aB fn172 (aP Z (ai Z (c6 (et (hRB.z _) (by decide))) ao)) (c_ref18_along b t ((llB b).getD k []) hT (hRB.z k) (by rw [hRB.r.row k (by omega),hT.l]) htl)) (om Z Z (om Z Z (aa Z (fun N=>aU k Z Z U22 aJ Z (v:=((List.range b.length).map (invN (plG b) b.length k))) (gb (by omega))) (aa Z (fun N=>aQ Z aJ) (om Z Z (aa Z (fun N=>aU i Z Z U23 ae Z (v:=(invN (plG b) b.length k i)) (rgF_at (by omega))) (aa Z (fun N=>aQ Z ae) (aa Z (fun N=>af Z (mN N 2 Z) Li ae Z) (aa Z (fun N=>aV (aB ef (ai Z (aL ((invN_Sz hP.s hP.p hP.n12 hz540 (hP.d _ (Nat.le_refl _)) (by omega) (by omega)).sm (by decide))) (ai Z (aL ((invD_Sz hP.s hP.p (hP.d _ (Nat.le_refl _))).sm (by decide))) ao)) (d6 (invN (plG b) b.length k i) (invD (plG b) b.length) (by have:=invD_pos hP.s hP.p;omega))) (ah (invN_rq hP.s hP.p (by omega) (by omega)))) (aa Z (fun N=>aB dh (ai Z (ah (y:=rq (alQ (llB b) t.length (tau t) k)) (by rfl)) (aP Z ao)) (dl 2300000 (alQ (llB b) t.length (tau t) k) (invE (plG b) b.length k i) ((ad_RZ hT (hRB.z k) htl (Nat.le_refl _)).up (by decide)) (inv_RZ hP.s hP.p hn12 hz540 k i) (by decide))) (aa Z (fun N=>aB eC (aP Z (ai Z (ah (y:=rq (alQ (llB b) t.length (tau t) k*invE (plG b) b.length k i)) (by rfl)) ao)) (eH 28000000 (sumQ (fun x=>alQ (llB b) t.length (tau t) x*invE (plG b) b.length x i) k) (alQ (llB b) t.length (tau t) k*invE (plG b) b.length k i) (TZ.inv_s hP.s hP.p hn12 hz540 (fun x hx=>ad_RZ hT (hRB.z x) htl (Nat.le_refl _)) i (by omega)) (((ad_RZ hT (hRB.z k) htl (Nat.le_refl _)).mul (inv_RZ hP.s hP.p hn12 hz540 k i)).up (by decide)) (by decide))) oz))))))))))))))))))<|fun σ1=>?_
   refine aE .n (aD (l:=kRC) (u:=rq ((sumQ (fun x=>alQ (llB b) t.length (tau t) x*invE (plG b) b.length x i) k)+(alQ (llB b) t.length (tau t) k*invE (plG b) b.length k i))) 0 Z Z Z aj Z Lr)<|au<|Qb<|ak<|Wm Z<|Ws (aS Z Z (c:=((k:Int)+1)) (aG (by omega)))<|Wa Z<|au<|bi (bj [0,1,2,3] (by decide) Z)<|tb 0 Z (y:=(rq (sumQ (fun x=>alQ (llB b) t.length (tau t) x*invE (plG b) b.length x i) (k+1)))) Z ?_
   exact bF (k+1) (by omega) (by omega) (aq Z Z Z Z (aq Z Z Z Z (az Z (ah (y:=(((k+1):Nat):Int)) (by rfl)) ar)))<|aH _
  ·
   refine Ex<|tb 0 Z (y:=(rq (plC b t i))) (by rw [show k=b.length by omega,inv_crd2 hP.s hP.p _ i (by omega)];rfl)<|ak<|Wm Z<|Ws (af Z (ag 0 Z) Li aj Z)<|Ws (bw U26 dk (bS Z bt) Z (by decide))<|bD 1 .n Z Z Z Lr U26 dk (by simp [tcL_len];omega) fun v4=>Wa Z<|au<|Qb<|ak<|Wm Z<|Ws (aS Z Z (c:=((i:Int)+1)) (aG (by omega)))<|Wa Z<|au<|tr 1 Z (y:=(tcL (plC b t) (i+1))) (tcL_app (plC b t) i)<|bi (bj [1,2,3] (by decide) Z) ?_
   exact bP (i+1) v4 (by omega) (by omega) (aq Z Z Z Z (ac Z (ac Z (az Z (ah (y:=(((i+1):Nat):Int)) (by rfl)) ar))))<|aH _
 ·
  refine Ex<|ab<|tr 0 Z (y:=(tcL (plC b t) b.length)) (by rw [show i=b.length by omega])<|bJ 0 Z (kp 0 Z (kp 1 Z (kp 5 Z (kp 8 Z (kp 9 Z (.hit (i:=11) Z (kp 12 Z (kp 31 Z (kp 32 Z (kp 33 Z (kp 34 Z .nil)))))))))))<|ak<|Ws (aB fn73 ao (fC))<|Ax (l:=kRC) (u:=rq (0:Rat)) ba Z aj (fun _=>Z) Lr fun b5=>Wn<|ab<|Cr<|Wa Z<|Wn<|aF<|tb 0 Z (y:=(rq (hgtQ (llB b) b.length 0 (plC b t) (tau t)))) Z<|bi (bj [0,2] (by decide) Z)<|bL (fun (i:Nat)=>i≤t.length) (fun (i:Nat)=>[(0,kMC.is (llB b)),(1,(kSl (kPair kZ kZ)).is t),(5,VP.pt b1 0),(11,(kSl kRC).is (tcL (plC b t) b.length)),(15,VP.pt b5 0),(16,kN6.is (i:Int))]) (fun (i:Nat)=>[OB.box b5 31 kRC (rq (hgtQ (llB b) b.length i (plC b t) (tau t))),OB.box b1 31 kRC (0,0)]) (fun (i:Nat)=>t.length-i) 0 (Nat.zero_le _) (aq Z Z Z Z (ac Z (az Z (ah (y:=(0:Int)) (by rfl)) ar))) (aH _) ?_
  intro i hi
  refine ab<|Cr<|Wm Z<|Wm Z<|Ws (aK Z U26)<|Ws (aW Z Z)<|Wn ?_
  refine aM Z (fun h_t70=>?_)<|fun h_t70=>?_
  ·
   refine Ck<|ab<|aF<|Cr<|Ws (aB fn73 ao (fC))<|Ax (l:=kRC) (u:=rq (0:Rat)) ba Z aj (fun _=>Z) Lr fun b6=>Wn<|ab<|Cr<|Wa Z<|Wn<|aF<|tb 0 Z (y:=(rq (rwQ (llB b) 0 (plC b t) i))) Z<|bL (fun (k:Nat)=>k≤b.length) (fun (k:Nat)=>[(0,kMC.is (llB b)),(1,(kSl (kPair kZ kZ)).is t),(5,VP.pt b1 0),(11,(kSl kRC).is (tcL (plC b t) b.length)),(15,VP.pt b5 0),(16,kN6.is (i:Int)),(17,VP.pt b6 0),(18,kN6.is (k:Int))]) (fun (k:Nat)=>[OB.box b6 31 kRC (rq (rwQ (llB b) k (plC b t) i)),OB.box b5 31 kRC (rq (hgtQ (llB b) b.length i (plC b t) (tau t))),OB.box b1 31 kRC (0,0)]) (fun (k:Nat)=>b.length-k) 0 (Nat.zero_le _) (aq Z Z Z Z (ac Z (ac Z (ac Z (az Z (ah (y:=(0:Int)) (by rfl)) ar))))) (aH _) ?_
   intro k hk
   refine ab<|Cr<|Wm Z<|Wm Z<|Ws (aK Z U22)<|Ws (aW Z Z)<|Wn ?_
   refine aM Z (fun h_t77=>?_)<|fun h_t77=>?_
   ·
    refine Ck<|ab<|aF ?_
    refine a5 (Γ:=[.fr (kRC.is (rq (rwQ (llB b) k (plC b t) i))),.fr ((kSl kRC).is (tcL (plC b t) b.length)),.fr (kN6.is (k:Int)),.fr (VP.pim kRC (rq (plC b t k))),.fr (kRC.is (rq (plC b t k))),.fr (kMC.is (llB b)),.fr (kN6.is (k:Int)),.fr (VP.pim kVC ((llB b).getD k [])),.fr (kVC.is ((llB b).getD k [])),.fr (kN6.is (i:Int)),.fr (VP.pim kC (((llB b).getD k []).getD i 0)),.fr (kC.is (((llB b).getD k []).getD i 0)),.fr (kRC.is (rq ((((llB b).getD k []).getD i 0):Rat))),.fr (kRC.is (rq ((plC b t k)*((((llB b).getD k []).getD i 0:Int):Rat)))),.fr (kRC.is (rq ((rwQ (llB b) k (plC b t) i)+(plC b t k*((((llB b).getD k []).getD i 0:Int):Rat)))))]) (aa Z (fun N=>af Z (mN N 0 Z) Li aj Z) (om Z Z (om Z Z (aa Z (fun N=>aU k Z Z U26 aj Z (v:=(rq (plC b t k))) (fi (by omega))) (aa Z (fun N=>aQ Z aj) (om Z Z (om Z Z (aa Z (fun N=>aU k Z Z U22 aJ Z (v:=((llB b).getD k [])) (gd [] (by omega))) (aa Z (fun N=>aQ Z aJ) (om Z Z (aa Z (fun N=>aU i Z Z U23 ae Z (v:=(((llB b).getD k []).getD i 0)) (gd 0 (by rw [hRB.r.row k (by omega),←hT.l];omega))) (aa Z (fun N=>aQ Z ae) (aa Z (fun N=>aB dJ (ai Z (aL ((hRB.z k i).sm (by decide))) ao) (dE (((llB b).getD k []).getD i 0))) (aa Z (fun N=>aB dh (aP Z (ai Z (ah (y:=rq ((((llB b).getD k []).getD i 0:Int):Rat)) (by rfl)) ao)) (dl 28000000 (plC b t k) ((((llB b).getD k []).getD i 0:Int):Rat) (hP.c k (by omega)) (RZ_int (by decide) ((hRB.z k i).up (by decide))) (by decide))) (aa Z (fun N=>aB eC (aP Z (ai Z (ah (y:=rq (plC b t k*((((llB b).getD k []).getD i 0:Int):Rat))) (by rfl)) ao)) (eH 340000000 (rwQ (llB b) k (plC b t) i) (plC b t k*((((llB b).getD k []).getD i 0:Int):Rat)) (rw_RZ hT i (by omega)) (((hP.c k (by omega)).mul (RZ_int (by decide) (hRB.z k i))).up (by decide)) (by decide))) oz)))))))))))))))<|fun σ2=>?_
    refine aE .n (aD (l:=kRC) (u:=rq ((rwQ (llB b) k (plC b t) i)+(plC b t k*((((llB b).getD k []).getD i 0:Int):Rat)))) 0 Z Z Z aj Z Lr)<|au<|Qb<|ak<|Wm Z<|Ws (aS Z Z (c:=((k:Int)+1)) (aG (by omega)))<|Wa Z<|au<|bi (bj [0,1,2] (by decide) Z)<|tb 0 Z (y:=(rq (rwQ (llB b) (k+1) (plC b t) i))) Z ?_
    exact bF (k+1) (by omega) (by omega) (aq Z Z Z Z (ac Z (ac Z (ac Z (az Z (ah (y:=(((k+1):Nat):Int)) (by rfl)) ar)))))<|aH _
   ·
    refine Ex<|ab<|tb 0 Z (y:=(rq (rwQ (llB b) b.length (plC b t) i))) (by rw [show k=b.length by omega]) ?_
    refine a5 (Γ:=[.fr ((kSl (kPair kZ kZ)).is t),.fr (kN6.is (i:Int)),.fr (VP.pim (kPair kZ kZ) (t.getD i (0,0))),.fr ((kPair kZ kZ).is (t.getD i (0,0))),.fr (kRC.is (rq (rwQ (llB b) b.length (plC b t) i))),.fr (kRC.is (rq (rv (((t.getD i (0,0)).1),((t.getD i (0,0)).2))-(rwQ (llB b) b.length (plC b t) i)))),.al (fun b=>OB.box b 31 kRC (0,0))]) (om Z Z (om Z Z (aa Z (fun N=>aU i Z Z U26 aj Z (v:=(t.getD i (0,0))) (gd (0,0) (by omega))) (aa Z (fun N=>aQ Z aj) (aa Z (fun N=>af Z (mN N 0 Z) Li aj Z) (aa Z (fun N=>aB d3 (ai Z (ah (y:=((t.getD i (0,0)).1,(t.getD i (0,0)).2)) (by rfl)) (aP Z ao)) (c_ref03_Subr1 340000000 (rwQ (llB b) b.length (plC b t) i) ((t.getD i (0,0)).1) ((t.getD i (0,0)).2) (rw_RZ hT i (Nat.le_refl _)) ((hT.z i (by omega)).1.up (by decide)) ((hT.z i (by omega)).2.up (by decide)) (hT.d i (by omega)) (by decide))) (oc (cM Z ba) oz)))))))<|fun σ3=>?_
    refine aE .n (aD (l:=kRC) (u:=rq (rv (((t.getD i (0,0)).1),((t.getD i (0,0)).2))-(rwQ (llB b) b.length (plC b t) i))) 0 Z Z Z aj Z Lr)<|Wn<|tb 0 Z (y:=(rq (tau t i-rwQ (llB b) b.length (plC b t) i))) (by rw [tau_eq (show i<t.length by omega)]) ?_
    refine a5 (Γ:=[.fr (kRC.is (rq (hgtQ (llB b) b.length i (plC b t) (tau t)))),.fr (kRC.is (rq (tau t i-rwQ (llB b) b.length (plC b t) i))),.fr (kRC.is (rq (tau t i-rwQ (llB b) b.length (plC b t) i))),.fr (kRC.is (rq ((tau t i-rwQ (llB b) b.length (plC b t) i)*(tau t i-rwQ (llB b) b.length (plC b t) i)))),.fr (kRC.is (rq ((hgtQ (llB b) b.length i (plC b t) (tau t))+((tau t i-rwQ (llB b) b.length (plC b t) i)*(tau t i-rwQ (llB b) b.length (plC b t) i)))))]) (aa Z (fun N=>af Z (mN N 2 Z) Li aj Z) (aa Z (fun N=>af Z (mN N 0 Z) Li aj Z) (aa Z (fun N=>af Z (mN N 0 Z) Li aj Z) (aa Z (fun N=>f2 dh Z Z (dl 341000000 (tau t i-rwQ (llB b) b.length (plC b t) i) (tau t i-rwQ (llB b) b.length (plC b t) i) (hd_RZ hT (by omega)) (hd_RZ hT (by omega)) (by decide))) (aa Z (fun N=>f2 eC Z Z (eH 9000000000 (hgtQ (llB b) b.length i (plC b t) (tau t)) ((tau t i-rwQ (llB b) b.length (plC b t) i)*(tau t i-rwQ (llB b) b.length (plC b t) i)) (hg_RZ hT (by omega)) (((hd_RZ hT (show i<t.length by omega)).mul (hd_RZ hT (by omega))).up (by decide)) (by decide))) oz)))))<|fun σ4=>?_
    refine aE .n (aD (l:=kRC) (u:=rq ((hgtQ (llB b) b.length i (plC b t) (tau t))+((tau t i-rwQ (llB b) b.length (plC b t) i)*(tau t i-rwQ (llB b) b.length (plC b t) i)))) 2 Z Z Z aj Z Lr)<|au<|Qb<|ak<|Wm Z<|Ws (aS Z Z (c:=((i:Int)+1)) (aG (by omega)))<|Wa Z<|au<|bi (bj [2,3] (by decide) Z)<|tb 0 Z (y:=(rq (hgtQ (llB b) b.length (i+1) (plC b t) (tau t)))) Z ?_
    exact bF (i+1) (by omega) (by omega) (aq Z Z Z Z (ac Z (az Z (ah (y:=(((i+1):Nat):Int)) (by rfl)) ar)))<|aH _
  ·
   refine Ex<|ab<|tb 0 Z (y:=(rq (plH b t))) (by rw [show i=t.length by omega];rfl) ?_
   refine fh [(0,kMC.is (llB b)),(1,(kSl (kPair kZ kZ)).is t),(4,(kSl kRC).is (tcL (plC b t) b.length)),(5,VP.pt b1 0),(11,(kSl kRC).is (tcL (plC b t) b.length)),(15,VP.pt b5 0),(16,kN6.is (i:Int)),(67,kN6.is (i:Int)),(68,(kSl (kPair kZ kZ)).is t),(69,kN6.is (t.length:Int)),(70,kBool.is (decide ((i:Int)<(t.length:Int)))),(106,(kSl kRC).is (tcL (plC b t) b.length)),(107,kRC.is (rq (plH b t)))] [OB.box b5 31 kRC (rq (plH b t)),OB.box b1 31 kRC (rq (plH b t))] ?_ ?_
   ·
    refine dU (by kernel_rfl)<|bK 0 Z (by kernel_rfl) (by kernel_rfl) (by kernel_rfl) (fun _ _ _ _ _ h=>h) .n (dL Z) ?_
    refine bO 1 [2] ⟨?_,⟨?_,trivial⟩⟩
    ·
     refine aT Z .n (af Z (ag 0 Z) Li aj Z)<|aR 2<|aT Z .n (bu Z)<|aR 3<|bE Z .n (aD (l:=kRC) (u:=(rq (plH b t))) 1 Z Z Z aj Z Lr)<|bv (by kernel_rfl) ?_
     exact cA (aq Z Z Z Z (aq Z Z Z Z (aq Z Z Z Z (ac Z ar))))<|aH _
    ·
     refine aT Z .n (bu Z)<|aR 1<|aT Z .n (af Z (ag 0 Z) Li aj Z)<|aR 3<|bE Z .n (aD (l:=kRC) (u:=(rq (plH b t))) 1 Z Z Z aj Z Lr)<|bv (by kernel_rfl) ?_
     exact cA (aq Z Z Z Z (aq Z Z Z Z (aq Z Z Z Z (ac Z ar))))<|aH _
   refine co<|aA ?_
   exact Qd Z (aI Z (aZ Z (ag 1 Z) aj ay)) ⟨Z,Z⟩
theorem c_ref18_guess_plane (b:List (List Int)) (t:List (Int×Int)) (hT:Tgt b t) (r:Rat) (hr:RZ 21000000000 r) (hr0:0≤(rq r).1):Fn Tryz.prog 102 [kTre.is ((gDs (gram (llB b)) b.length,gLs (gram (llB b)) b.length),tcL (plC b t) b.length,(rq r)),kBool.is false] (kVC.is (plS b t false)):=by
 refine aO Tryz.func102 Z Z fun m w=>?_
 have hZ:=basis_of hT.e
 have hRB:=redB_of hZ
 have hP:=plC_TZ hT
 have hlR:=hRB.len
 have hn12:=hRB.n
 have hn0:=hRB.n0
 have htl:t.length≤12:=by rw [hT.l];exact hZ.c 0
 have hLl:=gLs_len (plG b) b.length
 have SzF:∀{k:Nat},k≤b.length→SzL 30000000 (gsL (plF (plG b) b.length (plC b t)) k):=fun h=>plF_sz hP h
 refine Cr<|aY .n Z fun b1=>Wa Z<|Wr<|Wa Z<|Wn<|ab<|aF<|bQ 29 kC<|bT (fun (i:Nat) (v:Value)=>i≤b.length) (fun (i:Nat) (v:Value)=>[(1,kBool.is false),(2,VP.pt b1 0),(5,VP.ex v)]) (fun (i:Nat) (v:Value)=>[OB.row v 29 kC (gsL (plF (plG b) b.length (plC b t)) i),OB.box b1 33 kTre ((gDs (gram (llB b)) b.length,gLs (gram (llB b)) b.length),tcL (plC b t) b.length,(rq r))]) (fun (i:Nat) (v:Value)=>b.length-i) 0 (.slice none 0 0) (Nat.zero_le _) (ac Z (ac Z (ac Z ar))) (a6 (OS.keepLe (bl (by rfl)) (OS.keep OS.nil))) ?_
 intro i v hi
 refine ab<|Cr<|Wm Z<|Ws (c5 Z (ag 0 Z) U23)<|tl 8 Z (y:=(i:Int)) (by rw [gsL_len])<|Ws (aw Z dm Z)<|Ws (aw Z cm Z)<|Ws (af (p:=kMC.is (gLs (gram (llB b)) b.length)) Z (ag 1 Z) (aC (am Li)) bg Z)<|Ws (aK Z U22)<|tl 12 Z (y:=(b.length:Int)) (by rw [gLs_len])<|Ws (aW Z Z)<|Wn ?_
 refine aM Z (fun h_t13=>?_)<|fun h_t13=>?_
 ·
  refine Ck<|aF<|Cr<|Ws (af (p:=kTre.is ((gDs (gram (llB b)) b.length,gLs (gram (llB b)) b.length),tcL (plC b t) b.length,(rq r))) Z (ag 1 Z) Li cH Z)<|Wm Z<|Ws (dM (b:=OB.row v 29 kC (gsL (plF (plG b) b.length (plC b t)) i)) (ag 0 Z) fn173 (ai Z (ah (y:=((gDs ((plG b)) b.length,gLs ((plG b)) b.length),tcL (plC b t) b.length,(rq r))) (by rfl)) (aP Z ao)) (c_ref11_Centreo v (plG b) b.length (plC b t) r hP hr hr0 (gsL (plF (plG b) b.length (plC b t)) i) (SzF (by omega)) (by rw [gsL_len];omega)))<|Ax (l:=kRC) (u:=rq (cenQ (plG b) b.length (plC b t) (sfx (gsL (plF (plG b) b.length (plC b t)) i)) (b.length-1-(gsL (plF (plG b) b.length (plC b t)) i).length) (gsL (plF (plG b) b.length (plC b t)) i).length)) ba Z aj (fun _=>Z) Lr fun b2=>Wn<|ab<|Cr<|Wm Z<|Wn<|dB Z<|Ck<|ak<|Wm Z<|Ws (af Z (ag 0 Z) Li aj Z) ?_
  refine Ws (f1 fn90 Z (gQ 800000000 (cenQ (plG b) b.length (plC b t) (sfx (gsL (plF (plG b) b.length (plC b t)) i)) (b.length-1-(gsL (plF (plG b) b.length (plC b t)) i).length) (gsL (plF (plG b) b.length (plC b t)) i).length) (hP.cen (fun x _=>cU (SzF (by omega)) x) (by rw [gsL_len];omega)) (by decide)))<|Ws (bw U23 bn (bS Z bt) Z (by decide))<|bD 1 .n Z Z Z Lr U23 bn (by simp only [gsL_len,List.length_cons,List.length_nil];omega) fun v3=>Wa Z<|au<|dQ<|tr 1 Z (y:=(gsL (plF (plG b) b.length (plC b t)) (i+1))) (by rw [gsL_len];rfl)<|bi (bj [1,2] (by decide) Z) ?_
  exact bP (i+1) v3 (by omega) (by omega) (ac Z (ac Z (ac Z ar)))<|aH _
 ·
  refine Ex<|ab<|tr 0 Z (y:=(plS b t false)) (by rw [show i=b.length by omega];rfl)<|ak<|Wm Z<|Wa Z<|Wn<|aA<|bJ 0 Z (kp 1 Z (kp 2 Z (.hit (i:=4) Z (.hit (i:=5) Z (.hit (i:=7) Z (kp 8 Z (kp 9 Z (kp 10 Z (kp 11 Z (kp 12 Z (kp 13 Z (.hit (i:=34) Z .nil)))))))))))) ?_
  exact Qd Z (aI Z ay) ⟨Z,Z⟩
theorem c_ref18_guess_round (b:List (List Int)) (t:List (Int×Int)) (hT:Tgt b t) (r:Rat) (hr:RZ 21000000000 r) (hr0:0≤(rq r).1):Fn Tryz.prog 102 [kTre.is ((gDs (gram (llB b)) b.length,gLs (gram (llB b)) b.length),tcL (plC b t) b.length,(rq r)),kBool.is true] (kVC.is (plS b t true)):=by
 refine aO Tryz.func102 Z Z fun m w=>?_
 have hZ:=basis_of hT.e
 have hRB:=redB_of hZ
 have hP:=plC_TZ hT
 have hlR:=hRB.len
 have hn12:=hRB.n
 have hn0:=hRB.n0
 have htl:t.length≤12:=by rw [hT.l];exact hZ.c 0
 have hLl:=gLs_len (plG b) b.length
 have SzF:∀{k:Nat},k≤b.length→SzL 30000000 (gsL (rdF b.length (plC b t)) k):=fun h=>rdF_sz hP h
 refine Cr<|aY .n Z fun b1=>Wa Z<|Wr<|Wa Z<|Wn<|ab<|aF<|bQ 29 kC<|bT (fun (i:Nat) (v:Value)=>i≤b.length) (fun (i:Nat) (v:Value)=>[(1,kBool.is true),(2,VP.pt b1 0),(5,VP.ex v)]) (fun (i:Nat) (v:Value)=>[OB.row v 29 kC (gsL (rdF b.length (plC b t)) i),OB.box b1 33 kTre ((gDs (gram (llB b)) b.length,gLs (gram (llB b)) b.length),tcL (plC b t) b.length,(rq r))]) (fun (i:Nat) (v:Value)=>b.length-i) 0 (.slice none 0 0) (Nat.zero_le _) (ac Z (ac Z (ac Z ar))) (a6 (OS.keepLe (bl (by rfl)) (OS.keep OS.nil))) ?_
 intro i v hi
 refine ab<|Cr<|Wm Z<|Ws (c5 Z (ag 0 Z) U23)<|tl 8 Z (y:=(i:Int)) (by rw [gsL_len])<|Ws (aw Z dm Z)<|Ws (aw Z cm Z)<|Ws (af (p:=kMC.is (gLs (gram (llB b)) b.length)) Z (ag 1 Z) (aC (am Li)) bg Z)<|Ws (aK Z U22)<|tl 12 Z (y:=(b.length:Int)) (by rw [gLs_len])<|Ws (aW Z Z)<|Wn ?_
 refine aM Z (fun h_t13=>?_)<|fun h_t13=>?_
 ·
  refine Ck<|aF<|Cr<|Ws (af (p:=kTre.is ((gDs (gram (llB b)) b.length,gLs (gram (llB b)) b.length),tcL (plC b t) b.length,(rq r))) Z (ag 1 Z) Li cH Z)<|Wm Z<|Ws (dM (b:=OB.row v 29 kC (gsL (rdF b.length (plC b t)) i)) (ag 0 Z) fn173 (ai Z (ah (y:=((gDs ((plG b)) b.length,gLs ((plG b)) b.length),tcL (plC b t) b.length,(rq r))) (by rfl)) (aP Z ao)) (c_ref11_Centreo v (plG b) b.length (plC b t) r hP hr hr0 (gsL (rdF b.length (plC b t)) i) (SzF (by omega)) (by rw [gsL_len];omega)))<|Ax (l:=kRC) (u:=rq (cenQ (plG b) b.length (plC b t) (sfx (gsL (rdF b.length (plC b t)) i)) (b.length-1-(gsL (rdF b.length (plC b t)) i).length) (gsL (rdF b.length (plC b t)) i).length)) ba Z aj (fun _=>Z) Lr fun b2=>Wn<|ab<|Cr<|Wm Z<|Wn<|eM Z<|ak<|Ws (aw Z dY Z)<|Ws (af (p:=(kSl kRC).is (tcL (plC b t) b.length)) Z (ag 2 Z) (am (aC Li)) bM Z)<|Ws (aw Z dY Z)<|Ws (af (p:=(kSl kRC).is (tcL (plC b t) b.length)) Z (ag 2 Z) (am (aC Li)) bM Z) ?_
  refine Ws (aK Z U26)<|tl 22 Z (y:=(b.length:Int)) (by rw [tcL_len])<|Ws (bf Z Z (c:=((b.length:Int)-1)) (aG (by omega)))<|Wm Z<|Ws (c5 Z (ag 1 Z) U23)<|tl 25 Z (y:=(i:Int)) (by rw [gsL_len])<|Ws (bf Z Z (c:=(((b.length:Int)-1)-(i:Int))) (aG (by omega)))<|Ws (aU (b.length-1-i) Z Z U26 aj (by omega) (v:=(rq (plC b t (b.length-1-i)))) (fi (by omega)))<|Ws (aQ Z aj)<|aE .n (aD (l:=kRC) (u:=(rq (plC b t (b.length-1-i)))) 0 Z Z Z aj Z Lr)<|Wn<|ak<|Wm Z<|Ws (af Z (ag 0 Z) Li aj Z)<|Ws (f1 fn90 Z (gQ 800000000 (plC b t (b.length-1-i)) ((hP.c _ (by omega)).up (by decide)) (by decide)))<|Ws (bw U23 bn (bS Z bt) Z (by decide))<|bD 1 .n Z Z Z Lr U23 bn (by simp only [gsL_len,List.length_cons,List.length_nil];omega) fun v3=>Wa Z<|au<|dQ<|tr 1 Z (y:=(gsL (rdF b.length (plC b t)) (i+1))) Z<|bi (bj [1,2] (by decide) Z) ?_
  exact bP (i+1) v3 (by omega) (by omega) (ac Z (ac Z (ac Z ar)))<|aH _
 ·
  refine Ex<|ab<|tr 0 Z (y:=(plS b t true)) (by rw [show i=b.length by omega];rfl)<|ak<|Wm Z<|Wa Z<|Wn<|aA<|bJ 0 Z (kp 1 Z (kp 2 Z (.hit (i:=4) Z (.hit (i:=5) Z (.hit (i:=7) Z (kp 8 Z (kp 9 Z (kp 10 Z (kp 11 Z (kp 12 Z (kp 13 Z (.hit (i:=34) Z .nil)))))))))))) ?_
  exact Qd Z (aI Z ay) ⟨Z,Z⟩
theorem c_ref18_Plan (b:List (List Int)) (t:List (Int×Int)) (hA:askE b t=0):Fn Tryz.prog 33 [kMZ.is b,(kSl (kPair kZ kZ)).is t] (VP.tup [kTre.is ((gDs (gram (llB b)) b.length,gLs (gram (llB b)) b.length),tcL (plC b t) b.length,(rq (plP b t))),kRed.is (llB b,llU b,llV b,((llS b).length:Int)),kRC.is (rq (plH b t))]):=by
 refine aO Tryz.func33 Z Z fun m w=>?_
 have hT:=tgt_of hA
 have hZ:=basis_of hT.e
 have hRB:=redB_of hZ
 have hP:=plC_TZ hT
 have hlR:=hRB.len
 have hn12:=hRB.n
 have hn0:=hRB.n0
 have htl:t.length≤12:=by rw [hT.l];exact hZ.c 0
 refine Cr<|aX .n gj fun b1=>aX .n fA fun b2=>aX .n ba fun b3=>Wr<|Wm Z<|Ws (f1 fn50 Z (c_ref07_Reduce b hZ))<|Ax (l:=kRed) (u:=(llB b,llU b,llV b,((llS b).length:Int))) fA Z eA (fun _=>Z) Lr fun b4=>Wr<|Ws (aw Z eV Z)<|Ws (af (p:=kMC.is (llB b)) Z (ag 0 Z) (aC Li) bg Z)<|Ws (aB fn51 (ai Z (dC (hRB.z.sm (by decide))) ao) (c_ref05_Wide 264 (llB b) hRB.z (by decide) hRB.wide.1 (by rw [hlR];exact hRB.p) hRB.r.rl (by rw [hlR];exact hRB.n) (hRB.c 0)))<|Wm Z<|Ws (aN Z Z)<|Ws (aN Z Z)<|aX .n eg fun b5=>?_
 refine aE .n (aD (l:=kGso) (u:=(gDs (gram (llB b)) (llB b).length,gLs (gram (llB b)) (llB b).length)) 0 Z Z Z bm Z Lr)<|Wa Z<|Wn<|ab<|tb 0 Z (y:=(gDs (gram (llB b)) b.length,gLs (gram (llB b)) b.length)) (by rw [hlR])<|ak<|Ws (aw Z eV Z)<|Ws (af (p:=kMC.is (llB b)) Z (ag 1 Z) (aC Li) bg Z)<|Wm Z<|Ws (f2 fn100 Z Z (c_ref18_Coords b t (by assumption)))<|Wm Z<|Ws (aN Z Z)<|Ws (aN Z Z)<|aX .n ba fun b6=>Wa Z<|aE .n (aD (l:=kRC) (u:=rq (plH b t)) 0 Z Z Z aj Z Lr)<|Wn<|ab ?_
 refine a5 (Γ:=[.fr (kGso.is (gDs (gram (llB b)) b.length,gLs (gram (llB b)) b.length)),.fr ((kSl kRC).is (tcL (plC b t) b.length)),.fr (kRC.is (rq (0:Rat))),.fr (kTre.is ((gDs (gram (llB b)) b.length,gLs (gram (llB b)) b.length),(tcL (plC b t) b.length,rq (0:Rat)))),.al (fun b=>OB.box b 33 kTre (([],[]),([],(0,0))))]) (aa Z (fun N=>af (p:=kGso.is (gDs (gram (llB b)) b.length,gLs (gram (llB b)) b.length)) Z (mN N 1 Z) Li bm Z) (om Z Z (aa Z (fun N=>aB fn73 ao (fC)) (aa Z (fun N=>cd lit33_pr_pr_sl_C_sl_sl_C__pr_sl_pr_C_C__pr_C_C___ Z (cb Z (cb Z (cb Z bz))) (.cons Z (aC Li) (.cons Z (am (aC Li)) (.cons Z (am (am Li)) (.nil _))))) (oc (cM Z gj) oz)))))<|fun σ1=>?_
 refine aE .n (aD (l:=kTre) (u:=((gDs (gram (llB b)) b.length,gLs (gram (llB b)) b.length),(tcL (plC b t) b.length,rq (0:Rat)))) 0 Z Z Z cH Z Lr)<|Wn<|ab ?_
 refine a5 (Γ:=[.fr (kTre.is ((gDs (gram (llB b)) b.length,gLs (gram (llB b)) b.length),(tcL (plC b t) b.length,rq (0:Rat)))),.fr (kTre.is ((gDs (gram (llB b)) b.length,gLs (gram (llB b)) b.length),(tcL (plC b t) b.length,rq (0:Rat)))),.fr (kVC.is (plS b t false)),.fr (kRC.is (rq (parQ (plG b) b.length (plC b t) (sfx (plS b t false)) (plS b t false).length))),.fr (VP.pt (σ1 4) 3)]) (aa Z (fun N=>af (p:=kTre.is ((gDs (gram (llB b)) b.length,gLs (gram (llB b)) b.length),(tcL (plC b t) b.length,rq (0:Rat)))) Z (mN N 0 Z) Li cH Z) (aa Z (fun N=>af (p:=kTre.is ((gDs (gram (llB b)) b.length,gLs (gram (llB b)) b.length),(tcL (plC b t) b.length,rq (0:Rat)))) Z (mN N 0 Z) Li cH Z) (aa Z (fun N=>aB fn102 (ai Z (ah (y:=((gDs (gram (llB b)) b.length,gLs (gram (llB b)) b.length),tcL (plC b t) b.length,(rq ((0:Int):Rat)))) (by rfl)) (aP Z ao)) (c_ref18_guess_plane b t (by assumption) ((0:Int):Rat) (RZ0.up (by decide)) (by decide))) (aa Z (fun N=>aB fn101 (ai Z (ah (y:=((gDs ((plG b)) b.length,gLs ((plG b)) b.length),tcL (plC b t) b.length,(rq ((0:Int):Rat)))) (by rfl)) (aP Z ao)) (c_ref11_Part (plG b) b.length (plC b t) ((0:Int):Rat) hP (RZ0.up (by decide)) (by decide) (plS b t false) (plS_sz hT false) (by rw [plS_len];omega))) (aa Z (fun N=>aw Z ff Z) oz)))))<|fun σ2=>?_
 refine aE .n (dp 0 Z Z (am (am Li)) aj Z Lr)<|Wn<|ab<|tb 0 Z (y:=((gDs (gram (llB b)) b.length,gLs (gram (llB b)) b.length),tcL (plC b t) b.length,(rq (plP b t)))) (by rw [plP_len])<|bi (bj [6,5,4,0,1,2,3] (by decide) Z)<|CW.drawN (Γ:=[.fr (kTre.is ((gDs (gram (llB b)) b.length,gLs (gram (llB b)) b.length),tcL (plC b t) b.length,(rq (plP b t)))),.fr (kRed.is (llB b,llU b,llV b,((llS b).length:Int))),.fr (kRC.is (rq (plH b t))),.st 0,.st 1,.st 2]) (B:=[⟨3,OB.box b1 33 kTre (([],[]),([],(0,0))),OB.box b1 33 kTre ((gDs (gram (llB b)) b.length,gLs (gram (llB b)) b.length),tcL (plC b t) b.length,(rq (plP b t)))⟩,⟨4,OB.box b2 35 kRed ([],([],([],0))),OB.box b2 35 kRed (llB b,llU b,llV b,((llS b).length:Int))⟩,⟨5,OB.box b3 31 kRC (0,0),OB.box b3 31 kRC (rq (plH b t))⟩]) (Lr:=[OB.box (σ1 4) 33 kTre ((gDs (gram (llB b)) b.length,gLs (gram (llB b)) b.length),tcL (plC b t) b.length,(rq (plP b t))),OB.box b6 31 kRC (rq (plH b t)),OB.box b5 25 kGso (gDs (gram (llB b)) b.length,gLs (gram (llB b)) b.length),OB.box b4 35 kRed (llB b,llU b,llV b,((llS b).length:Int))]) (nf Z (fun N=>(af (p:=kTre.is ((gDs (gram (llB b)) b.length,gLs (gram (llB b)) b.length),tcL (plC b t) b.length,(rq (plP b t)))) Z (mN N 0 Z) Li cH Z)) (nf Z (fun N=>(af (p:=kRed.is (llB b,llU b,llV b,((llS b).length:Int))) Z (mN N 3 Z) Li eA Z)) (nf Z (fun N=>(af Z (mN N 1 Z) Li aj Z)) (ns Z Z (fun N=>(aD (l:=kTre) (u:=((gDs (gram (llB b)) b.length,gLs (gram (llB b)) b.length),tcL (plC b t) b.length,(rq (plP b t)))) 0 Z Z Z cH Z Lr)) (ns Z Z (fun N=>(aD (l:=kRed) (u:=(llB b,llU b,llV b,((llS b).length:Int))) 0 Z Z Z eA Z Lr)) (ns Z Z (fun N=>(aD (l:=kRC) (u:=rq (plH b t)) 0 Z Z Z aj Z Lr)) nz))))))<|co<|aA ?_
 exact Qd Z (aZ Z (ag 0 Z) cH (aZ Z (ag 1 Z) eA (aZ Z (ag 2 Z) aj ay))) ⟨Z,Z⟩
theorem c_ref18_Guess_plane (b:List (List Int)) (t:List (Int×Int)) (hA:askE b t=0):Fn Tryz.prog 44 [kMZ.is b,(kSl (kPair kZ kZ)).is t,kBool.is false] ((kPair kVC (kPair kVC kRC)).is (combA (plS b t false).reverse (llB b),combA (plS b t false).reverse (llU b),(rq (dstQ (combA (plS b t false).reverse (llB b)) t)))):=by
 refine aO Tryz.func44 Z Z fun m w=>?_
 have hT:=tgt_of hA
 have hZ:=basis_of hT.e
 have hRB:=redB_of hZ
 have hP:=plC_TZ hT
 have hlR:=hRB.len
 have hn12:=hRB.n
 have hn0:=hRB.n0
 have htl:t.length≤12:=by rw [hT.l];exact hZ.c 0
 have hPz:RZ 21000000000 (plP b t):=hP.par (fun x _=>sfx_RZ (plS_sz hT false) x) (Nat.le_refl _)
 have hS:=plS_sz hT false
 have hSl:=plS_len b t false
 have hSr:(plS b t false).reverse.length=b.length:=by rw [List.length_reverse,hSl]
 have hDP:=plD_P hT hS.rev hSr
 refine Cr<|aX .n d5 fun b1=>Wr<|Wm Z<|Wm Z<|Ws (f2 fn33 Z Z (c_ref18_Plan b t (by assumption)))<|Wm Z<|Ws (aN Z Z)<|Ws (aN Z Z)<|Ws (aN Z Z)<|aX .n gj fun b2=>aX .n fA fun b3=>aX .n ba fun b4=>aE .n (aD (l:=kTre) (u:=((gDs (gram (llB b)) b.length,gLs (gram (llB b)) b.length),tcL (plC b t) b.length,(rq (plP b t)))) 2 Z Z Z cH Z Lr)<|aE .n (aD (l:=kRed) (u:=(llB b,llU b,llV b,((llS b).length:Int))) 1 Z Z Z eA Z Lr)<|aE .n (aD (l:=kRC) (u:=rq (plH b t)) 0 Z Z Z aj Z Lr)<|Wr ?_
 refine Ws (af (p:=kTre.is ((gDs (gram (llB b)) b.length,gLs (gram (llB b)) b.length),tcL (plC b t) b.length,(rq (plP b t)))) Z (ag 2 Z) Li cH Z)<|Wm Z<|Ws (f2 fn102 Z Z (c_ref18_guess_plane b t (by assumption) (plP b t) hPz (gH (plP_nn hT))))<|Wa Z<|Wr<|Wa Z<|Wn<|ab<|Cr<|Wm Z<|Ws (aK Z U23)<|Ws (bf Z Z (c:=(((plS b t false).length:Int)-1)) (aG (by omega)))<|Wa Z<|Wn<|aF<|bQ 29 kC<|tl 12 Z (y:=((b.length:Int)-1)) (by rw [hSl])<|tr 0 Z (y:=((plS b t false).reverse.take (b.length-b.length))) (by rw [Nat.sub_self,List.take_zero]) ?_
 refine bi (bj [0,2,4] (by decide) Z)<|bT (fun (i:Nat) (v:Value)=>i≤b.length) (fun (i:Nat) (v:Value)=>[(1,(kSl (kPair kZ kZ)).is t),(6,VP.pt b1 0),(8,VP.pt b3 0),(10,kVC.is (plS b t false)),(11,VP.ex v),(12,kN6.is ((i:Int)-1))]) (fun (i:Nat) (v:Value)=>[OB.row v 29 kC ((plS b t false).reverse.take (b.length-i)),OB.box b3 35 kRed (llB b,llU b,llV b,((llS b).length:Int)),OB.box b1 53 (kPair kVC (kPair kVC kRC)) ([],[],(0,0))]) (fun (i:Nat) (v:Value)=>i) b.length (.slice none 0 0) (Nat.le_refl _) (aq Z Z Z Z (ac Z (az Z (ah (y:=(((b.length:Nat):Int)-1)) (by rfl)) ar))) (a6 (OS.keep (OS.keep (OS.keepLe (ce (by rfl)) OS.nil)))) ?_
 intro i v hi
 refine ab<|Cr<|Wm Z<|Ws (cZ Z Z)<|Wn ?_
 refine aM Z (fun h_t31=>?_)<|fun h_t31=>?_
 ·
  refine Ck<|ab<|aF<|tl 12 Z (y:=((i-1:Nat):Int)) (by omega)<|ak<|Wm Z<|Wm Z<|Wm Z<|Ws (aU (i-1) Z Z U23 ae (by omega) (v:=((plS b t false).getD (i-1) 0)) (gd 0 (by omega)))<|Ws (aQ Z ae)<|Ws (bw U23 bn (bS Z bt) Z (by decide))<|bD 0 .n Z Z Z Lr U23 bn (by simp;omega) fun v5=>Wa Z<|au<|Qb<|ak<|Wm Z<|Ws (bf Z Z (c:=(((i-1:Nat):Int)-1)) (aG (by omega)))<|Wa Z<|au<|tr 0 Z (y:=((plS b t false).reverse.take (b.length-(i-1)))) (rev_app hSl (by omega) (by omega))<|bi (bj [0,1,2] (by decide) Z) ?_
  exact bP (i-1) v5 (by omega) (by omega) (aq Z Z Z Z (ac Z (az Z (ah (y:=((((i-1):Nat):Int)-1)) (by rfl)) ar)))<|aH _
 ·
  refine Ex<|ab<|tr 0 Z (y:=((plS b t false).reverse)) (by rw [show i=0 by omega];exact List.take_of_length_le (by omega))<|bJ 0 Z (kp 1 Z (kp 6 Z (kp 8 Z (kp 10 Z (.hit (i:=11) Z (kp 12 Z (kp 30 Z (kp 31 Z .nil))))))))<|ak<|Wm Z<|Ws (aw Z eV Z)<|Ws (af (p:=kMC.is (llB b)) Z (ag 0 Z) (aC Li) bg Z)<|Ws (aB fn62 (ai Z (c6 (et hS.rev (by decide))) (ai Z (dC (hRB.z.sm (by decide))) ao)) (gl 30000000 ((plS b t false).reverse) (llB b) hS.rev (hRB.z.up (by decide)) (by omega)))<|Wm Z<|Ws (aN Z Z)<|Ws (aN Z Z)<|Wa Z<|Wa Z<|Wr<|Wm Z<|Ws (aw Z fld35_1 Z) ?_
  refine Ws (af (p:=kMC.is (llU b)) Z (ag 0 Z) (am (aC Li)) bg Z)<|Ws (aB fn62 (ai Z (c6 (et hS.rev (by decide))) (ai Z (dC (hRB.zu.sm (by decide))) ao)) (gl 2147483656 ((plS b t false).reverse) (llU b) (hS.rev.up (by decide)) hRB.zu (by have:=hRB.u.len;omega)))<|Wm Z<|Ws (aN Z Z)<|Ws (aN Z Z)<|Wa Z<|Wa Z<|Wr<|Wm Z<|Wm Z<|Wm Z<|Wm Z<|Ws (aB fn40 (ai Z (c6 (et (combA_Sz hS.rev hRB.z) (by omega))) (aP Z ao)) (c_ref18_Distancea (combA ((plS b t false).reverse) (llB b)) t (by assumption)))<|Ws (cd fl Z (cb Z (cb Z (cb Z bz))) (.cons Z (aC Li) (.cons Z (am (aC Li)) (.cons Z (am (am Li)) (.nil _)))))<|aE .n (aD (l:=(kPair kVC (kPair kVC kRC))) (u:=(combA ((plS b t false).reverse) (llB b),(combA ((plS b t false).reverse) (llU b),rq (dstQ (combA ((plS b t false).reverse) (llB b)) t)))) 1 Z Z Z da Z Lr)<|Wn<|aA ?_
  exact Qd Z (dy Z (ag 1 Z) da (ah (y:=(combA (plS b t false).reverse (llB b),combA (plS b t false).reverse (llU b),(rq (dstQ (combA (plS b t false).reverse (llB b)) t)))) (by rfl)) ay) ⟨Z,Z⟩
theorem c_ref18_Guess_round (b:List (List Int)) (t:List (Int×Int)) (hA:askE b t=0):Fn Tryz.prog 44 [kMZ.is b,(kSl (kPair kZ kZ)).is t,kBool.is true] ((kPair kVC (kPair kVC kRC)).is (combA (plS b t true).reverse (llB b),combA (plS b t true).reverse (llU b),(rq (dstQ (combA (plS b t true).reverse (llB b)) t)))):=by
 refine aO Tryz.func44 Z Z fun m w=>?_
 have hT:=tgt_of hA
 have hZ:=basis_of hT.e
 have hRB:=redB_of hZ
 have hP:=plC_TZ hT
 have hlR:=hRB.len
 have hn12:=hRB.n
 have hn0:=hRB.n0
 have htl:t.length≤12:=by rw [hT.l];exact hZ.c 0
 have hPz:RZ 21000000000 (plP b t):=hP.par (fun x _=>sfx_RZ (plS_sz hT false) x) (Nat.le_refl _)
 have hS:=plS_sz hT true
 have hSl:=plS_len b t true
 have hSr:(plS b t true).reverse.length=b.length:=by rw [List.length_reverse,hSl]
 have hDP:=plD_P hT hS.rev hSr
 refine Cr<|aX .n d5 fun b1=>Wr<|Wm Z<|Wm Z<|Ws (f2 fn33 Z Z (c_ref18_Plan b t (by assumption)))<|Wm Z<|Ws (aN Z Z)<|Ws (aN Z Z)<|Ws (aN Z Z)<|aX .n gj fun b2=>aX .n fA fun b3=>aX .n ba fun b4=>aE .n (aD (l:=kTre) (u:=((gDs (gram (llB b)) b.length,gLs (gram (llB b)) b.length),tcL (plC b t) b.length,(rq (plP b t)))) 2 Z Z Z cH Z Lr)<|aE .n (aD (l:=kRed) (u:=(llB b,llU b,llV b,((llS b).length:Int))) 1 Z Z Z eA Z Lr)<|aE .n (aD (l:=kRC) (u:=rq (plH b t)) 0 Z Z Z aj Z Lr)<|Wr ?_
 refine Ws (af (p:=kTre.is ((gDs (gram (llB b)) b.length,gLs (gram (llB b)) b.length),tcL (plC b t) b.length,(rq (plP b t)))) Z (ag 2 Z) Li cH Z)<|Wm Z<|Ws (f2 fn102 Z Z (c_ref18_guess_round b t (by assumption) (plP b t) hPz (gH (plP_nn hT))))<|Wa Z<|Wr<|Wa Z<|Wn<|ab<|Cr<|Wm Z<|Ws (aK Z U23)<|Ws (bf Z Z (c:=(((plS b t true).length:Int)-1)) (aG (by omega)))<|Wa Z<|Wn<|aF<|bQ 29 kC<|tl 12 Z (y:=((b.length:Int)-1)) (by rw [hSl])<|tr 0 Z (y:=((plS b t true).reverse.take (b.length-b.length))) (by rw [Nat.sub_self,List.take_zero]) ?_
 refine bi (bj [0,2,4] (by decide) Z)<|bT (fun (i:Nat) (v:Value)=>i≤b.length) (fun (i:Nat) (v:Value)=>[(1,(kSl (kPair kZ kZ)).is t),(6,VP.pt b1 0),(8,VP.pt b3 0),(10,kVC.is (plS b t true)),(11,VP.ex v),(12,kN6.is ((i:Int)-1))]) (fun (i:Nat) (v:Value)=>[OB.row v 29 kC ((plS b t true).reverse.take (b.length-i)),OB.box b3 35 kRed (llB b,llU b,llV b,((llS b).length:Int)),OB.box b1 53 (kPair kVC (kPair kVC kRC)) ([],[],(0,0))]) (fun (i:Nat) (v:Value)=>i) b.length (.slice none 0 0) (Nat.le_refl _) (aq Z Z Z Z (ac Z (az Z (ah (y:=(((b.length:Nat):Int)-1)) (by rfl)) ar))) (a6 (OS.keep (OS.keep (OS.keepLe (ce (by rfl)) OS.nil)))) ?_
 intro i v hi
 refine ab<|Cr<|Wm Z<|Ws (cZ Z Z)<|Wn ?_
 refine aM Z (fun h_t31=>?_)<|fun h_t31=>?_
 ·
  refine Ck<|ab<|aF<|tl 12 Z (y:=((i-1:Nat):Int)) (by omega)<|ak<|Wm Z<|Wm Z<|Wm Z<|Ws (aU (i-1) Z Z U23 ae (by omega) (v:=((plS b t true).getD (i-1) 0)) (gd 0 (by omega)))<|Ws (aQ Z ae)<|Ws (bw U23 bn (bS Z bt) Z (by decide))<|bD 0 .n Z Z Z Lr U23 bn (by simp;omega) fun v5=>Wa Z<|au<|Qb<|ak<|Wm Z<|Ws (bf Z Z (c:=(((i-1:Nat):Int)-1)) (aG (by omega)))<|Wa Z<|au<|tr 0 Z (y:=((plS b t true).reverse.take (b.length-(i-1)))) (rev_app hSl (by omega) (by omega))<|bi (bj [0,1,2] (by decide) Z) ?_
  exact bP (i-1) v5 (by omega) (by omega) (aq Z Z Z Z (ac Z (az Z (ah (y:=((((i-1):Nat):Int)-1)) (by rfl)) ar)))<|aH _
 ·
  refine Ex<|ab<|tr 0 Z (y:=((plS b t true).reverse)) (by rw [show i=0 by omega];exact List.take_of_length_le (by omega))<|bJ 0 Z (kp 1 Z (kp 6 Z (kp 8 Z (kp 10 Z (.hit (i:=11) Z (kp 12 Z (kp 30 Z (kp 31 Z .nil))))))))<|ak<|Wm Z<|Ws (aw Z eV Z)<|Ws (af (p:=kMC.is (llB b)) Z (ag 0 Z) (aC Li) bg Z)<|Ws (aB fn62 (ai Z (c6 (et hS.rev (by decide))) (ai Z (dC (hRB.z.sm (by decide))) ao)) (gl 30000000 ((plS b t true).reverse) (llB b) hS.rev (hRB.z.up (by decide)) (by omega)))<|Wm Z<|Ws (aN Z Z)<|Ws (aN Z Z)<|Wa Z<|Wa Z<|Wr<|Wm Z<|Ws (aw Z fld35_1 Z) ?_
  refine Ws (af (p:=kMC.is (llU b)) Z (ag 0 Z) (am (aC Li)) bg Z)<|Ws (aB fn62 (ai Z (c6 (et hS.rev (by decide))) (ai Z (dC (hRB.zu.sm (by decide))) ao)) (gl 2147483656 ((plS b t true).reverse) (llU b) (hS.rev.up (by decide)) hRB.zu (by have:=hRB.u.len;omega)))<|Wm Z<|Ws (aN Z Z)<|Ws (aN Z Z)<|Wa Z<|Wa Z<|Wr<|Wm Z<|Wm Z<|Wm Z<|Wm Z<|Ws (aB fn40 (ai Z (c6 (et (combA_Sz hS.rev hRB.z) (by omega))) (aP Z ao)) (c_ref18_Distancea (combA ((plS b t true).reverse) (llB b)) t (by assumption)))<|Ws (cd fl Z (cb Z (cb Z (cb Z bz))) (.cons Z (aC Li) (.cons Z (am (aC Li)) (.cons Z (am (am Li)) (.nil _)))))<|aE .n (aD (l:=(kPair kVC (kPair kVC kRC))) (u:=(combA ((plS b t true).reverse) (llB b),(combA ((plS b t true).reverse) (llU b),rq (dstQ (combA ((plS b t true).reverse) (llB b)) t)))) 1 Z Z Z da Z Lr)<|Wn<|aA ?_
  exact Qd Z (dy Z (ag 1 Z) da (ah (y:=(combA (plS b t true).reverse (llB b),combA (plS b t true).reverse (llU b),(rq (dstQ (combA (plS b t true).reverse (llB b)) t)))) (by rfl)) ay) ⟨Z,Z⟩
theorem c_law18_own (z:Int):Fn Tryz.prog 60 [kZ.is z] (kZ.is z):=by
 refine aO Tryz.func60 Z Z fun m w=>cY 0 Z fun y y_v y_n y_l=>Cr<|aY .n Z fun b1=>aX .n bc fun b2=>Wr<|Wa Z<|Wn<|ab<|bQ 93 kLimb<|ak<|Wm Z<|Ws (aw Z bV Z)<|Ws (af (p:=kN.is y.2) Z (ag 2 Z) (am Li) bW Z)<|bD 0 .n Z Z Z Lr U27 b9 (by simp;omega) fun v3=>Wa Z<|Wn<|ab ?_
 refine ak<|Wm Z<|Ws (bw U27 b9 (cq Z (bR (x:=77) (by omega)) (cq Z (bR (x:=78) (by omega)) (cq Z (bR (x:=79) (by omega)) (cq Z (bR (x:=80) (by omega)) (cq Z (bR (x:=81) (by omega)) (cq Z (bR (x:=82) (by omega)) (cq Z (bR (x:=83) (by omega)) (cq Z (bR (x:=84) (by omega)) (cq Z (bR (x:=85) (by omega)) bt))))))))) Z (by decide))<|bD 0 .n Z Z Z Lr U27 b9 (by simp;omega) fun v4=>Wa Z<|Wn<|ab<|bJ 0 Z (kp 0 Z (kp 1 Z (kp 2 Z (.hit (i:=3) Z (kp 4 Z (kp 5 Z (kp 6 Z (kp 7 Z (kp 8 Z (kp 9 Z (.hit (i:=10) Z .nil))))))))))) ?_
 refine a5 (Γ:=[.fr (VP.pt b1 0),.fr (kBool.is y.1),.fr (kN.is (y.2++[77,78,79,80,81,82,83,84,85])),.fr (VP.pt b1 1),.fr (kN.is y.2),.fr (kN6.is (y.2.length:Int)),.fr (kN.is ((y.2++[77,78,79,80,81,82,83,84,85]).take y.2.length)),.fr (kI.is (y.1,((y.2++[77,78,79,80,81,82,83,84,85]).take y.2.length)))]) (aa Z (fun N=>aw Z cQ Z) (aa Z (fun N=>af (p:=kBool.is y.1) Z (mN N 1 Z) (aC Li) cS Z) (om Z Z (aa Z (fun N=>aw Z bV Z) (aa Z (fun N=>af (p:=kN.is y.2) Z (mN N 1 Z) (am Li) bW Z) (aa Z (fun N=>aK Z U27) (aa Z (fun N=>O.slH y.2.length Z Z U27 a7 Z (by simp)) (aa Z (fun N=>cd fw Z (cb Z (cb Z bz)) (.cons Z (aC Li) (.cons Z (am Li) (.nil _)))) oz))))))))<|fun σ1=>?_
 refine aE .n (aD (l:=kI) (u:=(y.1,((y.2++[77,78,79,80,81,82,83,84,85]).take y.2.length))) 0 Z Z Z ae Z Lr)<|Wn<|aA<|er (b':=OB.box b2 29 kZ z) 0 Z (OB.I_Z (own_val y_v) (by simp;omega)) ?_
 exact Qd Z (aZ Z (ag 0 Z) ae ay) ⟨Z,Z⟩
theorem c_law18_owns (xs:List Int):Fn Tryz.prog 38 [kVZ.is xs] (kVZ.is xs):=by
 refine aO Tryz.func38 Z Z fun m w=>a9 (i:=0) Z bI fun hB=>Cr<|Wa Z<|Wr<|Wa Z<|Wn<|ab<|Cr<|Wa Z<|Wn<|aF<|bQ 29 kZ<|bT (fun (i:Nat) (v:Value)=>i≤xs.length) (fun (i:Nat) (v:Value)=>[(0,kVZ.is xs),(3,VP.ex v),(4,kN6.is (i:Int))]) (fun (i:Nat) (v:Value)=>[OB.row v 29 kZ (xs.take i)]) (fun (i:Nat) (v:Value)=>xs.length-i) 0 (.slice none 0 0) (by omega) (ac Z (ac Z (az Z (ah (y:=(0:Int)) (by omega)) ar))) (a6 (OS.keepLe (bl (by simp)) OS.nil)) ?_
 intro i v hR
 have htl:(xs.take i).length=i:=by simp;omega
 refine ab<|Cr<|Wm Z<|Wm Z<|Ws (aK Z U23)<|Ws (aW Z Z)<|Wn ?_
 refine aM Z (fun h_t8=>?_)<|fun h_t8=>?_
 ·
  refine Ck<|ab<|aF<|ak<|Wm Z<|Wm Z<|Wm Z<|Ws (aU i Z Z U23 ae Z (v:=(xs.getD i 0)) (gd 0 (by omega)))<|Ws (aQ Z ae)<|Ws (f1 fn60 Z (c_law18_own (xs.getD i 0)))<|Ws (bw U23 el29_Z (bS Z bt) Z (by decide))<|bD 0 .n Z Z Z Lr U23 el29_Z (by simp;omega) fun v1=>Wa Z<|au<|Qb<|ak<|Wm Z<|Ws (aS Z Z (c:=((i:Int)+1)) (aG (by omega)))<|Wa Z<|au<|tr 0 Z (y:=(xs.take (i+1))) (fG (by omega)) ?_
  exact bP (i+1) v1 (by omega) (by omega) (ac Z (ac Z (az Z (ah (y:=(((i+1):Nat):Int)) (by omega)) ar)))<|aH _
 ·
  refine Ex<|Cr<|Wm Z<|Wa Z<|Wn<|aA<|bJ 0 Z (kp 0 Z (.hit (i:=2) Z (.hit (i:=3) Z (kp 4 Z (kp 5 Z (kp 6 Z (kp 7 Z (kp 8 Z (.hit (i:=19) Z .nil)))))))))<|tl 2 Z (y:=xs) (List.take_of_length_le (by omega)) ?_
  exact Qd Z (aI Z ay) ⟨Z,Z⟩
theorem c_law18_eq (x y:Bool×List Nat):Fn Tryz.prog 72 [kI.is x,kI.is y] (kBool.is (decide (x=y))):=by
 refine aO Tryz.func72 Z Z fun m w=>Cr<|aY .n Z fun b1=>aY .n Z fun b2=>Wa Z<|Wn<|ab<|Cr<|Ws (aw Z cQ Z)<|Ws (af Z (ag 1 Z) (aC Li) cS Z)<|Ws (aw Z cQ Z)<|Ws (af Z (ag 0 Z) (aC Li) cS Z)<|Ws (O.neB Z Z U4)<|Wm Z ?_
 refine cN 11 Z (fun h_t11=>?_)<|fun h_t11=>?_
 ·
  refine Kt Z Z<|Kt Z Z<|Kt Z Z<|Kt Z Z<|Kt Z Z<|Kt Z Z<|Kt Z Z<|Ws (cC Z Z)<|Wn<|eM Z<|Cr<|Wa Z<|Wn<|aA<|a8<|tl 4 Z (y:=(decide (x=y))) (by rw [eq_comm,decide_eq_false_iff_not];intro e;exact h_t11 (by rw [e])) ?_
  exact Qd Z (aI Z ay) ⟨Z,Z⟩
 ·
  refine Wg Z Z (aw Z bV Z)<|Wg Z Z (af Z (ag 1 Z) (am Li) bW Z)<|Wg Z Z (aK Z U27)<|Wg Z Z (aw Z bV Z)<|Wg Z Z (af Z (ag 0 Z) (am Li) bW Z)<|Wg Z Z (aK Z U27)<|Wg Z Z (bG Z Z)<|Ws (cg Z Z)<|Wn ?_
  refine aM Z (fun h_t19=>?_)<|fun h_t19=>?_
  ·
   refine Cr<|Wa Z<|Wn<|aA<|a8<|tl 4 Z (y:=(decide (x=y))) (by rw [eq_comm,decide_eq_false_iff_not];intro e;exact h_t19 (by rw [e])) ?_
   exact Qd Z (aI Z ay) ⟨Z,Z⟩
  ·
   refine Ck<|ab<|ab<|a9 (i:=13) Z bI fun hB=>ak<|Wa Z<|Wn<|aF<|bL (fun (i:Nat)=>i≤x.2.length∧x.2.take i=y.2.take i) (fun (i:Nat)=>[(2,VP.pt b1 0),(3,VP.pt b2 0),(5,kN6.is (i:Int))]) (fun (i:Nat)=>[OB.box b2 29 kI y,OB.box b1 29 kI x]) (fun (i:Nat)=>x.2.length-i) 0 ⟨Nat.zero_le _,Z⟩ (ac Z (ac Z (az Z (ah (y:=(0:Int)) (by omega)) ar))) (aH _) ?_
   intro i ⟨hi,ht⟩
   refine ab<|Cr<|Wm Z<|Ws (aw Z bV Z)<|Ws (af Z (ag 1 Z) (am Li) bW Z)<|Ws (aK Z U27)<|Ws (aW Z Z)<|Wn ?_
   refine aM Z (fun h_t24=>?_)<|fun h_t24=>?_
   ·
    refine Ck<|ab<|aF<|ab ?_
    refine a5 (Γ:=[.fr (VP.pt b1 1),.fr (kN.is x.2),.fr (kN6.is (i:Int)),.fr (VP.pim kLimb (x.2.getD i 0)),.fr ((kInt .u32).is ((x.2.getD i 0):Int)),.fr (VP.pt b2 1),.fr (kN.is y.2),.fr (kN6.is (i:Int)),.fr (VP.pim kLimb (y.2.getD i 0)),.fr ((kInt .u32).is ((y.2.getD i 0):Int)),.fr (kBool.is (decide (((x.2.getD i 0):Int)≠((y.2.getD i 0):Int))))]) (aa Z (fun N=>aw Z bV Z) (aa Z (fun N=>af Z (mN N 1 Z) (am Li) bW Z) (om Z Z (aa Z (fun N=>aU i Z Z U27 a7 Z (v:=(x.2.getD i 0)) (gd 0 (by omega))) (aa Z (fun N=>aV (aQ Z a7) (ca _)) (aa Z (fun N=>aw Z bV Z) (aa Z (fun N=>af Z (mN N 0 Z) (am Li) bW Z) (om Z Z (aa Z (fun N=>aU i Z Z U27 a7 Z (v:=(y.2.getD i 0)) (gd 0 (by omega))) (aa Z (fun N=>aV (aQ Z a7) (ca _)) (aa Z (fun N=>bG Z Z) oz)))))))))))<|fun σ1=>?_
    refine Wn ?_
    refine aM Z (fun h_t37=>?_)<|fun h_t37=>?_
    ·
     refine Cr<|Wa Z<|Wn<|aA<|bU<|a8<|a8<|bU<|a8<|tl 4 Z (y:=(decide (x=y))) (by rw [eq_comm,decide_eq_false_iff_not];intro e;exact h_t37 (by rw [e])) ?_
     exact Qd Z (aI Z ay) ⟨Z,Z⟩
    ·
     refine cB<|Qb<|ak<|Wm Z<|Ws (aS Z Z (c:=((i:Int)+1)) (aG (by omega)))<|Wa Z<|au ?_
     exact bF (i+1) (by omega) ⟨by omega,eq_take (d:=0) (by omega) (by omega) ht (by omega)⟩ (ac Z (ac Z (az Z (ah (y:=(((i+1):Nat):Int)) (by omega)) ar)))<|aH _
   ·
    refine Ex<|Cr<|Wa Z<|Wn<|aA<|tl 4 Z (y:=(decide (x=y))) (by rw [eq_comm,decide_eq_true_iff];exact Prod.ext (by simpa using h_t11) (eq_full (i:=i) (by omega) (by omega) ht)) ?_
    exact Qd Z (aI Z ay) ⟨Z,Z⟩
theorem c_law18_ownm (b:List (List Int)):Fn Tryz.prog 18 [kMZ.is b] (kMZ.is b):=by
 refine aO Tryz.func18 Z Z fun m w=>a9 (i:=0) Z bI fun hB=>Cr<|Wa Z<|Wr<|Wa Z<|Wn<|ab<|Cr<|Wa Z<|Wn<|aF<|bQ 23 kVZ<|bT (fun (i:Nat) (v:Value)=>i≤b.length) (fun (i:Nat) (v:Value)=>[(0,kMZ.is b),(3,VP.ex v),(4,kN6.is (i:Int))]) (fun (i:Nat) (v:Value)=>[OB.row v 23 kVZ (b.take i)]) (fun (i:Nat) (v:Value)=>b.length-i) 0 (.slice none 0 0) (Nat.zero_le _) (ac Z (ac Z (az Z (ah (y:=(0:Int)) (by omega)) ar))) (a6 (OS.keepLe (bl (by simp)) OS.nil)) ?_
 intro i v hi
 have htl:(b.take i).length=i:=by simp;omega
 refine ab<|Cr<|Wm Z<|Wm Z<|Ws (aK Z U22)<|Ws (aW Z Z)<|Wn ?_
 refine aM Z (fun h_t8=>?_)<|fun h_t8=>?_
 ·
  refine Ck<|ab<|aF<|ak<|Wm Z<|Wm Z<|Wm Z<|Ws (aU i Z Z U22 aJ Z (v:=(b.getD i [])) (gd [] (by omega)))<|Ws (aQ Z aJ)<|Ws (f1 fn38 Z (c_law18_owns (b.getD i [])))<|Ws (bw U22 el23_sl_Z (bS Z bt) Z (by decide))<|bD 0 .n Z Z Z Lr U22 el23_sl_Z (by simp;omega) fun v1=>Wa Z<|au<|Qb<|ak<|Wm Z<|Ws (aS Z Z (c:=((i:Int)+1)) (aG (by omega)))<|Wa Z<|au<|tr 0 Z (y:=(b.take (i+1))) (fG (by omega)) ?_
  exact bP (i+1) v1 (by omega) (by omega) (ac Z (ac Z (az Z (ah (y:=(((i+1):Nat):Int)) (by omega)) ar)))<|aH _
 ·
  refine Ex<|Cr<|Wm Z<|Wa Z<|Wn<|aA<|bJ 0 Z (kp 0 Z (.hit (i:=2) Z (.hit (i:=3) Z (kp 4 Z (kp 5 Z (kp 6 Z (kp 7 Z (kp 8 Z (.hit (i:=19) Z .nil)))))))))<|tl 2 Z (y:=b) (List.take_of_length_le (by omega)) ?_
  exact Qd Z (aI Z ay) ⟨Z,Z⟩
abbrev gq:=@c_law18_ownm
theorem c_law18_ownt (t:List (Int×Int)):Fn Tryz.prog 19 [(kSl (kPair kZ kZ)).is t] ((kSl (kPair kZ kZ)).is t):=by
 refine aO Tryz.func19 Z Z fun m w=>a9 (i:=0) Z bI fun hB=>Cr<|Wa Z<|Wr<|Wa Z<|Wn<|ab<|Cr<|Wa Z<|Wn<|aF<|bQ 31 (kPair kZ kZ)<|bT (fun (i:Nat) (v:Value)=>i≤t.length) (fun (i:Nat) (v:Value)=>[(0,(kSl (kPair kZ kZ)).is t),(3,VP.ex v),(4,kN6.is (i:Int))]) (fun (i:Nat) (v:Value)=>[OB.row v 31 (kPair kZ kZ) (t.take i)]) (fun (i:Nat) (v:Value)=>t.length-i) 0 (.slice none 0 0) (Nat.zero_le _) (ac Z (ac Z (az Z (ah (y:=(0:Int)) (by omega)) ar))) (a6 (OS.keepLe (bl (by simp)) OS.nil)) ?_
 intro i v hi
 have htl:(t.take i).length=i:=by simp;omega
 refine ab<|Cr<|Wm Z<|Wm Z<|Ws (aK Z U26)<|Ws (aW Z Z)<|Wn ?_
 refine aM Z (fun h_t8=>?_)<|fun h_t8=>?_
 ·
  refine Ck<|ab<|aF ?_
  refine a5 (Γ:=[.fr (VP.ex v),.fr ((kSl (kPair kZ kZ)).is t),.fr (kN6.is (i:Int)),.fr (VP.pim (kPair kZ kZ) (t.getD i (0,0))),.fr (VP.pim kZ ((t.getD i (0,0)).1)),.fr (kZ.is ((t.getD i (0,0)).1)),.fr (kZ.is ((t.getD i (0,0)).1)),.fr ((kSl (kPair kZ kZ)).is t),.fr (kN6.is (i:Int)),.fr (VP.pim (kPair kZ kZ) (t.getD i (0,0))),.fr (VP.pim kZ ((t.getD i (0,0)).2)),.fr (kZ.is ((t.getD i (0,0)).2)),.fr (kZ.is ((t.getD i (0,0)).2)),.fr ((kPair kZ kZ).is ((t.getD i (0,0)).1,(t.getD i (0,0)).2)),.fr ((kSl (kPair kZ kZ)).is [((t.getD i (0,0)).1,(t.getD i (0,0)).2)])]) (om Z Z (om Z Z (om Z Z (aa Z (fun N=>aU i Z Z U26 aj Z (v:=(t.getD i (0,0))) (gd (0,0) (by omega))) (aa Z (fun N=>cL Z cx (aC Li) Z) (aa Z (fun N=>aQ Z ae) (aa Z (fun N=>f1 fn60 Z (c_law18_own ((t.getD i (0,0)).1))) (om Z Z (om Z Z (aa Z (fun N=>aU i Z Z U26 aj Z (v:=(t.getD i (0,0))) (gd (0,0) (by omega))) (aa Z (fun N=>cL Z bX (am Li) Z) (aa Z (fun N=>aQ Z ae) (aa Z (fun N=>f1 fn60 Z (c_law18_own ((t.getD i (0,0)).2))) (aa Z (fun N=>cd lit31_pr_Z_Z_ Z (cb Z (cb Z bz)) (.cons Z (aC Li) (.cons Z (am Li) (.nil _)))) (aa Z (fun N=>bw U26 gP (bS Z bt) Z (by decide)) oz)))))))))))))))<|fun σ1=>?_
  refine bD 0 .n Z Z Z Lr U26 gP (by simp;omega) fun v1=>Wa Z<|au<|Qb<|ak<|Wm Z<|Ws (aS Z Z (c:=((i:Int)+1)) (aG (by omega)))<|Wa Z<|au<|tr 0 Z (y:=(t.take (i+1))) (fG (d:=(0,0)) (by omega)) ?_
  exact bP (i+1) v1 (by omega) (by omega) (ac Z (ac Z (az Z (ah (y:=(((i+1):Nat):Int)) (by omega)) ar)))<|aH _
 ·
  refine Ex<|Cr<|Wm Z<|Wa Z<|Wn<|aA<|bJ 0 Z (kp 0 Z (.hit (i:=2) Z (.hit (i:=3) Z (kp 4 Z (kp 5 Z (kp 6 Z (kp 7 Z (kp 8 Z (.hit (i:=27) Z .nil)))))))))<|tl 2 Z (y:=t) (List.take_of_length_le (by omega)) ?_
  exact Qd Z (aI Z ay) ⟨Z,Z⟩
abbrev gp:=@c_law18_ownt
theorem c_law18_eqr (p:Int×Int):Fn Tryz.prog 23 [kRC.is p,kRC.is p] (kBool.is true):=by
 refine aO Tryz.func23 Z Z fun m w=>Cr<|aY .n Z fun b1=>aY .n Z fun b2=>Wa Z<|Wr<|Ws (aw Z cx Z)<|Ws (af Z (ag 1 Z) (aC Li) ae Z)<|Ws (aw Z cx Z)<|Ws (af Z (ag 0 Z) (aC Li) ae Z)<|Ws (aB fn72 (ai Z (kC_I _) (ai Z (kC_I _) ao)) (c_law18_eq (canon p.1) (canon p.1)))<|Wm Z ?_
 refine cN 10 Z (fun h_t10=>?_)<|fun h=>absurd Z h
 refine Wg Z Z (aw Z bX Z)<|Wg Z Z (af Z (ag 1 Z) (am Li) ae Z)<|Wg Z Z (aw Z bX Z)<|Wg Z Z (af Z (ag 0 Z) (am Li) ae Z)<|Wg Z Z (aB fn72 (ai Z (kC_I _) (ai Z (kC_I _) ao)) (c_law18_eq (canon p.2) (canon p.2)))<|Ws (cC Z Z)<|Wa Z<|Wn<|aA ?_
 exact Qd Z (du Z (ah (y:=true) (by simp)) ay) ⟨Z,Z⟩
theorem c_law18_eqs (l:List Int):Fn Tryz.prog 34 [kVC.is l,kVC.is l] (kBool.is true):=by
 refine aO Tryz.func34 Z Z fun m w=>a9 (i:=0) Z bI fun hB=>Cr<|Wa Z<|Wn<|ab<|Cr<|Wm Z<|Ws (aK Z U23)<|Wm Z<|Ws (aK Z U23)<|Ws (bG Z Z)<|Wn ?_
 refine CN Z (fun h=>h Z) fun h_t10=>?_
 refine Ck<|ab<|Cr<|Wa Z<|Wn<|aF<|bL (fun (i:Nat)=>i≤l.length) (fun (i:Nat)=>[(0,kVC.is l),(1,kVC.is l),(5,kN6.is (i:Int))]) (fun (i:Nat)=>[]) (fun (i:Nat)=>l.length-i) 0 (Nat.zero_le _) (ac Z (ac Z (az Z (ah (y:=(0:Int)) (by rfl)) ar))) (aH _) ?_
 intro i hi
 refine ab<|Cr<|Wm Z<|Wm Z<|Ws (aK Z U23)<|Ws (aW Z Z)<|Wn ?_
 refine aM Z (fun h_t14=>?_)<|fun h_t14=>?_
 ·
  refine Ck<|ab<|aF<|ab ?_
  refine a5 (Γ:=[.fr (kVC.is l),.fr (kN6.is (i:Int)),.fr (VP.pim kC (l.getD i 0)),.fr (kC.is (l.getD i 0)),.fr (kVC.is l),.fr (kN6.is (i:Int)),.fr (VP.pim kC (l.getD i 0)),.fr (kC.is (l.getD i 0)),.fr (kBool.is (decide ((canon (l.getD i 0))=(canon (l.getD i 0))))),.fr (kBool.is (!(decide ((canon (l.getD i 0))=(canon (l.getD i 0))))))]) (om Z Z (om Z Z (aa Z (fun N=>aU i Z Z U23 ae Z (v:=(l.getD i 0)) (gd 0 (by omega))) (aa Z (fun N=>aQ Z ae) (om Z Z (om Z Z (aa Z (fun N=>aU i Z Z U23 ae Z (v:=(l.getD i 0)) (gd 0 (by omega))) (aa Z (fun N=>aQ Z ae) (aa Z (fun N=>aB fn72 (ai Z (kC_I _) (ai Z (kC_I _) ao)) (c_law18_eq (canon (l.getD i 0)) (canon (l.getD i 0)))) (aa Z (fun N=>ez Z) oz))))))))))<|fun σ1=>?_
  refine Wn ?_
  refine eN Z (fun h=>Bool.noConfusion ((h.symm.trans (show (!(decide ((canon (l.getD i 0))=(canon (l.getD i 0)))))=false from (by simp))):true=false))<|fun h_t26=>?_
  refine cB<|Qb<|ak<|Wm Z<|Ws (aS Z Z (c:=((i:Int)+1)) (aG (by omega)))<|Wa Z<|au ?_
  exact bF (i+1) (by omega) (by omega) (ac Z (ac Z (az Z (ah (y:=(((i+1):Nat):Int)) (by rfl)) ar)))<|aH _
 ·
  refine Ex<|Cr<|Wa Z<|Wn<|aA ?_
  exact Qd Z (aI Z ay) ⟨Z,Z⟩
theorem c_law18_same (x y:List Int) (p:Int×Int):Fn Tryz.prog 43 [(kPair kVC (kPair kVC kRC)).is (x,y,p),(kPair kVC (kPair kVC kRC)).is (x,y,p)] (kBool.is true):=by
 refine aO Tryz.func43 Z Z fun m w=>Cr<|aY .n Z fun b1=>aY .n Z fun b2=>Wa Z<|Wr<|Ws (aw Z fld53_0 Z)<|Ws (af (p:=kVC.is x) Z (ag 1 Z) (aC Li) aJ Z)<|Ws (aw Z fld53_0 Z)<|Ws (af (p:=kVC.is x) Z (ag 0 Z) (aC Li) aJ Z)<|Ws (f2 fn34 Z Z (c_law18_eqs x))<|Wm Z<|Wg Z Z (aw Z fld53_1 Z)<|Wg Z Z (af (p:=kVC.is y) Z (ag 1 Z) (am (aC Li)) aJ Z)<|Wg Z Z (aw Z fld53_1 Z)<|Wg Z Z (af (p:=kVC.is y) Z (ag 0 Z) (am (aC Li)) aJ Z)<|Wg Z Z (f2 fn34 Z Z (c_law18_eqs y))<|Ws (cC Z Z)<|Wm Z<|Wg Z Z (aw Z fld53_2 Z) ?_
 refine Wg Z Z (af (p:=kRC.is p) Z (ag 1 Z) (am (am Li)) aj Z)<|Wg Z Z (aw Z fld53_2 Z)<|Wg Z Z (af (p:=kRC.is p) Z (ag 0 Z) (am (am Li)) aj Z)<|Wg Z Z (f2 fn23 Z Z (c_law18_eqr p))<|Ws (cC Z Z)<|Wa Z<|Wn<|aA ?_
 exact Qd Z (aI Z ay) ⟨Z,Z⟩
abbrev gn:=@c_law18_same
theorem c_law18_CloseGuesses (b:List (List Int)) (t:List (Int×Int)):Fn Tryz.prog 7 [kMZ.is b,(kSl (kPair kZ kZ)).is t] (kBool.is true):=by
 refine aO Tryz.func7 Z Z fun m w=>Cr<|Wa Z<|Wn<|ab ?_
 by_cases hA:askE b t=0
 ·
  refine ak<|Wm Z<|Ws (f1 fn18 Z (gq b))<|Wm Z<|Ws (f1 fn19 Z (gp t))<|Ws (f2 fn41 Z Z (c_close_Plane b t (by assumption)))<|Wm Z<|Ws (aN Z Z)<|Ws (aN Z Z)<|Ax (l:=(kPair kVC (kPair kVC kRC))) (u:=(combA (plS b t false).reverse (llB b),combA (plS b t false).reverse (llU b),(rq (dstQ (combA (plS b t false).reverse (llB b)) t)))) d5 Z da (fun _=>Z) Lr fun b1=>Wa Z<|Wr<|Wm Z<|Ws (f1 fn18 Z (gq b))<|Wm Z<|Ws (f1 fn19 Z (gp t))<|Ws (f2 fn42 Z Z (c_close_Round b t (by assumption)))<|Wm Z<|Ws (aN Z Z)<|Ws (aN Z Z) ?_
  refine Ax (l:=(kPair kVC (kPair kVC kRC))) (u:=(combA (plS b t true).reverse (llB b),combA (plS b t true).reverse (llU b),(rq (dstQ (combA (plS b t true).reverse (llB b)) t)))) d5 Z da (fun _=>Z) Lr fun b2=>Wa Z<|Wr<|Wm Z<|Wm Z<|Ws (f2 fn20 Z Z (c_ref18_Check b t))<|Wa Z<|Wn<|ab<|ab<|tl 9 Z (y:=0) hA<|ak<|Wm Z<|Wm Z<|Ws (bG Z Z)<|Wm Z ?_
  refine cN 32 Z (fun h=>absurd h (fun h=>h Z))<|fun h_t32=>?_
  refine Wg Z Z (bY Z)<|Wg Z Z (bY Z)<|Wg Z Z (bG Z Z)<|Ws (cg Z Z)<|Wn ?_
  refine CN Z (fun h=>h Z) fun h_t36=>?_
  refine Ck<|ab<|Cr<|Wm Z<|Ws (bG Z Z)<|Wn ?_
  refine CN Z (fun h=>h Z) fun h_t38=>?_
  refine Ck<|ab ?_
  refine a5 (Γ:=[.fr ((kPair kVC (kPair kVC kRC)).is (combA (plS b t false).reverse (llB b),combA (plS b t false).reverse (llU b),(rq (dstQ (combA (plS b t false).reverse (llB b)) t)))),.fr (kMZ.is b),.fr ((kSl (kPair kZ kZ)).is t),.fr ((kPair kVC (kPair kVC kRC)).is (combA (plS b t false).reverse (llB b),combA (plS b t false).reverse (llU b),(rq (dstQ (combA (plS b t false).reverse (llB b)) t)))),.fr (kBool.is true),.fr (kBool.is true),.fr ((kPair kVC (kPair kVC kRC)).is (combA (plS b t true).reverse (llB b),combA (plS b t true).reverse (llU b),(rq (dstQ (combA (plS b t true).reverse (llB b)) t)))),.fr (kMZ.is b),.fr ((kSl (kPair kZ kZ)).is t),.fr ((kPair kVC (kPair kVC kRC)).is (combA (plS b t true).reverse (llB b),combA (plS b t true).reverse (llU b),(rq (dstQ (combA (plS b t true).reverse (llB b)) t)))),.fr (kBool.is true),.fr (kBool.is true)]) (aa Z (fun N=>af (p:=(kPair kVC (kPair kVC kRC)).is (combA (plS b t false).reverse (llB b),combA (plS b t false).reverse (llU b),(rq (dstQ (combA (plS b t false).reverse (llB b)) t)))) Z (mN N 1 Z) Li da Z) (om Z Z (om Z Z (aa Z (fun N=>aB fn44 (aP Z (aP Z (aP Z ao))) (c_ref18_Guess_plane b t (by assumption))) (aa Z (fun N=>f2 fn43 Z Z (gn (combA (plS b t false).reverse (llB b)) (combA (plS b t false).reverse (llU b)) (rq (dstQ (combA (plS b t false).reverse (llB b)) t)))) (om Z Z (oc (cP Z (.g Z Z) fun N=>(af (p:=(kPair kVC (kPair kVC kRC)).is (combA (plS b t true).reverse (llB b),combA (plS b t true).reverse (llU b),(rq (dstQ (combA (plS b t true).reverse (llB b)) t)))) Z (mN N 0 Z) Li da Z)) (oc (cP Z (.g Z Z) fun N=>(bY Z)) (oc (cP Z (.g Z Z) fun N=>(bY Z)) (oc (cP Z (.g Z Z) fun N=>(aB fn44 (aP Z (aP Z (aP Z ao))) (c_ref18_Guess_round b t (by assumption)))) (oc (cP Z (.g Z Z) fun N=>(f2 fn43 Z Z (gn (combA (plS b t true).reverse (llB b)) (combA (plS b t true).reverse (llU b)) (rq (dstQ (combA (plS b t true).reverse (llB b)) t))))) (aa Z (fun N=>cC Z Z) oz))))))))))))<|fun σ1=>?_
  refine Wa Z<|Wn<|aA ?_
  exact Qd Z (aI Z ay) ⟨Z,Z⟩
 ·
  refine ak<|Wm Z<|Ws (f1 fn18 Z (gq b))<|Wm Z<|Ws (f1 fn19 Z (gp t))<|Ws (f2 fn41 Z Z (c_close_Plane_bad b t (by assumption)))<|Wm Z<|Ws (aN Z Z)<|Ws (aN Z Z)<|Ax (l:=(kPair kVC (kPair kVC kRC))) (u:=([],[],(0,0))) d5 Z da (fun _=>Z) Lr fun b3=>Wa Z<|Wr<|Wm Z<|Ws (f1 fn18 Z (gq b))<|Wm Z<|Ws (f1 fn19 Z (gp t))<|Ws (f2 fn42 Z Z (c_close_Round_bad b t (by assumption)))<|Wm Z<|Ws (aN Z Z)<|Ws (aN Z Z) ?_
  refine Ax (l:=(kPair kVC (kPair kVC kRC))) (u:=([],[],(0,0))) d5 Z da (fun _=>Z) Lr fun b4=>Wa Z<|Wr<|Wm Z<|Wm Z<|Ws (f2 fn20 Z Z (c_ref18_Check b t))<|Wa Z<|Wn<|ab<|Cr<|Wm Z<|Wm Z<|Ws (bG Z Z)<|Wm Z ?_
  refine cN 32 Z (fun h=>absurd h (fun h=>h Z))<|fun h_t32=>?_
  refine Wg Z Z (bY Z)<|Wg Z Z (bY Z)<|Wg Z Z (bG Z Z)<|Ws (cg Z Z)<|Wn ?_
  refine CN Z (fun h=>h Z) fun h_t36=>?_
  refine Ck<|ab<|Cr<|Wm Z<|Ws (bG Z Z)<|Wn ?_
  refine CY Z hA fun h_t38=>?_
  refine Cr<|Ws (af (p:=(kPair kVC (kPair kVC kRC)).is ([],[],(0,0))) Z (ag 1 Z) Li da Z)<|Ws (cd fl Z bz (.nil _))<|Ws (aB fn43 (aP Z (ai Z (ah (y:=([],[],(0,0))) (by rfl)) ao)) (gn [] [] (0,0)))<|Wm Z<|Wg Z Z (af (p:=(kPair kVC (kPair kVC kRC)).is ([],[],(0,0))) Z (ag 0 Z) Li da Z)<|Wg Z Z (cd fl Z bz (.nil _))<|Wg Z Z (aB fn43 (aP Z (ai Z (ah (y:=([],[],(0,0))) (by rfl)) ao)) (gn [] [] (0,0)))<|Ws (cC Z Z)<|Wa Z<|Wn<|aA<|a8 ?_
  exact Qd Z (aI Z ay) ⟨Z,Z⟩
end Fw
set_option linter.unusedVariables false
namespace Go.Proofs.YtjbfmocbophmlaaGreat.closeGuesses
open Go.ChangeShapes Go.WideShapes Go.ChangeAt Go.RowKit Fw
theorem rd29:Rd Tryz.prog 29 kZ ZB:=rd_Z (rd_struct (fs:=[_,_]) Tryz.underlying29 (by kernel_rfl) (rdf_cons rfl (by kernel_rfl) (rd_bool Tryz.underlying4) rfl (rdf_last rfl (by kernel_rfl) (rd_sl Tryz.underlying27 (by kernel_rfl) (by decide) (rd_limb Tryz.underlying93)))))
theorem rd23:Rd Tryz.prog 23 (kSl kZ) (fun xs=>xs.length≤uptoN∧∀x∈xs,ZB x):=rd_sl Tryz.underlying23 (by kernel_rfl) (by decide) rd29
theorem rd22:Rd Tryz.prog 22 (kSl (kSl kZ)) (fun xs=>xs.length≤uptoN∧∀x∈xs,(fun xs=>xs.length≤uptoN∧∀x∈xs,ZB x) x):=rd_sl Tryz.underlying22 (by kernel_rfl) (by decide) rd23
theorem rd31:Rd Tryz.prog 31 (kPair kZ kZ) (fun x=>ZB x.1∧ZB x.2):=rd_struct (fs:=[_,_]) Tryz.underlying31 (by kernel_rfl) (rdf_cons rfl (by kernel_rfl) rd29 rfl (rdf_last rfl (by kernel_rfl) rd29))
theorem rd26:Rd Tryz.prog 26 (kSl (kPair kZ kZ)) (fun xs=>xs.length≤uptoN∧∀x∈xs,(fun x=>ZB x.1∧ZB x.2) x):=rd_sl Tryz.underlying26 (by kernel_rfl) (by decide) rd31
theorem own:ownKnob Tryz.prog.godebug=none:=by kernel_rfl
theorem laidOut:laidOutB Tryz.prog=true:=by kernel_rfl
set_option maxRecDepth 100000 in
theorem contract (H:Type) (enc:TypeId×Value→H) (W:World) (base:Nat) (args:Array Value) (ds gs:List (DataW H)) (before:List MemPlace)
    (hval:∀(j:Nat) t v,Tryz.f7.params[j]?=some t→args[j]?=some v→Value.okWide Tryz.prog W .any base t v)
    (hW:DataW.Whole enc Tryz.prog Tryz.f7.params.toList Rows.closeGuessesSpec.vars false W args.toList ds gs before) (hk:Rows.uptoSmall H (ds++gs)=true) :
    Calls Tryz.prog 7 args W fun e W'=>∃v,e = .returned v∧Rows.closeGuessesSpec.post enc Tryz.prog Tryz.f7 false true false false W args v W':=by
  have hW':=hW
  obtain ⟨p,q,hA0,hV,rfl,hfz,hnd⟩:=hW
  have hA:DataW.TrodAll enc Tryz.prog W 0 (fun _=>true) true Tryz.f7.params.toList args.toList ds p:=hA0
  rw [Tryz.params7] at hA hval
  obtain ⟨rfl,rfl⟩:=trodVars_none hV
  unfold Rows.uptoSmall at hk
  have hbulk:=of_decide_eq_true hk
  rw [List.append_nil] at hbulk
  obtain ⟨v0,vs0,d0,ds0,p0,q0,hargs,rfl,rfl,h0,r0⟩:=trodAll_cons hA
  obtain ⟨v1,vs1,d1,ds1,p1,q1,rfl,rfl,rfl,h1,r1⟩:=trodAll_cons r0
  obtain ⟨rfl,rfl,rfl⟩:=trodAll_nil r1
  obtain rfl:args=[v0,v1].toArray:=by cases args;simp_all
  simp only [Rows.uptoBulkAll] at hbulk
  obtain ⟨x0,a0,b0⟩:=arg_sl Tryz.underlying22 rd22 (hval 0 22 v0 rfl rfl) h0 (by unfold uptoN;omega)
  obtain ⟨x1,a1,b1⟩:=arg_sl Tryz.underlying26 rd26 (hval 1 26 v1 rfl rfl) h1 (by unfold uptoN;omega)
  refine ((c_law18_CloseGuesses x0 x1).calls (vs:=[v0,v1]) ⟨a0,a1,trivial⟩).mono fun e W' ⟨he,bel⟩=>?_
  subst he
  exact ⟨_,rfl,_,_,_,[],_,[],hW',trodAll_mk1 (shut_bool Tryz.underlying4 _),below_all laidOut bel (by kernel_rfl) hA0 (fun x hx=>by simpa using hW'.lt x (by simpa using hx)),rfl,bel.frame _,fun h=>by cases h⟩
set_option maxRecDepth 100000 in
theorem lifted (os:Os) (started:os.Started) (H:Type) (enc:TypeId×Value→H) (F:Stop.Interp) :
    ReturnsInHanded {} Tryz.checked os 7 .any ((Rows.OpenSpec.upto Rows.closeGuessesSpec).pre6 enc Tryz.prog Tryz.f7 Rows.closeGuessesUptoRow.domain false) (((Rows.OpenSpec.upto Rows.closeGuessesSpec).at F).post enc Tryz.prog Tryz.f7 false true false false):=by
  refine returnsInHanded_of_cond (C:=Tryz.checked) (s:=Rows.OpenSpec.upto Rows.closeGuessesSpec) (k:=Rows.uptoSmall) rfl own started (by kernel_rfl) Tryz.func7
    (OpenSpec.witness (enc:=enc) (C:=Tryz.checked) (s:=Rows.OpenSpec.upto Rows.closeGuessesSpec) (k:=Rows.uptoSmall) rfl false ⟨#[],#[.slice none 0 0,.slice none 0 0],[]⟩ 8 (by kernel_rfl) (by kernel_rfl) (by kernel_rfl)
      (x:=([.nil,.nil],[],[])) (by kernel_rfl) rfl (by kernel_rfl)) ?_
  intro W base args ds gs before hval hW _ hk _
  exact contract H enc W base args ds gs before hval hW hk
theorem over:Rows.closeGuessesUptoRow.holds Tryz.pinned (Rows.OpenSpec.upto Rows.closeGuessesSpec):=
  OpenClaim.holds_of_cond 7 Tryz.f7 rfl rfl rfl rfl rfl rfl rfl ⟨rfl,rfl,rfl,rfl,rfl⟩ rfl rfl rfl rfl rfl (by kernel_rfl) Tryz.func7 (by kernel_rfl)
    (of_decide_eq_true (by kernel_rfl)) (by unfold Func.isWrapper;first | (rw [if_pos (by decide +kernel)];kernel_rfl) | (rw [if_neg (by decide +kernel)];exact ⟨rfl,rfl⟩))
    (fun os started H enc _ F=>lifted os started H enc F)
theorem proved:Rows.CloseGuessesUptoSaid:=over
end Go.Proofs.YtjbfmocbophmlaaGreat.closeGuesses
